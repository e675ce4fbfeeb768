/- The law holds for all arguments that the row lets in: the plain law, and the row. -/
import Derived.Test.YtclmflfhhdcipaaG5
import Derived.Test.YtclmflfhhdcipaaP5
import Derived.Test.YtclmflfhhdcipaaAmB
import Derived.Test.YtclmflfhhdcipaaRows
import Derived.WalkKit
import Derived.ProofKit
import Derived.OpenShut
import Derived.ShutString
import Derived.ChangeOld
import Derived.Carry
import Derived.SizedLaws
set_option linter.unusedVariables false
set_option maxRecDepth 100000
namespace Go.Proofs.Ytclmflfhhdcipaa.L5
open Go Go.Am Go.Am.G Go.ChangeShapes Go.WideShapes Go.ChangeAt Go.RowKit
theorem own : ownKnob Try.prog.godebug = none := by kernel_rfl
theorem laid : laidOutB Try.prog = true := by kernel_rfl
set_option maxRecDepth 100000 in
theorem liftedlaws_FnExactDiagramOf (pure : Plain) (os : Os) (started : os.Started) (H : Type) (enc : TypeId × Value → H) :
    ReturnsInHanded {} Try.checked os 5 .any (Rows.fnExactDiagramOfSpec.pre6 enc Try.prog Try.f5 Rows.fnExactDiagramOfRow.domain false) (Rows.fnExactDiagramOfSpec.post enc Try.prog Try.f5 false true false false) := by
  refine returnsInHanded_of_change_sized (C := Try.checked) own started (by kernel_rfl) (fn := Try.f5) (by kernel_rfl)
    (ChangeSpec.witness6 (enc := enc) (C := Try.checked) false ⟨#[], #[.string ByteArray.empty], []⟩ 8 (by kernel_rfl) (by kernel_rfl) (by kernel_rfl) (by kernel_rfl)) ?_
  intro W base args ds gs before hval hW hcnd hsz _
  have hW' := hW
  obtain ⟨p, q, hA, hV, rfl, hfz, hnd⟩ := hW
  have hA : DataW.TrodAll enc Try.prog W 0 (fun _ => true) true [9] args.toList ds p := hA
  obtain ⟨v0, vs0, e0, es0, p0, q0, hargs, rfl, rfl, h0, r0⟩ := trodAll_cons hA
  obtain ⟨rfl, rfl, rfl⟩ := trodAll_nil r0
  obtain rfl : args = #[v0] := by cases args; simp_all
  obtain ⟨rfl, rfl⟩ := trodVars_none hV
  have k0 := h0
  obtain ⟨fuel0, t0⟩ := h0
  obtain ⟨x0, rfl⟩ := WideShapes.okWide_string (t := 9) (show Try.prog.underlying 9 = some .string by kernel_rfl) (hval 0 9 v0 rfl rfl)
  obtain ⟨d0, rd0, wf0⟩ := trod_rd 12 (k := .str) (by kernel_rfl) t0
  have lt0 : ∀ x ∈ p0, x.block < W.heap.size := fun x hx => DataW.trod_lt _ _ _ _ t0 x hx
  obtain ⟨n, hn⟩ := pure d0 wf0.toD Pk (fun b => some (PkS.pack Tlaws_FnExactDiagramOf (b, ())))
  have he : Klaws_FnExactDiagramOf @laws_FnExactDiagramOf n Pk ⟨[.one (cellOf .str d0 0)], []⟩ some = laws_FnExactDiagramOf n d0 (fun b => some (PkS.pack Tlaws_FnExactDiagramOf (b, ()))) := by kernel_rfl
  refine (law_calls (args := #[.string x0]) (avs := [.one (cellOf .str d0 0)]) (b := true) (oklaws_FnExactDiagramOf n) (fn := Try.f5) (c := bodyOf Try.f5) (by kernel_rfl) (by kernel_rfl) (by kernel_rfl) ⟨arg_one rd0, trivial⟩ (he.trans hn)).mono fun e W' ⟨he, bel⟩ => ?_
  subst he
  exact ⟨_, rfl, _, _, _, [], _, [], hW', trodAll_mk1 (shut_bool (t := 4) (by kernel_rfl) _), (trodAll_cons_mk (Below.trod laid (by kernel_rfl) (of_decide_eq_true (by kernel_rfl)) k0 bel lt0) trodAll_mk0), rfl, bel.frame _, fun h => by cases h⟩
theorem overlaws_FnExactDiagramOf (pure : Plain) : Rows.fnExactDiagramOfRow.holds Try.pinned (OpenSpec.ofChange Rows.fnExactDiagramOfSpec) :=
  OpenClaim.holds_of_wide 5 Try.f5 rfl rfl rfl rfl rfl rfl rfl ⟨rfl, rfl, rfl, rfl, rfl⟩ rfl rfl rfl rfl rfl (by kernel_rfl) (by kernel_rfl) (by kernel_rfl)
    (of_decide_eq_true (by kernel_rfl)) (by unfold Func.isWrapper; first | (rw [if_pos (by decide +kernel)]; kernel_rfl) | (rw [if_neg (by decide +kernel)]; exact ⟨rfl, rfl⟩))
    (fun os started H enc _ => liftedlaws_FnExactDiagramOf pure os started H enc)
end Go.Proofs.Ytclmflfhhdcipaa.L5
namespace Go.Proofs.Ytclmflfhhdcipaa
theorem fnExactDiagramOf_holds : Rows.FnExactDiagramOfSaid := L5.overlaws_FnExactDiagramOf Go.Am.G.plain
end Go.Proofs.Ytclmflfhhdcipaa
