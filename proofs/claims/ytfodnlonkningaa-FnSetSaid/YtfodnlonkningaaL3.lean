/- The law holds for all arguments that the row lets in: the plain law, and the row. -/
import Derived.Test.YtfodnlonkningaaG3
import Derived.Test.YtfodnlonkningaaP3
import Derived.Test.YtfodnlonkningaaAmB
import Derived.Test.YtfodnlonkningaaRows
import Derived.WalkKit
import Derived.ProofKit
import Derived.OpenShut
import Derived.ShutString
import Derived.ChangeOld
import Derived.Carry
import Derived.SizedLaws
set_option linter.unusedVariables false
set_option maxRecDepth 100000
namespace Go.Proofs.Ytfodnlonkningaa.L3
open Go Go.Am Go.Am.G Go.ChangeShapes Go.WideShapes Go.ChangeAt Go.RowKit
theorem own : ownKnob Try.prog.godebug = none := by kernel_rfl
theorem laid : laidOutB Try.prog = true := by kernel_rfl
set_option maxRecDepth 100000 in
theorem liftedlaws_FnSet (pure : Plain) (os : Os) (started : os.Started) (H : Type) (enc : TypeId × Value → H) :
    ReturnsInHanded {} Try.checked os 3 .any (Rows.fnSetSpec.pre6 enc Try.prog Try.f3 Rows.fnSetRow.domain false) (Rows.fnSetSpec.post enc Try.prog Try.f3 false true false false) := by
  refine returnsInHanded_of_change_sized (C := Try.checked) own started (by kernel_rfl) (fn := Try.f3) (by kernel_rfl)
    (ChangeSpec.witness6 (enc := enc) (C := Try.checked) false ⟨#[], #[.slice none 0 0, .slice none 0 0], []⟩ 8 (by kernel_rfl) (by kernel_rfl) (by kernel_rfl) (by kernel_rfl)) ?_
  intro W base args ds gs before hval hW hcnd hsz _
  have hW' := hW
  obtain ⟨p, q, hA, hV, rfl, hfz, hnd⟩ := hW
  have hA : DataW.TrodAll enc Try.prog W 0 (fun _ => true) true [22, 22] args.toList ds p := hA
  obtain ⟨v0, vs0, e0, es0, p0, q0, hargs, rfl, rfl, h0, r0⟩ := trodAll_cons hA
  obtain ⟨v1, vs1, e1, es1, p1, q1, rfl, rfl, rfl, h1, r1⟩ := trodAll_cons r0
  obtain ⟨rfl, rfl, rfl⟩ := trodAll_nil r1
  obtain rfl : args = #[v0, v1] := by cases args; simp_all
  obtain ⟨rfl, rfl⟩ := trodVars_none hV
  have k0 := h0
  obtain ⟨fuel0, t0⟩ := h0
  obtain ⟨x0, y0, z0, rfl⟩ := WideShapes.okWide_slice (t := 22) (show Try.prog.underlying 22 = some (.slice 5) by kernel_rfl) (hval 0 22 v0 rfl rfl)
  obtain ⟨d0, rd0, wf0⟩ := trod_rd 12 (k := (.sl (.int .u8))) (by kernel_rfl) t0
  have lt0 : ∀ x ∈ p0, x.block < W.heap.size := fun x hx => DataW.trod_lt _ _ _ _ t0 x hx
  have k1 := h1
  obtain ⟨fuel1, t1⟩ := h1
  obtain ⟨x1, y1, z1, rfl⟩ := WideShapes.okWide_slice (t := 22) (show Try.prog.underlying 22 = some (.slice 5) by kernel_rfl) (hval 1 22 v1 rfl rfl)
  obtain ⟨d1, rd1, wf1⟩ := trod_rd 12 (k := (.sl (.int .u8))) (by kernel_rfl) t1
  have lt1 : ∀ x ∈ p1, x.block < W.heap.size := fun x hx => DataW.trod_lt _ _ _ _ t1 x hx
  obtain ⟨n, hn⟩ := pure d0 d1 wf0.toD wf1.toD Pk (fun b => some (PkS.pack Tlaws_FnSet (b, ())))
  have he : Klaws_FnSet @laws_FnSet n Pk ⟨[.one (cellOf (.sl (.int .u8)) d0 0), .one (cellOf (.sl (.int .u8)) d1 0)], []⟩ some = laws_FnSet n d0 d1 (fun b => some (PkS.pack Tlaws_FnSet (b, ()))) := by kernel_rfl
  refine (law_calls (args := #[.slice x0 y0 z0, .slice x1 y1 z1]) (avs := [.one (cellOf (.sl (.int .u8)) d0 0), .one (cellOf (.sl (.int .u8)) d1 0)]) (b := true) (oklaws_FnSet n) (fn := Try.f3) (c := bodyOf Try.f3) (by kernel_rfl) (by kernel_rfl) (by kernel_rfl) (.triv rfl) ⟨arg_one rd0, ⟨arg_one rd1, trivial⟩⟩ (he.trans hn)).mono fun e W' ⟨he, bel⟩ => ?_
  subst he
  exact ⟨_, rfl, _, _, _, [], _, [], hW', trodAll_mk1 (shut_bool (t := 4) (by kernel_rfl) _), (trodAll_cons_mk (Below.trod laid (by kernel_rfl) (of_decide_eq_true (by kernel_rfl)) k0 bel lt0) (trodAll_cons_mk (Below.trod laid (by kernel_rfl) (of_decide_eq_true (by kernel_rfl)) k1 bel lt1) trodAll_mk0)), rfl, bel.frame _, fun h => by cases h⟩
theorem overlaws_FnSet (pure : Plain) : Rows.fnSetRow.holds Try.pinned (OpenSpec.ofChange Rows.fnSetSpec) :=
  OpenClaim.holds_of_wide 3 Try.f3 rfl rfl rfl rfl rfl rfl rfl ⟨rfl, rfl, rfl, rfl, rfl⟩ rfl rfl rfl rfl rfl (by kernel_rfl) (by kernel_rfl) (by kernel_rfl)
    (of_decide_eq_true (by kernel_rfl)) (by unfold Func.isWrapper; first | (rw [if_pos (by decide +kernel)]; kernel_rfl) | (rw [if_neg (by decide +kernel)]; exact ⟨rfl, rfl⟩))
    (fun os started H enc _ => liftedlaws_FnSet pure os started H enc)
end Go.Proofs.Ytfodnlonkningaa.L3
namespace Go.Proofs.Ytfodnlonkningaa
theorem fnSet_holds : Rows.FnSetSaid := L3.overlaws_FnSet Go.Am.G.plain
end Go.Proofs.Ytfodnlonkningaa
