/- The law holds for all arguments that the row lets in: the plain law, and the row. -/
import Derived.Test.YtclmflfhhdcipaaG8
import Derived.Test.YtclmflfhhdcipaaP8
import Derived.Test.YtclmflfhhdcipaaAmB
import Derived.Test.YtclmflfhhdcipaaRows
import Derived.WalkKit
import Derived.ProofKit
import Derived.OpenShut
import Derived.ShutString
import Derived.ChangeOld
import Derived.Carry
import Derived.SizedLaws
set_option linter.unusedVariables false
set_option maxRecDepth 100000
namespace Go.Proofs.Ytclmflfhhdcipaa.L8
open Go Go.Am Go.Am.G Go.ChangeShapes Go.WideShapes Go.ChangeAt Go.RowKit
theorem own : ownKnob Try.prog.godebug = none := by kernel_rfl
theorem laid : laidOutB Try.prog = true := by kernel_rfl
set_option maxRecDepth 100000 in
theorem liftedlaws_FnExactRestrict (pure : Plain) (os : Os) (started : os.Started) (H : Type) (enc : TypeId × Value → H) :
    ReturnsInHanded {} Try.checked os 8 .any (Rows.fnExactRestrictSpec.pre6 enc Try.prog Try.f8 Rows.fnExactRestrictRow.domain false) (Rows.fnExactRestrictSpec.post enc Try.prog Try.f8 false true false false) := by
  refine returnsInHanded_of_change_sized (C := Try.checked) own started (by kernel_rfl) (fn := Try.f8) (by kernel_rfl)
    (ChangeSpec.witness6 (enc := enc) (C := Try.checked) false ⟨#[], #[.agg #[.slice none 0 0, .int .i64 0], .int .i64 0, .bool false], []⟩ 8 (by kernel_rfl) (by kernel_rfl) (by kernel_rfl) (by kernel_rfl)) ?_
  intro W base args ds gs before hval hW hcnd hsz _
  have hW' := hW
  obtain ⟨p, q, hA, hV, rfl, hfz, hnd⟩ := hW
  have hA : DataW.TrodAll enc Try.prog W 0 (fun _ => true) true [24, 3, 4] args.toList ds p := hA
  obtain ⟨v0, vs0, e0, es0, p0, q0, hargs, rfl, rfl, h0, r0⟩ := trodAll_cons hA
  obtain ⟨v1, vs1, e1, es1, p1, q1, rfl, rfl, rfl, h1, r1⟩ := trodAll_cons r0
  obtain ⟨v2, vs2, e2, es2, p2, q2, rfl, rfl, rfl, h2, r2⟩ := trodAll_cons r1
  obtain ⟨rfl, rfl, rfl⟩ := trodAll_nil r2
  obtain rfl : args = #[v0, v1, v2] := by cases args; simp_all
  obtain ⟨rfl, rfl⟩ := trodVars_none hV
  have k0 := h0
  obtain ⟨fuel0, t0⟩ := h0
  obtain ⟨c0, rfl⟩ := okWide_agg (P := Try.prog) (t := 24) (by kernel_rfl) (hval 0 24 v0 rfl rfl)
  obtain ⟨d0, rd0, wf0⟩ := trod_rd 12 (k := (.pr (.sl (.pr (.int .i64) (.pr (.int .i64) (.int .i64)))) (.int .i64))) (by kernel_rfl) t0
  have lt0 : ∀ x ∈ p0, x.block < W.heap.size := fun x hx => DataW.trod_lt _ _ _ _ t0 x hx
  have k1 := h1
  obtain ⟨fuel1, t1⟩ := h1
  obtain ⟨x1, rfl⟩ := WideShapes.okWide_int (t := 3) (show Try.prog.underlying 3 = some (.int .i64) by kernel_rfl) (hval 1 3 v1 rfl rfl)
  obtain ⟨d1, rd1, wf1⟩ := trod_rd 12 (k := (.int .i64)) (by kernel_rfl) t1
  have lt1 : ∀ x ∈ p1, x.block < W.heap.size := fun x hx => DataW.trod_lt _ _ _ _ t1 x hx
  have k2 := h2
  obtain ⟨fuel2, t2⟩ := h2
  obtain ⟨x2, rfl⟩ := WideShapes.okWide_bool (t := 4) (show Try.prog.underlying 4 = some .bool by kernel_rfl) (hval 2 4 v2 rfl rfl)
  obtain ⟨d2, rd2, wf2⟩ := trod_rd 12 (k := .bool) (by kernel_rfl) t2
  have lt2 : ∀ x ∈ p2, x.block < W.heap.size := fun x hx => DataW.trod_lt _ _ _ _ t2 x hx
  obtain ⟨n, hn⟩ := pure d0 d1 d2 wf0.toD wf1.toD wf2.toD Pk (fun b => some (PkS.pack Tlaws_FnExactRestrict (b, ())))
  have he : Klaws_FnExactRestrict @laws_FnExactRestrict n Pk ⟨[.agg (cellsOf (.pr (.sl (.pr (.int .i64) (.pr (.int .i64) (.int .i64)))) (.int .i64)) d0 0 (Kd.size (.pr (.sl (.pr (.int .i64) (.pr (.int .i64) (.int .i64)))) (.int .i64)))), .one (cellOf (.int .i64) d1 0), .one (cellOf .bool d2 0)], []⟩ some = laws_FnExactRestrict n d0.1 d0.2 d1 d2 (fun b => some (PkS.pack Tlaws_FnExactRestrict (b, ()))) := by kernel_rfl
  refine (law_calls (args := #[.agg c0, .int .i64 x1, .bool x2]) (avs := [.agg (cellsOf (.pr (.sl (.pr (.int .i64) (.pr (.int .i64) (.int .i64)))) (.int .i64)) d0 0 (Kd.size (.pr (.sl (.pr (.int .i64) (.pr (.int .i64) (.int .i64)))) (.int .i64)))), .one (cellOf (.int .i64) d1 0), .one (cellOf .bool d2 0)]) (b := true) (oklaws_FnExactRestrict n) (fn := Try.f8) (c := bodyOf Try.f8) (by kernel_rfl) (by kernel_rfl) (by kernel_rfl) ⟨arg_agg rd0, ⟨arg_one rd1, ⟨arg_one rd2, trivial⟩⟩⟩ (he.trans hn)).mono fun e W' ⟨he, bel⟩ => ?_
  subst he
  exact ⟨_, rfl, _, _, _, [], _, [], hW', trodAll_mk1 (shut_bool (t := 4) (by kernel_rfl) _), (trodAll_cons_mk (Below.trod laid (by kernel_rfl) (of_decide_eq_true (by kernel_rfl)) k0 bel lt0) (trodAll_cons_mk (Below.trod laid (by kernel_rfl) (of_decide_eq_true (by kernel_rfl)) k1 bel lt1) (trodAll_cons_mk (Below.trod laid (by kernel_rfl) (of_decide_eq_true (by kernel_rfl)) k2 bel lt2) trodAll_mk0))), rfl, bel.frame _, fun h => by cases h⟩
theorem overlaws_FnExactRestrict (pure : Plain) : Rows.fnExactRestrictRow.holds Try.pinned (OpenSpec.ofChange Rows.fnExactRestrictSpec) :=
  OpenClaim.holds_of_wide 8 Try.f8 rfl rfl rfl rfl rfl rfl rfl ⟨rfl, rfl, rfl, rfl, rfl⟩ rfl rfl rfl rfl rfl (by kernel_rfl) (by kernel_rfl) (by kernel_rfl)
    (of_decide_eq_true (by kernel_rfl)) (by unfold Func.isWrapper; first | (rw [if_pos (by decide +kernel)]; kernel_rfl) | (rw [if_neg (by decide +kernel)]; exact ⟨rfl, rfl⟩))
    (fun os started H enc _ => liftedlaws_FnExactRestrict pure os started H enc)
end Go.Proofs.Ytclmflfhhdcipaa.L8
namespace Go.Proofs.Ytclmflfhhdcipaa
theorem fnExactRestrict_holds : Rows.FnExactRestrictSaid := L8.overlaws_FnExactRestrict Go.Am.G.plain
end Go.Proofs.Ytclmflfhhdcipaa
