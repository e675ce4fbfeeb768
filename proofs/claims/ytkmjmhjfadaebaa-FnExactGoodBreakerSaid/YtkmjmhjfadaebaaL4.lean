/- The law holds for all arguments that the row lets in: the plain law, and the row. -/
import Derived.Test.YtkmjmhjfadaebaaG4
import Derived.Test.YtkmjmhjfadaebaaRows
import Derived.WalkKit
import Derived.ProofKit
import Derived.OpenShut
import Derived.ShutString
import Derived.ChangeOld
import Derived.Carry
import Derived.SizedLaws
set_option linter.unusedVariables false
set_option maxRecDepth 100000
namespace Go.Proofs.Ytkmjmhjfadaebaa.L4
open Go Go.Am Go.Am.G4 Go.ChangeShapes Go.WideShapes Go.ChangeAt Go.RowKit
theorem own : ownKnob Try.prog.godebug = none := by kernel_rfl
theorem laid : laidOutB Try.prog = true := by kernel_rfl
/-- The plain law. -/
def Puref4 : Prop := ∀ (d0 : Kd.den (.pr (.int .i64) (.pr (.int .i64) (.pr (.int .i64) (.pr (.int .i64) (.int .i64)))))), wfK (.pr (.int .i64) (.pr (.int .i64) (.pr (.int .i64) (.pr (.int .i64) (.int .i64))))) d0 → ∃ n, f4 (R := Pk) n d0.1 d0.2.1 d0.2.2.1 d0.2.2.2.1 d0.2.2.2.2 (fun b => some (PkS.pack Tf4 (b, ()))) = some (PkS.pack Tf4 (true, ()))
set_option maxRecDepth 100000 in
theorem liftedf4 (pure : Puref4) (os : Os) (started : os.Started) (H : Type) (enc : TypeId × Value → H) :
    ReturnsInHanded {} Try.checked os 4 .any (Rows.fnExactGoodBreakerSpec.pre6 enc Try.prog Try.f4 Rows.fnExactGoodBreakerRow.domain false) (Rows.fnExactGoodBreakerSpec.post enc Try.prog Try.f4 false true false false) := by
  refine returnsInHanded_of_change_sized (C := Try.checked) own started (by kernel_rfl) (fn := Try.f4) (by kernel_rfl)
    (ChangeSpec.witness6 (enc := enc) (C := Try.checked) false ⟨#[], #[.agg #[.int .i64 0, .int .i64 0, .int .i64 0, .int .i64 0, .int .i64 0]], []⟩ 8 (by kernel_rfl) (by kernel_rfl) (by kernel_rfl) (by kernel_rfl)) ?_
  intro W base args ds gs before hval hW hcnd hsz _
  have hW' := hW
  obtain ⟨p, q, hA, hV, rfl, hfz, hnd⟩ := hW
  have hA : DataW.TrodAll enc Try.prog W 0 (fun _ => true) true [29] args.toList ds p := hA
  obtain ⟨v0, vs0, e0, es0, p0, q0, hargs, rfl, rfl, h0, r0⟩ := trodAll_cons hA
  obtain ⟨rfl, rfl, rfl⟩ := trodAll_nil r0
  obtain rfl : args = #[v0] := by cases args; simp_all
  obtain ⟨rfl, rfl⟩ := trodVars_none hV
  have k0 := h0
  obtain ⟨fuel0, t0⟩ := h0
  obtain ⟨c0, rfl⟩ := okWide_agg (P := Try.prog) (t := 29) (by kernel_rfl) (hval 0 29 v0 rfl rfl)
  obtain ⟨d0, rd0, wf0⟩ := trod_rd 12 (k := (.pr (.int .i64) (.pr (.int .i64) (.pr (.int .i64) (.pr (.int .i64) (.int .i64)))))) (by kernel_rfl) t0
  have lt0 : ∀ x ∈ p0, x.block < W.heap.size := fun x hx => DataW.trod_lt _ _ _ _ t0 x hx
  obtain ⟨n, hn⟩ := pure d0 wf0
  have he : Kf4 n Pk ⟨[.agg (cellsOf (.pr (.int .i64) (.pr (.int .i64) (.pr (.int .i64) (.pr (.int .i64) (.int .i64))))) d0 0 (Kd.size (.pr (.int .i64) (.pr (.int .i64) (.pr (.int .i64) (.pr (.int .i64) (.int .i64)))))))], []⟩ some = f4 n d0.1 d0.2.1 d0.2.2.1 d0.2.2.2.1 d0.2.2.2.2 (fun b => some (PkS.pack Tf4 (b, ()))) := by kernel_rfl
  refine (law_calls (args := #[.agg c0]) (avs := [.agg (cellsOf (.pr (.int .i64) (.pr (.int .i64) (.pr (.int .i64) (.pr (.int .i64) (.int .i64))))) d0 0 (Kd.size (.pr (.int .i64) (.pr (.int .i64) (.pr (.int .i64) (.pr (.int .i64) (.int .i64)))))))]) (b := true) (okf4 n) (fn := Try.f4) (c := bodyOf Try.f4) (by kernel_rfl) (by kernel_rfl) (by kernel_rfl) ⟨arg_agg rd0, trivial⟩ (he.trans hn)).mono fun e W' ⟨he, bel⟩ => ?_
  subst he
  exact ⟨_, rfl, _, _, _, [], _, [], hW', trodAll_mk1 (shut_bool (t := 4) (by kernel_rfl) _), (trodAll_cons_mk (Below.trod laid (by kernel_rfl) (of_decide_eq_true (by kernel_rfl)) k0 bel lt0) trodAll_mk0), rfl, bel.frame _, fun h => by cases h⟩
theorem overf4 (pure : Puref4) : Rows.fnExactGoodBreakerRow.holds Try.pinned (OpenSpec.ofChange Rows.fnExactGoodBreakerSpec) :=
  OpenClaim.holds_of_wide 4 Try.f4 rfl rfl rfl rfl rfl rfl rfl ⟨rfl, rfl, rfl, rfl, rfl⟩ rfl rfl rfl rfl rfl (by kernel_rfl) (by kernel_rfl) (by kernel_rfl)
    (of_decide_eq_true (by kernel_rfl)) (by unfold Func.isWrapper; first | (rw [if_pos (by decide +kernel)]; kernel_rfl) | (rw [if_neg (by decide +kernel)]; exact ⟨rfl, rfl⟩))
    (fun os started H enc _ => liftedf4 pure os started H enc)
end Go.Proofs.Ytkmjmhjfadaebaa.L4

set_option linter.unusedVariables false
namespace Go.Proofs.Ytkmjmhjfadaebaa.L4
open Go Go.Am Go.Am.G4
theorem wrap_small {n : Int} (h1 : 0 ≤ n) (h2 : n ≤ 100) : IntKind.wrap .i64 n = n := by
  simp only [IntKind.wrap, IntKind.signed, IntKind.bits]
  simp
  omega
theorem key4 (a b c e g : Int) : f4 (R := Pk) 0 a b c e g (fun b => some (PkS.pack Tf4 (b, ()))) = some (PkS.pack Tf4 (true, ())) := by
  simp only [f4, f19, f18, f53, f20, f54, f55]
  by_cases h1 : a ≥ 1 <;> by_cases h2 : a ≤ 20 <;> simp only [h1, h2, decide_true, decide_false, cond_true, cond_false, Bool.not_true, Bool.not_false] <;> try rfl
  by_cases h3 : b ≥ 1 <;> by_cases h4 : b ≤ 10000 <;> simp only [h3, h4, decide_true, decide_false, cond_true, cond_false, Bool.not_true, Bool.not_false] <;> try rfl
  by_cases h5 : c ≥ 0 <;> by_cases h6 : c ≤ 2 <;> simp only [h5, h6, decide_true, decide_false, cond_true, cond_false, Bool.not_true, Bool.not_false] <;> try rfl
  rw [wrap_small (n := a - 1) (by omega) (by omega)]
  have e1 : decide (e ≤ a - 1) = decide (e < a) := decide_eq_decide.2 (by omega)
  rw [e1]
  generalize decide (g ≥ 0) = P1
  generalize decide (g ≤ 1000000) = P2
  generalize (g == 0) = P3
  generalize (c == 0) = C
  by_cases h14 : e = a
  · have q1 : (e == a) = true := beq_iff_eq.2 h14
    have q2 : decide (e ≥ 0) = true := decide_eq_true (by omega)
    have q3 : decide (e ≤ a) = true := decide_eq_true (by omega)
    have q4 : decide (e < a) = false := decide_eq_false (by omega)
    rw [q1, q2, q3, q4]
    cases P1 <;> cases P2 <;> cases P3 <;> cases C <;> rfl
  · have q1 : (e == a) = false := beq_eq_false_iff_ne.2 h14
    by_cases h13 : e < a
    · have q3 : decide (e ≤ a) = true := decide_eq_true (by omega)
      rw [q1, q3, decide_eq_true h13]
      generalize decide (e ≥ 0) = P4
      cases P1 <;> cases P2 <;> cases P3 <;> cases C <;> cases P4 <;> rfl
    · rw [q1, decide_eq_false h13]
      generalize decide (e ≥ 0) = P4
      generalize decide (e ≤ a) = P5
      cases P1 <;> cases P2 <;> cases P3 <;> cases C <;> cases P4 <;> cases P5 <;> rfl
theorem pure4 : Puref4 := fun ⟨a, b, c, e, g⟩ _ => ⟨0, key4 a b c e g⟩
end Go.Proofs.Ytkmjmhjfadaebaa.L4
namespace Go.Proofs.Ytkmjmhjfadaebaa
theorem goodBreaker_holds : Rows.FnExactGoodBreakerSaid := L4.overf4 L4.pure4
end Go.Proofs.Ytkmjmhjfadaebaa
