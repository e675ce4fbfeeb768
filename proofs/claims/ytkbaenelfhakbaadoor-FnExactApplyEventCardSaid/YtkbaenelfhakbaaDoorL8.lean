/- The law holds for all arguments that the row lets in: the plain law, and the row. -/
import Derived.Test.YtkbaenelfhakbaaDoorG8
import Derived.Test.YtkbaenelfhakbaaDoorP8
import Derived.Test.YtkbaenelfhakbaaDoorAmB
import Derived.Test.YtkbaenelfhakbaaDoorTie
import Derived.Test.YtkbaenelfhakbaaDoorCards
import Derived.SevenTiedAt
import Derived.LaidMore
import Derived.Lay
import Derived.Stop.Joined
import Derived.Test.YtkbaenelfhakbaaDoorRows
import Derived.WalkKit
import Derived.ProofKit
import Derived.OpenShut
import Derived.ShutString
import Derived.ChangeOld
import Derived.Carry
import Derived.SizedLaws
set_option linter.unusedVariables false
set_option maxRecDepth 100000
namespace Go.Proofs.YtkbaenelfhakbaaDoor.L8
open Go Go.Am Go.Am.G Go.ChangeShapes Go.WideShapes Go.ChangeAt Go.RowKit
theorem own : ownKnob Tryd.prog.godebug = none := by kernel_rfl
theorem laid : laidOutB Tryd.prog = true := by kernel_rfl
set_option maxRecDepth 100000 in
theorem liftedlaws_FnExactApplyEvent (pure : Plain) (os : Os) (started : os.Started) (H : Type) (enc : TypeId × Value → H) :
    ReturnsInHanded {} Tryd.checked os 8 .any (fun w args => (Rows.fnExactApplyEventSpec.pre enc Tryd.prog Tryd.f8 Rows.fnExactApplyEventRow.domain false w args ∧ laidMetH Tryd.prog Rows.fnExactApplyEventRow.laid w) ∧ sizedMet enc Tryd.prog Tryd.f8 (OpenSpec.ofChange Rows.fnExactApplyEventSpec) false w args) (Rows.fnExactApplyEventSpec.post enc Tryd.prog Tryd.f8 false true false false) := by
  refine returnsInHanded_of_change_and (C := Tryd.checked) (X := fun w _ => laidMetH Tryd.prog Rows.fnExactApplyEventRow.laid w) (fun _ _ _ hh h => h.of_heap hh) own started (by kernel_rfl) (fn := Tryd.f8) (by kernel_rfl)
    (ChangeSpec.witness_shaped (enc := enc) (C := Tryd.checked) (os := os) (X := fun w _ => laidMetH Tryd.prog Rows.fnExactApplyEventRow.laid w) false (World.laidAll Tryd.prog os Rows.fnExactApplyEventRow.laid) #[.agg #[.int .i64 0, .int .i64 0, .bool false, .int .i64 0, .slice none 0 0, .slice none 0 0], .agg #[.int .i64 0, .int .i64 0, .int .i64 0, .string ByteArray.empty]] 8 (World.laidAll_os _ _ _)
      (World.shaped_of_ZipB (by kernel_rfl) (by kernel_rfl)) (by kernel_rfl) (by kernel_rfl) (by kernel_rfl)
      (by rw [MakeChecks.laidMetH_plain _ _ _ (by kernel_rfl)]; exact laidMet_laidAll _ (by kernel_rfl) (by kernel_rfl))) ?_
  intro W base args ds gs before hval hW hcnd _ hL _
  have hW' := hW
  obtain ⟨p, q, hA, hV, rfl, hfz, hnd⟩ := hW
  have hA : DataW.TrodAll enc Tryd.prog W 0 (fun _ => true) true [52, 62] args.toList ds p := hA
  obtain ⟨v0, vs0, e0, es0, p0, q0, hargs, rfl, rfl, h0, r0⟩ := trodAll_cons hA
  obtain ⟨v1, vs1, e1, es1, p1, q1, rfl, rfl, rfl, h1, r1⟩ := trodAll_cons r0
  obtain ⟨rfl, rfl, rfl⟩ := trodAll_nil r1
  obtain rfl : args = #[v0, v1] := by cases args; simp_all
  obtain ⟨rfl, rfl⟩ := trodVars_none hV
  have k0 := h0
  obtain ⟨fuel0, t0⟩ := h0
  obtain ⟨c0, rfl⟩ := okWide_agg (P := Tryd.prog) (t := 52) (by kernel_rfl) (hval 0 52 v0 rfl rfl)
  obtain ⟨d0, rd0, wf0⟩ := trod_rd 12 (k := (.pr (.int .i64) (.pr (.int .i64) (.pr .bool (.pr (.int .i64) (.pr (.sl .str) (.sl .str))))))) (by kernel_rfl) t0
  have lt0 : ∀ x ∈ p0, x.block < W.heap.size := fun x hx => DataW.trod_lt _ _ _ _ t0 x hx
  have k1 := h1
  obtain ⟨fuel1, t1⟩ := h1
  obtain ⟨c1, rfl⟩ := okWide_agg (P := Tryd.prog) (t := 62) (by kernel_rfl) (hval 1 62 v1 rfl rfl)
  obtain ⟨d1, rd1, wf1⟩ := trod_rd 12 (k := (.pr (.int .i64) (.pr (.int .i64) (.pr (.int .i64) .str)))) (by kernel_rfl) t1
  have lt1 : ∀ x ∈ p1, x.block < W.heap.size := fun x hx => DataW.trod_lt _ _ _ _ t1 x hx
  obtain ⟨n, hn⟩ := pure d0 d1 wf0.toD wf1.toD Pk (fun b => some (PkS.pack Tlaws_FnExactApplyEvent (b, ())))
  have he : Klaws_FnExactApplyEvent @laws_FnExactApplyEvent n Pk ⟨[.agg (cellsOf (.pr (.int .i64) (.pr (.int .i64) (.pr .bool (.pr (.int .i64) (.pr (.sl .str) (.sl .str)))))) d0 0 (Kd.size (.pr (.int .i64) (.pr (.int .i64) (.pr .bool (.pr (.int .i64) (.pr (.sl .str) (.sl .str)))))))), .agg (cellsOf (.pr (.int .i64) (.pr (.int .i64) (.pr (.int .i64) .str))) d1 0 (Kd.size (.pr (.int .i64) (.pr (.int .i64) (.pr (.int .i64) .str)))))], []⟩ some = laws_FnExactApplyEvent n d0.1 d0.2.1 d0.2.2.1 d0.2.2.2.1 d0.2.2.2.2.1 d0.2.2.2.2.2 d1.1 d1.2.1 d1.2.2.1 d1.2.2.2 (fun b => some (PkS.pack Tlaws_FnExactApplyEvent (b, ()))) := by kernel_rfl
  refine (law_calls (args := #[.agg c0, .agg c1]) (avs := [.agg (cellsOf (.pr (.int .i64) (.pr (.int .i64) (.pr .bool (.pr (.int .i64) (.pr (.sl .str) (.sl .str)))))) d0 0 (Kd.size (.pr (.int .i64) (.pr (.int .i64) (.pr .bool (.pr (.int .i64) (.pr (.sl .str) (.sl .str)))))))), .agg (cellsOf (.pr (.int .i64) (.pr (.int .i64) (.pr (.int .i64) .str))) d1 0 (Kd.size (.pr (.int .i64) (.pr (.int .i64) (.pr (.int .i64) .str)))))]) (b := true) (oklaws_FnExactApplyEvent n) (fn := Tryd.f8) (c := bodyOf Tryd.f8) (by kernel_rfl) (by kernel_rfl) (by kernel_rfl) ⟨arg_agg rd0, ⟨arg_agg rd1, trivial⟩⟩ (he.trans hn)).mono fun e W' ⟨he, bel⟩ => ?_
  subst he
  exact ⟨_, rfl, _, _, _, [], _, [], hW', trodAll_mk1 (shut_bool (t := 4) (by kernel_rfl) _), (trodAll_cons_mk (Below.trod laid (by kernel_rfl) (of_decide_eq_true (by kernel_rfl)) k0 bel lt0) (trodAll_cons_mk (Below.trod laid (by kernel_rfl) (of_decide_eq_true (by kernel_rfl)) k1 bel lt1) trodAll_mk0)), rfl, bel.frame _, fun h => by cases h⟩
theorem overlaws_FnExactApplyEvent (pure : Plain) : Rows.fnExactApplyEventRow.holds Tryd.pinned (OpenSpec.ofChange Rows.fnExactApplyEventSpec) :=
  OpenClaim.holds_of_wide 8 Tryd.f8 rfl rfl rfl rfl rfl rfl rfl ⟨rfl, rfl, rfl, rfl, rfl⟩ rfl rfl rfl rfl rfl (by kernel_rfl) (by kernel_rfl) (by kernel_rfl)
    (of_decide_eq_true (by kernel_rfl)) (by unfold Func.isWrapper; first | (rw [if_pos (by decide +kernel)]; kernel_rfl) | (rw [if_neg (by decide +kernel)]; exact ⟨rfl, rfl⟩))
    (fun os started H enc _ => liftedlaws_FnExactApplyEvent pure os started H enc)
end Go.Proofs.YtkbaenelfhakbaaDoor.L8
namespace Go.Proofs.YtkbaenelfhakbaaDoor
theorem fnExactApplyEventCard_holds : Rows.FnExactApplyEventCardSaid :=
  Claim7.holds_tied_plain_at .later [] [.data, .pinned] true (true, "78de6f63d663a01102b089a786165f8924686ff8974155358e5d67b8384763e5") false (L8.overlaws_FnExactApplyEvent Go.Am.G.plain) (fun _ h => by cases h) (by kernel_rfl) (fun _ h => by cases h) fnExactApplyEvent_row_tie rfl ⟨rfl, rfl⟩ (by kernel_rfl) rfl
    (fun f fn hf hfn => by
      obtain rfl : f = 8 := Option.some.inj ((show Tryd.prog.funcNamed "loop.example/g00269/laws.FnExactApplyEvent" = some 8 by kernel_rfl).symm.trans hf) |>.symm
      obtain rfl : fn = Tryd.f8 := (Option.some.inj ((show Tryd.prog.funcs[8]? = some Tryd.f8 by kernel_rfl).symm.trans hfn)).symm
      exact ⟨by kernel_rfl, fun j t ht => by
        have ht' : (#[52, 62] : Array TypeId)[j]? = some t := ht
        have hm : t ∈ [52, 62] := by simpa using Array.mem_of_getElem? ht'
        have hall : ([52, 62].all fun u => !Tryd.prog.wantsStandIn u) = true := by kernel_rfl
        exact (show Tryd.prog.wantsStandIn t = false by simpa using List.all_eq_true.1 hall t hm)⟩)
    (by kernel_rfl)
end Go.Proofs.YtkbaenelfhakbaaDoor
