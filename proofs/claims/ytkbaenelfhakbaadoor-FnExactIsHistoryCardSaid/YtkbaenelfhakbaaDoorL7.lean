/- The law holds for all arguments that the row lets in: the plain law, and the row. -/
import Derived.Test.YtkbaenelfhakbaaDoorG7
import Derived.Test.YtkbaenelfhakbaaDoorP7
import Derived.Test.YtkbaenelfhakbaaDoorAmB
import Derived.Test.YtkbaenelfhakbaaDoorTie
import Derived.Test.YtkbaenelfhakbaaDoorCards
import Derived.SevenTiedAt
import Derived.LaidMore
import Derived.Lay
import Derived.Stop.Joined
import Derived.Test.YtkbaenelfhakbaaDoorRows
import Derived.WalkKit
import Derived.ProofKit
import Derived.OpenShut
import Derived.ShutString
import Derived.ChangeOld
import Derived.Carry
import Derived.SizedLaws
set_option linter.unusedVariables false
set_option maxRecDepth 100000
namespace Go.Proofs.YtkbaenelfhakbaaDoor.L7
open Go Go.Am Go.Am.G Go.ChangeShapes Go.WideShapes Go.ChangeAt Go.RowKit
theorem own : ownKnob Tryd.prog.godebug = none := by kernel_rfl
theorem laid : laidOutB Tryd.prog = true := by kernel_rfl
set_option maxRecDepth 100000 in
theorem liftedlaws_FnExactIsHistory (pure : Plain) (os : Os) (started : os.Started) (H : Type) (enc : TypeId × Value → H) :
    ReturnsInHanded {} Tryd.checked os 7 .any (fun w args => (Rows.fnExactIsHistorySpec.pre enc Tryd.prog Tryd.f7 Rows.fnExactIsHistoryRow.domain false w args ∧ laidMetH Tryd.prog Rows.fnExactIsHistoryRow.laid w) ∧ sizedMet enc Tryd.prog Tryd.f7 (OpenSpec.ofChange Rows.fnExactIsHistorySpec) false w args) (Rows.fnExactIsHistorySpec.post enc Tryd.prog Tryd.f7 false true false false) := by
  refine returnsInHanded_of_change_and (C := Tryd.checked) (X := fun w _ => laidMetH Tryd.prog Rows.fnExactIsHistoryRow.laid w) (fun _ _ _ hh h => h.of_heap hh) own started (by kernel_rfl) (fn := Tryd.f7) (by kernel_rfl)
    (ChangeSpec.witness_shaped (enc := enc) (C := Tryd.checked) (os := os) (X := fun w _ => laidMetH Tryd.prog Rows.fnExactIsHistoryRow.laid w) false (World.laidAll Tryd.prog os Rows.fnExactIsHistoryRow.laid) #[.slice none 0 0] 8 (World.laidAll_os _ _ _)
      (World.shaped_of_ZipB (by kernel_rfl) (by kernel_rfl)) (by kernel_rfl) (by kernel_rfl) (by kernel_rfl)
      (by rw [MakeChecks.laidMetH_plain _ _ _ (by kernel_rfl)]; exact laidMet_laidAll _ (by kernel_rfl) (by kernel_rfl))) ?_
  intro W base args ds gs before hval hW hcnd _ hL _
  have hW' := hW
  obtain ⟨p, q, hA, hV, rfl, hfz, hnd⟩ := hW
  have hA : DataW.TrodAll enc Tryd.prog W 0 (fun _ => true) true [22] args.toList ds p := hA
  obtain ⟨v0, vs0, e0, es0, p0, q0, hargs, rfl, rfl, h0, r0⟩ := trodAll_cons hA
  obtain ⟨rfl, rfl, rfl⟩ := trodAll_nil r0
  obtain rfl : args = #[v0] := by cases args; simp_all
  obtain ⟨rfl, rfl⟩ := trodVars_none hV
  have k0 := h0
  obtain ⟨fuel0, t0⟩ := h0
  obtain ⟨x0, y0, z0, rfl⟩ := WideShapes.okWide_slice (t := 22) (show Tryd.prog.underlying 22 = some (.slice 62) by kernel_rfl) (hval 0 22 v0 rfl rfl)
  obtain ⟨d0, rd0, wf0⟩ := trod_rd 12 (k := (.sl (.pr (.int .i64) (.pr (.int .i64) (.pr (.int .i64) .str))))) (by kernel_rfl) t0
  have lt0 : ∀ x ∈ p0, x.block < W.heap.size := fun x hx => DataW.trod_lt _ _ _ _ t0 x hx
  obtain ⟨n, hn⟩ := pure d0 wf0.toD Pk (fun b => some (PkS.pack Tlaws_FnExactIsHistory (b, ())))
  have he : Klaws_FnExactIsHistory @laws_FnExactIsHistory n Pk ⟨[.one (cellOf (.sl (.pr (.int .i64) (.pr (.int .i64) (.pr (.int .i64) .str)))) d0 0)], []⟩ some = laws_FnExactIsHistory n d0 (fun b => some (PkS.pack Tlaws_FnExactIsHistory (b, ()))) := by kernel_rfl
  refine (law_calls (args := #[.slice x0 y0 z0]) (avs := [.one (cellOf (.sl (.pr (.int .i64) (.pr (.int .i64) (.pr (.int .i64) .str)))) d0 0)]) (b := true) (oklaws_FnExactIsHistory n) (fn := Tryd.f7) (c := bodyOf Tryd.f7) (by kernel_rfl) (by kernel_rfl) (by kernel_rfl) ⟨arg_one rd0, trivial⟩ (he.trans hn)).mono fun e W' ⟨he, bel⟩ => ?_
  subst he
  exact ⟨_, rfl, _, _, _, [], _, [], hW', trodAll_mk1 (shut_bool (t := 4) (by kernel_rfl) _), (trodAll_cons_mk (Below.trod laid (by kernel_rfl) (of_decide_eq_true (by kernel_rfl)) k0 bel lt0) trodAll_mk0), rfl, bel.frame _, fun h => by cases h⟩
theorem overlaws_FnExactIsHistory (pure : Plain) : Rows.fnExactIsHistoryRow.holds Tryd.pinned (OpenSpec.ofChange Rows.fnExactIsHistorySpec) :=
  OpenClaim.holds_of_wide 7 Tryd.f7 rfl rfl rfl rfl rfl rfl rfl ⟨rfl, rfl, rfl, rfl, rfl⟩ rfl rfl rfl rfl rfl (by kernel_rfl) (by kernel_rfl) (by kernel_rfl)
    (of_decide_eq_true (by kernel_rfl)) (by unfold Func.isWrapper; first | (rw [if_pos (by decide +kernel)]; kernel_rfl) | (rw [if_neg (by decide +kernel)]; exact ⟨rfl, rfl⟩))
    (fun os started H enc _ => liftedlaws_FnExactIsHistory pure os started H enc)
end Go.Proofs.YtkbaenelfhakbaaDoor.L7
namespace Go.Proofs.YtkbaenelfhakbaaDoor
theorem fnExactIsHistoryCard_holds : Rows.FnExactIsHistoryCardSaid :=
  Claim7.holds_tied_plain_at .later [] [.data, .pinned] true (true, "78de6f63d663a01102b089a786165f8924686ff8974155358e5d67b8384763e5") false (L7.overlaws_FnExactIsHistory Go.Am.G.plain) (fun _ h => by cases h) (by kernel_rfl) (fun _ h => by cases h) fnExactIsHistory_row_tie rfl ⟨rfl, rfl⟩ (by kernel_rfl) rfl
    (fun f fn hf hfn => by
      obtain rfl : f = 7 := Option.some.inj ((show Tryd.prog.funcNamed "loop.example/g00269/laws.FnExactIsHistory" = some 7 by kernel_rfl).symm.trans hf) |>.symm
      obtain rfl : fn = Tryd.f7 := (Option.some.inj ((show Tryd.prog.funcs[7]? = some Tryd.f7 by kernel_rfl).symm.trans hfn)).symm
      exact ⟨by kernel_rfl, fun j t ht => by
        have ht' : (#[22] : Array TypeId)[j]? = some t := ht
        have hm : t ∈ [22] := by simpa using Array.mem_of_getElem? ht'
        have hall : ([22].all fun u => !Tryd.prog.wantsStandIn u) = true := by kernel_rfl
        exact (show Tryd.prog.wantsStandIn t = false by simpa using List.all_eq_true.1 hall t hm)⟩)
    (by kernel_rfl)
end Go.Proofs.YtkbaenelfhakbaaDoor
