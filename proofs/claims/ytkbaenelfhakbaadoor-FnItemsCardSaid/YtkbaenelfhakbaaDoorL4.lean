/- The law holds for all arguments that the row lets in: the plain law, and the row. -/
import Derived.Test.YtkbaenelfhakbaaDoorG4
import Derived.Test.YtkbaenelfhakbaaDoorP4
import Derived.Test.YtkbaenelfhakbaaDoorAmB
import Derived.Test.YtkbaenelfhakbaaDoorTie
import Derived.Test.YtkbaenelfhakbaaDoorCards
import Derived.SevenTiedAt
import Derived.LaidMore
import Derived.Lay
import Derived.Stop.Joined
import Derived.Test.YtkbaenelfhakbaaDoorRows
import Derived.WalkKit
import Derived.ProofKit
import Derived.OpenShut
import Derived.ShutString
import Derived.ChangeOld
import Derived.Carry
import Derived.SizedLaws
set_option linter.unusedVariables false
set_option maxRecDepth 100000
namespace Go.Proofs.YtkbaenelfhakbaaDoor.L4
open Go Go.Am Go.Am.G Go.ChangeShapes Go.WideShapes Go.ChangeAt Go.RowKit
theorem own : ownKnob Tryd.prog.godebug = none := by kernel_rfl
theorem laid : laidOutB Tryd.prog = true := by kernel_rfl
set_option maxRecDepth 100000 in
theorem liftedlaws_FnItems (pure : Plain) (os : Os) (started : os.Started) (H : Type) (enc : TypeId × Value → H) :
    ReturnsInHanded {} Tryd.checked os 4 .any (fun w args => (Rows.fnItemsSpec.pre enc Tryd.prog Tryd.f4 Rows.fnItemsRow.domain false w args ∧ laidMetH Tryd.prog Rows.fnItemsRow.laid w) ∧ sizedMet enc Tryd.prog Tryd.f4 (OpenSpec.ofChange Rows.fnItemsSpec) false w args) (Rows.fnItemsSpec.post enc Tryd.prog Tryd.f4 false true false false) := by
  refine returnsInHanded_of_change_and (C := Tryd.checked) (X := fun w _ => laidMetH Tryd.prog Rows.fnItemsRow.laid w) (fun _ _ _ hh h => h.of_heap hh) own started (by kernel_rfl) (fn := Tryd.f4) (by kernel_rfl)
    (ChangeSpec.witness_shaped (enc := enc) (C := Tryd.checked) (os := os) (X := fun w _ => laidMetH Tryd.prog Rows.fnItemsRow.laid w) false (World.laidAll Tryd.prog os Rows.fnItemsRow.laid) #[.slice none 0 0, .slice none 0 0] 8 (World.laidAll_os _ _ _)
      (World.shaped_of_ZipB (by kernel_rfl) (by kernel_rfl)) (by kernel_rfl) (by kernel_rfl) (by kernel_rfl)
      (by rw [MakeChecks.laidMetH_plain _ _ _ (by kernel_rfl)]; exact laidMet_laidAll _ (by kernel_rfl) (by kernel_rfl))) ?_
  intro W base args ds gs before hval hW hcnd _ hL _
  have hW' := hW
  obtain ⟨p, q, hA, hV, rfl, hfz, hnd⟩ := hW
  have hA : DataW.TrodAll enc Tryd.prog W 0 (fun _ => true) true [34, 34] args.toList ds p := hA
  obtain ⟨v0, vs0, e0, es0, p0, q0, hargs, rfl, rfl, h0, r0⟩ := trodAll_cons hA
  obtain ⟨v1, vs1, e1, es1, p1, q1, rfl, rfl, rfl, h1, r1⟩ := trodAll_cons r0
  obtain ⟨rfl, rfl, rfl⟩ := trodAll_nil r1
  obtain rfl : args = #[v0, v1] := by cases args; simp_all
  obtain ⟨rfl, rfl⟩ := trodVars_none hV
  have k0 := h0
  obtain ⟨fuel0, t0⟩ := h0
  obtain ⟨x0, y0, z0, rfl⟩ := WideShapes.okWide_slice (t := 34) (show Tryd.prog.underlying 34 = some (.slice 5) by kernel_rfl) (hval 0 34 v0 rfl rfl)
  obtain ⟨d0, rd0, wf0⟩ := trod_rd 12 (k := (.sl (.int .u8))) (by kernel_rfl) t0
  have lt0 : ∀ x ∈ p0, x.block < W.heap.size := fun x hx => DataW.trod_lt _ _ _ _ t0 x hx
  have k1 := h1
  obtain ⟨fuel1, t1⟩ := h1
  obtain ⟨x1, y1, z1, rfl⟩ := WideShapes.okWide_slice (t := 34) (show Tryd.prog.underlying 34 = some (.slice 5) by kernel_rfl) (hval 1 34 v1 rfl rfl)
  obtain ⟨d1, rd1, wf1⟩ := trod_rd 12 (k := (.sl (.int .u8))) (by kernel_rfl) t1
  have lt1 : ∀ x ∈ p1, x.block < W.heap.size := fun x hx => DataW.trod_lt _ _ _ _ t1 x hx
  obtain ⟨n, hn⟩ := pure d0 d1 wf0.toD wf1.toD Pk (fun b => some (PkS.pack Tlaws_FnItems (b, ())))
  have he : Klaws_FnItems @laws_FnItems n Pk ⟨[.one (cellOf (.sl (.int .u8)) d0 0), .one (cellOf (.sl (.int .u8)) d1 0)], []⟩ some = laws_FnItems n d0 d1 (fun b => some (PkS.pack Tlaws_FnItems (b, ()))) := by kernel_rfl
  refine (law_calls (args := #[.slice x0 y0 z0, .slice x1 y1 z1]) (avs := [.one (cellOf (.sl (.int .u8)) d0 0), .one (cellOf (.sl (.int .u8)) d1 0)]) (b := true) (oklaws_FnItems n) (fn := Tryd.f4) (c := bodyOf Tryd.f4) (by kernel_rfl) (by kernel_rfl) (by kernel_rfl) ⟨arg_one rd0, ⟨arg_one rd1, trivial⟩⟩ (he.trans hn)).mono fun e W' ⟨he, bel⟩ => ?_
  subst he
  exact ⟨_, rfl, _, _, _, [], _, [], hW', trodAll_mk1 (shut_bool (t := 4) (by kernel_rfl) _), (trodAll_cons_mk (Below.trod laid (by kernel_rfl) (of_decide_eq_true (by kernel_rfl)) k0 bel lt0) (trodAll_cons_mk (Below.trod laid (by kernel_rfl) (of_decide_eq_true (by kernel_rfl)) k1 bel lt1) trodAll_mk0)), rfl, bel.frame _, fun h => by cases h⟩
theorem overlaws_FnItems (pure : Plain) : Rows.fnItemsRow.holds Tryd.pinned (OpenSpec.ofChange Rows.fnItemsSpec) :=
  OpenClaim.holds_of_wide 4 Tryd.f4 rfl rfl rfl rfl rfl rfl rfl ⟨rfl, rfl, rfl, rfl, rfl⟩ rfl rfl rfl rfl rfl (by kernel_rfl) (by kernel_rfl) (by kernel_rfl)
    (of_decide_eq_true (by kernel_rfl)) (by unfold Func.isWrapper; first | (rw [if_pos (by decide +kernel)]; kernel_rfl) | (rw [if_neg (by decide +kernel)]; exact ⟨rfl, rfl⟩))
    (fun os started H enc _ => liftedlaws_FnItems pure os started H enc)
end Go.Proofs.YtkbaenelfhakbaaDoor.L4
namespace Go.Proofs.YtkbaenelfhakbaaDoor
theorem fnItemsCard_holds : Rows.FnItemsCardSaid :=
  Claim7.holds_tied_plain_at .later [] [.data, .pinned] true (true, "78de6f63d663a01102b089a786165f8924686ff8974155358e5d67b8384763e5") false (L4.overlaws_FnItems Go.Am.G.plain) (fun _ h => by cases h) (by kernel_rfl) (fun _ h => by cases h) fnItems_row_tie rfl ⟨rfl, rfl⟩ (by kernel_rfl) rfl
    (fun f fn hf hfn => by
      obtain rfl : f = 4 := Option.some.inj ((show Tryd.prog.funcNamed "loop.example/g00269/laws.FnItems" = some 4 by kernel_rfl).symm.trans hf) |>.symm
      obtain rfl : fn = Tryd.f4 := (Option.some.inj ((show Tryd.prog.funcs[4]? = some Tryd.f4 by kernel_rfl).symm.trans hfn)).symm
      exact ⟨by kernel_rfl, fun j t ht => by
        have ht' : (#[34, 34] : Array TypeId)[j]? = some t := ht
        have hm : t ∈ [34, 34] := by simpa using Array.mem_of_getElem? ht'
        have hall : ([34, 34].all fun u => !Tryd.prog.wantsStandIn u) = true := by kernel_rfl
        exact (show Tryd.prog.wantsStandIn t = false by simpa using List.all_eq_true.1 hall t hm)⟩)
    (by kernel_rfl)
end Go.Proofs.YtkbaenelfhakbaaDoor
