/- The law holds for all arguments that the row lets in: the plain law, and the row. -/
import Derived.Test.YtfodnlonkningaaGreatDoorG3
import Derived.Test.YtfodnlonkningaaGreatDoorP3
import Derived.Test.YtfodnlonkningaaGreatDoorAmB
import Derived.Test.YtfodnlonkningaaGreatDoorAmQ
import Derived.Test.YtfodnlonkningaaGreatDoorTie
import Derived.Test.YtfodnlonkningaaGreatDoorCards
import Derived.SevenTiedAt
import Derived.LaidMore
import Derived.Lay
import Derived.Stop.Joined
import Derived.Test.YtfodnlonkningaaGreatDoorRows
import Derived.WalkKit
import Derived.ProofKit
import Derived.OpenShut
import Derived.ShutString
import Derived.ChangeOld
import Derived.Carry
import Derived.SizedLaws
set_option linter.unusedVariables false
set_option maxRecDepth 100000
namespace Go.Proofs.YtfodnlonkningaaGreatDoor.L3
open Go Go.Am Go.Am.G Go.ChangeShapes Go.WideShapes Go.ChangeAt Go.RowKit
theorem own : ownKnob Tryz.prog.godebug = none := by kernel_rfl
theorem laid : laidOutB Tryz.prog = true := by kernel_rfl
set_option maxRecDepth 100000 in
theorem liftedlaws_FnCronText (pure : Plain) (os : Os) (started : os.Started) (H : Type) (enc : TypeId × Value → H) :
    ReturnsInHanded {} Tryz.checked os 3 .any (fun w args => (Rows.fnCronTextSpec.pre enc Tryz.prog Tryz.f3 Rows.fnCronTextRow.domain false w args ∧ laidMetH Tryz.prog Rows.fnCronTextRow.laid w) ∧ sizedMet enc Tryz.prog Tryz.f3 (OpenSpec.ofChange Rows.fnCronTextSpec) false w args) (Rows.fnCronTextSpec.post enc Tryz.prog Tryz.f3 false true false false) := by
  refine change_and_shaped (C := Tryz.checked) (X := fun w _ => laidMetH Tryz.prog Rows.fnCronTextRow.laid w) (fun _ _ _ hh h => h.of_heap hh) own started (by kernel_rfl) (fn := Tryz.f3) (by kernel_rfl)
    (ChangeSpec.witness_shaped (enc := enc) (C := Tryz.checked) (os := os) (X := fun w _ => laidMetH Tryz.prog Rows.fnCronTextRow.laid w) false (World.laidAll Tryz.prog os Rows.fnCronTextRow.laid) #[.slice none 0 0, .slice none 0 0] 8 (World.laidAll_os _ _ _)
      (World.shaped_of_ZipB (by kernel_rfl) (by kernel_rfl)) (by kernel_rfl) (by kernel_rfl) (by kernel_rfl)
      (by rw [MakeChecks.laidMetH_plain _ _ _ (by kernel_rfl)]; exact laidMet_laidAll _ (by kernel_rfl) (by kernel_rfl))) ?_
  intro W base args ds gs before hval hW hcnd _ hL hSh _
  have hW' := hW
  obtain ⟨p, q, hA, hV, rfl, hfz, hnd⟩ := hW
  have hA : DataW.TrodAll enc Tryz.prog W 0 (fun _ => true) true [22, 22] args.toList ds p := hA
  obtain ⟨v0, vs0, e0, es0, p0, q0, hargs, rfl, rfl, h0, r0⟩ := trodAll_cons hA
  obtain ⟨v1, vs1, e1, es1, p1, q1, rfl, rfl, rfl, h1, r1⟩ := trodAll_cons r0
  obtain ⟨rfl, rfl, rfl⟩ := trodAll_nil r1
  obtain rfl : args = #[v0, v1] := by cases args; simp_all
  obtain ⟨rfl, rfl⟩ := trodVars_none hV
  have k0 := h0
  obtain ⟨fuel0, t0⟩ := h0
  obtain ⟨x0, y0, z0, rfl⟩ := WideShapes.okWide_slice (t := 22) (show Tryz.prog.underlying 22 = some (.slice 5) by kernel_rfl) (hval 0 22 v0 rfl rfl)
  obtain ⟨d0, rd0, wf0⟩ := trod_rd 12 (k := (.sl (.int .u8))) (by kernel_rfl) t0
  have lt0 : ∀ x ∈ p0, x.block < W.heap.size := fun x hx => DataW.trod_lt _ _ _ _ t0 x hx
  have k1 := h1
  obtain ⟨fuel1, t1⟩ := h1
  obtain ⟨x1, y1, z1, rfl⟩ := WideShapes.okWide_slice (t := 22) (show Tryz.prog.underlying 22 = some (.slice 5) by kernel_rfl) (hval 1 22 v1 rfl rfl)
  obtain ⟨d1, rd1, wf1⟩ := trod_rd 12 (k := (.sl (.int .u8))) (by kernel_rfl) t1
  have lt1 : ∀ x ∈ p1, x.block < W.heap.size := fun x hx => DataW.trod_lt _ _ _ _ t1 x hx
  obtain ⟨n, hn⟩ := pure d0 d1 wf0.toD wf1.toD Pk (fun b => some (PkS.pack Tlaws_FnCronText (b, ())))
  have he : Klaws_FnCronText @laws_FnCronText n Pk ⟨[.one (cellOf (.sl (.int .u8)) d0 0), .one (cellOf (.sl (.int .u8)) d1 0)], []⟩ some = laws_FnCronText n d0 d1 (fun b => some (PkS.pack Tlaws_FnCronText (b, ()))) := by kernel_rfl
  refine (law_calls (args := #[.slice x0 y0 z0, .slice x1 y1 z1]) (avs := [.one (cellOf (.sl (.int .u8)) d0 0), .one (cellOf (.sl (.int .u8)) d1 0)]) (b := true) (oklaws_FnCronText n) (fn := Tryz.f3) (c := bodyOf Tryz.f3) (by kernel_rfl) (by kernel_rfl) (by kernel_rfl) (gl_of hL hSh) ⟨arg_one rd0, ⟨arg_one rd1, trivial⟩⟩ (he.trans hn)).mono fun e W' ⟨he, bel⟩ => ?_
  subst he
  exact ⟨_, rfl, _, _, _, [], _, [], hW', trodAll_mk1 (shut_bool (t := 4) (by kernel_rfl) _), (trodAll_cons_mk (Below.trod laid (by kernel_rfl) (of_decide_eq_true (by kernel_rfl)) k0 bel lt0) (trodAll_cons_mk (Below.trod laid (by kernel_rfl) (of_decide_eq_true (by kernel_rfl)) k1 bel lt1) trodAll_mk0)), rfl, bel.frame _, fun h => by cases h⟩
theorem overlaws_FnCronText (pure : Plain) : Rows.fnCronTextRow.holds Tryz.pinned (OpenSpec.ofChange Rows.fnCronTextSpec) :=
  OpenClaim.holds_of_wide 3 Tryz.f3 rfl rfl rfl rfl rfl rfl rfl ⟨rfl, rfl, rfl, rfl, rfl⟩ rfl rfl rfl rfl rfl (by kernel_rfl) (by kernel_rfl) (by kernel_rfl)
    (of_decide_eq_true (by kernel_rfl)) (by unfold Func.isWrapper; first | (rw [if_pos (by decide +kernel)]; kernel_rfl) | (rw [if_neg (by decide +kernel)]; exact ⟨rfl, rfl⟩))
    (fun os started H enc _ => liftedlaws_FnCronText pure os started H enc)
end Go.Proofs.YtfodnlonkningaaGreatDoor.L3
namespace Go.Proofs.YtfodnlonkningaaGreatDoor
theorem fnCronTextCard_holds : Rows.FnCronTextCardSaid :=
  Claim7.holds_tied_plain_at .later [] [.data, .data, .data, .data, .sentinel, .sentinel, .pinned] true (true, "75f51a9f11e65483e3faae4edd1455fcd1df582ed0f36644f74141753eb3d716") true (L3.overlaws_FnCronText Go.Am.G.plain) (fun _ h => by cases h) (by kernel_rfl) (fun _ h => by cases h) fnCronText_row_tie rfl ⟨rfl, rfl⟩ (by kernel_rfl) rfl
    (fun f fn hf hfn => by
      obtain rfl : f = 3 := Option.some.inj ((show Tryz.prog.funcNamed "loop.example/g00269/laws.FnCronText" = some 3 by kernel_rfl).symm.trans hf) |>.symm
      obtain rfl : fn = Tryz.f3 := (Option.some.inj ((show Tryz.prog.funcs[3]? = some Tryz.f3 by kernel_rfl).symm.trans hfn)).symm
      exact ⟨by kernel_rfl, fun j t ht => by
        have ht' : (#[22, 22] : Array TypeId)[j]? = some t := ht
        have hm : t ∈ [22, 22] := by simpa using Array.mem_of_getElem? ht'
        have hall : ([22, 22].all fun u => !Tryz.prog.wantsStandIn u) = true := by kernel_rfl
        exact (show Tryz.prog.wantsStandIn t = false by simpa using List.all_eq_true.1 hall t hm)⟩)
    (by kernel_rfl)
end Go.Proofs.YtfodnlonkningaaGreatDoor
