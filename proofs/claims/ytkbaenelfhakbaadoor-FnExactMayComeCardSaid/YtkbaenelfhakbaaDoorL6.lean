/- The law holds for all arguments that the row lets in: the plain law, and the row. -/
import Derived.Test.YtkbaenelfhakbaaDoorG6
import Derived.Test.YtkbaenelfhakbaaDoorP6
import Derived.Test.YtkbaenelfhakbaaDoorAmB
import Derived.Test.YtkbaenelfhakbaaDoorTie
import Derived.Test.YtkbaenelfhakbaaDoorCards
import Derived.SevenTiedAt
import Derived.LaidMore
import Derived.Lay
import Derived.Stop.Joined
import Derived.Test.YtkbaenelfhakbaaDoorRows
import Derived.WalkKit
import Derived.ProofKit
import Derived.OpenShut
import Derived.ShutString
import Derived.ChangeOld
import Derived.Carry
import Derived.SizedLaws
set_option linter.unusedVariables false
set_option maxRecDepth 100000
namespace Go.Proofs.YtkbaenelfhakbaaDoor.L6
open Go Go.Am Go.Am.G Go.ChangeShapes Go.WideShapes Go.ChangeAt Go.RowKit
theorem own : ownKnob Tryd.prog.godebug = none := by kernel_rfl
theorem laid : laidOutB Tryd.prog = true := by kernel_rfl
set_option maxRecDepth 100000 in
theorem liftedlaws_FnExactMayCome (pure : Plain) (os : Os) (started : os.Started) (H : Type) (enc : TypeId × Value → H) :
    ReturnsInHanded {} Tryd.checked os 6 .any (fun w args => (Rows.fnExactMayComeSpec.pre enc Tryd.prog Tryd.f6 Rows.fnExactMayComeRow.domain false w args ∧ laidMetH Tryd.prog Rows.fnExactMayComeRow.laid w) ∧ sizedMet enc Tryd.prog Tryd.f6 (OpenSpec.ofChange Rows.fnExactMayComeSpec) false w args) (Rows.fnExactMayComeSpec.post enc Tryd.prog Tryd.f6 false true false false) := by
  refine returnsInHanded_of_change_and (C := Tryd.checked) (X := fun w _ => laidMetH Tryd.prog Rows.fnExactMayComeRow.laid w) (fun _ _ _ hh h => h.of_heap hh) own started (by kernel_rfl) (fn := Tryd.f6) (by kernel_rfl)
    (ChangeSpec.witness_shaped (enc := enc) (C := Tryd.checked) (os := os) (X := fun w _ => laidMetH Tryd.prog Rows.fnExactMayComeRow.laid w) false (World.laidAll Tryd.prog os Rows.fnExactMayComeRow.laid) #[.agg #[.int .i64 0, .int .i64 0, .bool false, .int .i64 0, .slice none 0 0, .slice none 0 0], .int .i64 0, .string ByteArray.empty] 8 (World.laidAll_os _ _ _)
      (World.shaped_of_ZipB (by kernel_rfl) (by kernel_rfl)) (by kernel_rfl) (by kernel_rfl) (by kernel_rfl)
      (by rw [MakeChecks.laidMetH_plain _ _ _ (by kernel_rfl)]; exact laidMet_laidAll _ (by kernel_rfl) (by kernel_rfl))) ?_
  intro W base args ds gs before hval hW hcnd _ hL _
  have hW' := hW
  obtain ⟨p, q, hA, hV, rfl, hfz, hnd⟩ := hW
  have hA : DataW.TrodAll enc Tryd.prog W 0 (fun _ => true) true [52, 3, 9] args.toList ds p := hA
  obtain ⟨v0, vs0, e0, es0, p0, q0, hargs, rfl, rfl, h0, r0⟩ := trodAll_cons hA
  obtain ⟨v1, vs1, e1, es1, p1, q1, rfl, rfl, rfl, h1, r1⟩ := trodAll_cons r0
  obtain ⟨v2, vs2, e2, es2, p2, q2, rfl, rfl, rfl, h2, r2⟩ := trodAll_cons r1
  obtain ⟨rfl, rfl, rfl⟩ := trodAll_nil r2
  obtain rfl : args = #[v0, v1, v2] := by cases args; simp_all
  obtain ⟨rfl, rfl⟩ := trodVars_none hV
  have k0 := h0
  obtain ⟨fuel0, t0⟩ := h0
  obtain ⟨c0, rfl⟩ := okWide_agg (P := Tryd.prog) (t := 52) (by kernel_rfl) (hval 0 52 v0 rfl rfl)
  obtain ⟨d0, rd0, wf0⟩ := trod_rd 12 (k := (.pr (.int .i64) (.pr (.int .i64) (.pr .bool (.pr (.int .i64) (.pr (.sl .str) (.sl .str))))))) (by kernel_rfl) t0
  have lt0 : ∀ x ∈ p0, x.block < W.heap.size := fun x hx => DataW.trod_lt _ _ _ _ t0 x hx
  have k1 := h1
  obtain ⟨fuel1, t1⟩ := h1
  obtain ⟨x1, rfl⟩ := WideShapes.okWide_int (t := 3) (show Tryd.prog.underlying 3 = some (.int .i64) by kernel_rfl) (hval 1 3 v1 rfl rfl)
  obtain ⟨d1, rd1, wf1⟩ := trod_rd 12 (k := (.int .i64)) (by kernel_rfl) t1
  have lt1 : ∀ x ∈ p1, x.block < W.heap.size := fun x hx => DataW.trod_lt _ _ _ _ t1 x hx
  have k2 := h2
  obtain ⟨fuel2, t2⟩ := h2
  obtain ⟨x2, rfl⟩ := WideShapes.okWide_string (t := 9) (show Tryd.prog.underlying 9 = some .string by kernel_rfl) (hval 2 9 v2 rfl rfl)
  obtain ⟨d2, rd2, wf2⟩ := trod_rd 12 (k := .str) (by kernel_rfl) t2
  have lt2 : ∀ x ∈ p2, x.block < W.heap.size := fun x hx => DataW.trod_lt _ _ _ _ t2 x hx
  obtain ⟨n, hn⟩ := pure d0 d1 d2 wf0.toD wf1.toD wf2.toD Pk (fun b => some (PkS.pack Tlaws_FnExactMayCome (b, ())))
  have he : Klaws_FnExactMayCome @laws_FnExactMayCome n Pk ⟨[.agg (cellsOf (.pr (.int .i64) (.pr (.int .i64) (.pr .bool (.pr (.int .i64) (.pr (.sl .str) (.sl .str)))))) d0 0 (Kd.size (.pr (.int .i64) (.pr (.int .i64) (.pr .bool (.pr (.int .i64) (.pr (.sl .str) (.sl .str)))))))), .one (cellOf (.int .i64) d1 0), .one (cellOf .str d2 0)], []⟩ some = laws_FnExactMayCome n d0.1 d0.2.1 d0.2.2.1 d0.2.2.2.1 d0.2.2.2.2.1 d0.2.2.2.2.2 d1 d2 (fun b => some (PkS.pack Tlaws_FnExactMayCome (b, ()))) := by kernel_rfl
  refine (law_calls (args := #[.agg c0, .int .i64 x1, .string x2]) (avs := [.agg (cellsOf (.pr (.int .i64) (.pr (.int .i64) (.pr .bool (.pr (.int .i64) (.pr (.sl .str) (.sl .str)))))) d0 0 (Kd.size (.pr (.int .i64) (.pr (.int .i64) (.pr .bool (.pr (.int .i64) (.pr (.sl .str) (.sl .str)))))))), .one (cellOf (.int .i64) d1 0), .one (cellOf .str d2 0)]) (b := true) (oklaws_FnExactMayCome n) (fn := Tryd.f6) (c := bodyOf Tryd.f6) (by kernel_rfl) (by kernel_rfl) (by kernel_rfl) ⟨arg_agg rd0, ⟨arg_one rd1, ⟨arg_one rd2, trivial⟩⟩⟩ (he.trans hn)).mono fun e W' ⟨he, bel⟩ => ?_
  subst he
  exact ⟨_, rfl, _, _, _, [], _, [], hW', trodAll_mk1 (shut_bool (t := 4) (by kernel_rfl) _), (trodAll_cons_mk (Below.trod laid (by kernel_rfl) (of_decide_eq_true (by kernel_rfl)) k0 bel lt0) (trodAll_cons_mk (Below.trod laid (by kernel_rfl) (of_decide_eq_true (by kernel_rfl)) k1 bel lt1) (trodAll_cons_mk (Below.trod laid (by kernel_rfl) (of_decide_eq_true (by kernel_rfl)) k2 bel lt2) trodAll_mk0))), rfl, bel.frame _, fun h => by cases h⟩
theorem overlaws_FnExactMayCome (pure : Plain) : Rows.fnExactMayComeRow.holds Tryd.pinned (OpenSpec.ofChange Rows.fnExactMayComeSpec) :=
  OpenClaim.holds_of_wide 6 Tryd.f6 rfl rfl rfl rfl rfl rfl rfl ⟨rfl, rfl, rfl, rfl, rfl⟩ rfl rfl rfl rfl rfl (by kernel_rfl) (by kernel_rfl) (by kernel_rfl)
    (of_decide_eq_true (by kernel_rfl)) (by unfold Func.isWrapper; first | (rw [if_pos (by decide +kernel)]; kernel_rfl) | (rw [if_neg (by decide +kernel)]; exact ⟨rfl, rfl⟩))
    (fun os started H enc _ => liftedlaws_FnExactMayCome pure os started H enc)
end Go.Proofs.YtkbaenelfhakbaaDoor.L6
namespace Go.Proofs.YtkbaenelfhakbaaDoor
theorem fnExactMayComeCard_holds : Rows.FnExactMayComeCardSaid :=
  Claim7.holds_tied_plain_at .later [] [.data, .pinned] true (true, "78de6f63d663a01102b089a786165f8924686ff8974155358e5d67b8384763e5") false (L6.overlaws_FnExactMayCome Go.Am.G.plain) (fun _ h => by cases h) (by kernel_rfl) (fun _ h => by cases h) fnExactMayCome_row_tie rfl ⟨rfl, rfl⟩ (by kernel_rfl) rfl
    (fun f fn hf hfn => by
      obtain rfl : f = 6 := Option.some.inj ((show Tryd.prog.funcNamed "loop.example/g00269/laws.FnExactMayCome" = some 6 by kernel_rfl).symm.trans hf) |>.symm
      obtain rfl : fn = Tryd.f6 := (Option.some.inj ((show Tryd.prog.funcs[6]? = some Tryd.f6 by kernel_rfl).symm.trans hfn)).symm
      exact ⟨by kernel_rfl, fun j t ht => by
        have ht' : (#[52, 3, 9] : Array TypeId)[j]? = some t := ht
        have hm : t ∈ [52, 3, 9] := by simpa using Array.mem_of_getElem? ht'
        have hall : ([52, 3, 9].all fun u => !Tryd.prog.wantsStandIn u) = true := by kernel_rfl
        exact (show Tryd.prog.wantsStandIn t = false by simpa using List.all_eq_true.1 hall t hm)⟩)
    (by kernel_rfl)
end Go.Proofs.YtkbaenelfhakbaaDoor
