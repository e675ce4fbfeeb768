/-
  No cell of these rows narrows 'for every input' (looked for: loops, veiled, ifaces, maps, wideKeys, modest, calm, conditions, laid).
  DERIVED. THE GIVEN ROWS OF THIS SEAT. 10 by the template 'for every input the law returns true; each argument reads behind the call as it read before'; 0 by the template 'total and deterministic' (their statements: YtjijikgjefingaaTotals.lean).
  GIVEN WITH THE SEED: the statements are not yours to turn. If you find one false, say at which input.
  Laid BY PROGRAM, IN A SANDBOX (cutbox-rows.mjs): the forced cells as the released guide's own fill.sh prints them over the translation a809fed3f911b806… (all of the seat's roots in one cut). By AI agents, Wed Nov 11 2026. No macro, syntax, notation, axiom, sorry.
-/
import Derived.Test.YtjijikgjefingaaChecked
import GoSem.Claim
import GoSem.ClaimJoined
import GoSem.ClaimMapViews
import Derived.JoinedTies
import Derived.KernelRfl
namespace Go.Proofs.Ytjijikgjefingaa
/- THE CELL 'sum', in the pinned program and in every row, IS THE sha256 OF THE DUMP (.gsa) THAT YtjijikgjefingaaProg.lean LOADS. Nothing in Lean hashes anything: it is a label: what it is worth is what the hold of that sum in a sandbox is worth. -/
noncomputable def Try.pinned : Pinned := { name := "ytjijikgjefingaa", sum := "a809fed3f911b806cc6515df9a3d2a7e4941cfdb00770651ea8c0d17adf0b0ab", checked := Try.checked }
namespace Rows
def none {H : Type} : Left H := { results := [], args := [] }

/-- 'laws.FnExactGoodSaga': WHATEVER THE INPUT: true; the input reads as it did. -/
def fnExactGoodSagaSpec : ChangeSpec := { name := "fnExactGoodSaga", fn := fun _ => fun
  | [d] => { results := [.lit (.bool true)], args := [d] }
  | _ => none }
def fnExactGoodSagaRow : OpenClaim := { program := "ytjijikgjefingaa", sum := "a809fed3f911b806cc6515df9a3d2a7e4941cfdb00770651ea8c0d17adf0b0ab", func := "loop.example/g00269/laws.FnExactGoodSaga", spec := "fnExactGoodSaga", unfollowed := true, recurses := true, plainKeys := false, apart := false }
def FnExactGoodSagaSaid : Prop := fnExactGoodSagaRow.holds Try.pinned (OpenSpec.ofChange fnExactGoodSagaSpec)

/-- ITS FALSE NEIGHBOUR: 'it returns false'. Refute it at one input. -/
def fnExactGoodSagaWrong : ChangeSpec := { name := "fnExactGoodSaga", fn := fun _ => fun
  | [d] => { results := [.lit (.bool false)], args := [d] }
  | _ => none }
def FnExactGoodSagaWrongFalsely : Prop := fnExactGoodSagaRow.holds Try.pinned (OpenSpec.ofChange fnExactGoodSagaWrong)

/-- 'laws.FnExactSumIn': WHATEVER THE INPUT: true; the input reads as it did. -/
def fnExactSumInSpec : ChangeSpec := { name := "fnExactSumIn", fn := fun _ => fun
  | [d] => { results := [.lit (.bool true)], args := [d] }
  | _ => none }
def fnExactSumInRow : OpenClaim := { program := "ytjijikgjefingaa", sum := "a809fed3f911b806cc6515df9a3d2a7e4941cfdb00770651ea8c0d17adf0b0ab", func := "loop.example/g00269/laws.FnExactSumIn", spec := "fnExactSumIn", unfollowed := true, recurses := true, plainKeys := false, apart := false }
def FnExactSumInSaid : Prop := fnExactSumInRow.holds Try.pinned (OpenSpec.ofChange fnExactSumInSpec)

/-- ITS FALSE NEIGHBOUR: 'it returns false'. Refute it at one input. -/
def fnExactSumInWrong : ChangeSpec := { name := "fnExactSumIn", fn := fun _ => fun
  | [d] => { results := [.lit (.bool false)], args := [d] }
  | _ => none }
def FnExactSumInWrongFalsely : Prop := fnExactSumInRow.holds Try.pinned (OpenSpec.ofChange fnExactSumInWrong)

/-- 'laws.FnExactIsOver': WHATEVER THE INPUT: true; the input reads as it did. -/
def fnExactIsOverSpec : ChangeSpec := { name := "fnExactIsOver", fn := fun _ => fun
  | [d] => { results := [.lit (.bool true)], args := [d] }
  | _ => none }
def fnExactIsOverRow : OpenClaim := { program := "ytjijikgjefingaa", sum := "a809fed3f911b806cc6515df9a3d2a7e4941cfdb00770651ea8c0d17adf0b0ab", func := "loop.example/g00269/laws.FnExactIsOver", spec := "fnExactIsOver", unfollowed := true, recurses := true, plainKeys := false, apart := false }
def FnExactIsOverSaid : Prop := fnExactIsOverRow.holds Try.pinned (OpenSpec.ofChange fnExactIsOverSpec)

/-- ITS FALSE NEIGHBOUR: 'it returns false'. Refute it at one input. -/
def fnExactIsOverWrong : ChangeSpec := { name := "fnExactIsOver", fn := fun _ => fun
  | [d] => { results := [.lit (.bool false)], args := [d] }
  | _ => none }
def FnExactIsOverWrongFalsely : Prop := fnExactIsOverRow.holds Try.pinned (OpenSpec.ofChange fnExactIsOverWrong)

/-- 'laws.FnExactNewSaga': WHATEVER THE INPUT: true; the input reads as it did. -/
def fnExactNewSagaSpec : ChangeSpec := { name := "fnExactNewSaga", fn := fun _ => fun
  | [d1, d2] => { results := [.lit (.bool true)], args := [d1, d2] }
  | _ => none }
def fnExactNewSagaRow : OpenClaim := { program := "ytjijikgjefingaa", sum := "a809fed3f911b806cc6515df9a3d2a7e4941cfdb00770651ea8c0d17adf0b0ab", func := "loop.example/g00269/laws.FnExactNewSaga", spec := "fnExactNewSaga", unfollowed := true, recurses := true, plainKeys := false, apart := false }
def FnExactNewSagaSaid : Prop := fnExactNewSagaRow.holds Try.pinned (OpenSpec.ofChange fnExactNewSagaSpec)

/-- ITS FALSE NEIGHBOUR: 'it returns false'. Refute it at one input. -/
def fnExactNewSagaWrong : ChangeSpec := { name := "fnExactNewSaga", fn := fun _ => fun
  | [d1, d2] => { results := [.lit (.bool false)], args := [d1, d2] }
  | _ => none }
def FnExactNewSagaWrongFalsely : Prop := fnExactNewSagaRow.holds Try.pinned (OpenSpec.ofChange fnExactNewSagaWrong)

/-- 'laws.FnExactFailSaga': WHATEVER THE INPUT: true; the input reads as it did. -/
def fnExactFailSagaSpec : ChangeSpec := { name := "fnExactFailSaga", fn := fun _ => fun
  | [d] => { results := [.lit (.bool true)], args := [d] }
  | _ => none }
def fnExactFailSagaRow : OpenClaim := { program := "ytjijikgjefingaa", sum := "a809fed3f911b806cc6515df9a3d2a7e4941cfdb00770651ea8c0d17adf0b0ab", func := "loop.example/g00269/laws.FnExactFailSaga", spec := "fnExactFailSaga", unfollowed := true, recurses := true, plainKeys := false, apart := false }
def FnExactFailSagaSaid : Prop := fnExactFailSagaRow.holds Try.pinned (OpenSpec.ofChange fnExactFailSagaSpec)

/-- ITS FALSE NEIGHBOUR: 'it returns false'. Refute it at one input. -/
def fnExactFailSagaWrong : ChangeSpec := { name := "fnExactFailSaga", fn := fun _ => fun
  | [d] => { results := [.lit (.bool false)], args := [d] }
  | _ => none }
def FnExactFailSagaWrongFalsely : Prop := fnExactFailSagaRow.holds Try.pinned (OpenSpec.ofChange fnExactFailSagaWrong)

/-- 'laws.FnOrdered': WHATEVER THE INPUT: true; the input reads as it did. -/
def fnOrderedSpec : ChangeSpec := { name := "fnOrdered", fn := fun _ => fun
  | [d1, d2] => { results := [.lit (.bool true)], args := [d1, d2] }
  | _ => none }
def fnOrderedRow : OpenClaim := { program := "ytjijikgjefingaa", sum := "a809fed3f911b806cc6515df9a3d2a7e4941cfdb00770651ea8c0d17adf0b0ab", func := "loop.example/g00269/laws.FnOrdered", spec := "fnOrdered", unfollowed := true, recurses := true, plainKeys := false, apart := false }
def FnOrderedSaid : Prop := fnOrderedRow.holds Try.pinned (OpenSpec.ofChange fnOrderedSpec)

/-- ITS FALSE NEIGHBOUR: 'it returns false'. Refute it at one input. -/
def fnOrderedWrong : ChangeSpec := { name := "fnOrdered", fn := fun _ => fun
  | [d1, d2] => { results := [.lit (.bool false)], args := [d1, d2] }
  | _ => none }
def FnOrderedWrongFalsely : Prop := fnOrderedRow.holds Try.pinned (OpenSpec.ofChange fnOrderedWrong)

/-- 'laws.FnPlanned': WHATEVER THE INPUT: true; the input reads as it did. -/
def fnPlannedSpec : ChangeSpec := { name := "fnPlanned", fn := fun _ => fun
  | [d] => { results := [.lit (.bool true)], args := [d] }
  | _ => none }
def fnPlannedRow : OpenClaim := { program := "ytjijikgjefingaa", sum := "a809fed3f911b806cc6515df9a3d2a7e4941cfdb00770651ea8c0d17adf0b0ab", func := "loop.example/g00269/laws.FnPlanned", spec := "fnPlanned", unfollowed := true, recurses := true, plainKeys := false, apart := false }
def FnPlannedSaid : Prop := fnPlannedRow.holds Try.pinned (OpenSpec.ofChange fnPlannedSpec)

/-- ITS FALSE NEIGHBOUR: 'it returns false'. Refute it at one input. -/
def fnPlannedWrong : ChangeSpec := { name := "fnPlanned", fn := fun _ => fun
  | [d] => { results := [.lit (.bool false)], args := [d] }
  | _ => none }
def FnPlannedWrongFalsely : Prop := fnPlannedRow.holds Try.pinned (OpenSpec.ofChange fnPlannedWrong)

/-- 'laws.FnGraham': WHATEVER THE INPUT: true; the input reads as it did. -/
def fnGrahamSpec : ChangeSpec := { name := "fnGraham", fn := fun _ => fun
  | [d1, d2] => { results := [.lit (.bool true)], args := [d1, d2] }
  | _ => none }
def fnGrahamRow : OpenClaim := { program := "ytjijikgjefingaa", sum := "a809fed3f911b806cc6515df9a3d2a7e4941cfdb00770651ea8c0d17adf0b0ab", func := "loop.example/g00269/laws.FnGraham", spec := "fnGraham", unfollowed := true, recurses := true, plainKeys := false, apart := false }
def FnGrahamSaid : Prop := fnGrahamRow.holds Try.pinned (OpenSpec.ofChange fnGrahamSpec)

/-- ITS FALSE NEIGHBOUR: 'it returns false'. Refute it at one input. -/
def fnGrahamWrong : ChangeSpec := { name := "fnGraham", fn := fun _ => fun
  | [d1, d2] => { results := [.lit (.bool false)], args := [d1, d2] }
  | _ => none }
def FnGrahamWrongFalsely : Prop := fnGrahamRow.holds Try.pinned (OpenSpec.ofChange fnGrahamWrong)

/-- 'laws.FnInvariant': WHATEVER THE INPUT: true; the input reads as it did. -/
def fnInvariantSpec : ChangeSpec := { name := "fnInvariant", fn := fun _ => fun
  | [d1, d2] => { results := [.lit (.bool true)], args := [d1, d2] }
  | _ => none }
def fnInvariantRow : OpenClaim := { program := "ytjijikgjefingaa", sum := "a809fed3f911b806cc6515df9a3d2a7e4941cfdb00770651ea8c0d17adf0b0ab", func := "loop.example/g00269/laws.FnInvariant", spec := "fnInvariant", unfollowed := true, recurses := true, plainKeys := false, apart := false }
def FnInvariantSaid : Prop := fnInvariantRow.holds Try.pinned (OpenSpec.ofChange fnInvariantSpec)

/-- ITS FALSE NEIGHBOUR: 'it returns false'. Refute it at one input. -/
def fnInvariantWrong : ChangeSpec := { name := "fnInvariant", fn := fun _ => fun
  | [d1, d2] => { results := [.lit (.bool false)], args := [d1, d2] }
  | _ => none }
def FnInvariantWrongFalsely : Prop := fnInvariantRow.holds Try.pinned (OpenSpec.ofChange fnInvariantWrong)

/-- 'laws.FnSound': WHATEVER THE INPUT: true; the input reads as it did. -/
def fnSoundSpec : ChangeSpec := { name := "fnSound", fn := fun _ => fun
  | [d1, d2] => { results := [.lit (.bool true)], args := [d1, d2] }
  | _ => none }
def fnSoundRow : OpenClaim := { program := "ytjijikgjefingaa", sum := "a809fed3f911b806cc6515df9a3d2a7e4941cfdb00770651ea8c0d17adf0b0ab", func := "loop.example/g00269/laws.FnSound", spec := "fnSound", unfollowed := true, recurses := true, plainKeys := false, apart := false }
def FnSoundSaid : Prop := fnSoundRow.holds Try.pinned (OpenSpec.ofChange fnSoundSpec)

/-- ITS FALSE NEIGHBOUR: 'it returns false'. Refute it at one input. -/
def fnSoundWrong : ChangeSpec := { name := "fnSound", fn := fun _ => fun
  | [d1, d2] => { results := [.lit (.bool false)], args := [d1, d2] }
  | _ => none }
def FnSoundWrongFalsely : Prop := fnSoundRow.holds Try.pinned (OpenSpec.ofChange fnSoundWrong)

/- THE SECOND FORM. 'bulk': how many values and letters a reading holds, each counted each time it is reached (what is shared counts as often as it is met; a slice's spare places count too). A statement '..UptoSaid' is the law's where the arguments, and the package variables that the reading takes, are together of bulk at most 1048576: NARROWER than '..Said'. Prove '..Said' where nothing that the law and all that it calls make is longer than what came in: it says more and counts as full. Else prove '..UptoSaid'. A law counts once. -/
mutual
def uptoBulk {H : Type} : DataW H → Nat
  | .lit (.string bytes) => bytes.length + 1
  | .lit _ => 1
  | .nil => 1
  | .ptr d => uptoBulk d + 1
  | .slice elems spare => uptoBulkAll elems + uptoBulkAll spare + 1
  | .agg parts => uptoBulkAll parts + 1
  | .iface _ d => uptoBulk d + 1
  | .map entries => uptoBulkEntries entries + 1
  | .held _ => 1
def uptoBulkAll {H : Type} : List (DataW H) → Nat
  | [] => 0
  | d :: r => uptoBulk d + uptoBulkAll r
def uptoBulkEntries {H : Type} : List (Lit × DataW H) → Nat
  | [] => 0
  | x :: r => uptoBulkEntry x + uptoBulkEntries r
def uptoBulkEntry {H : Type} : Lit × DataW H → Nat
  | (.string bytes, d) => bytes.length + uptoBulk d + 1
  | (_, d) => uptoBulk d + 1
 end
def uptoSmall : (H : Type) → List (DataW H) → Bool := fun _ ds => decide (uptoBulkAll ds ≤ 1048576)
def OpenSpec.upto (s : _root_.Go.ChangeSpec) : _root_.Go.OpenSpec := { _root_.Go.OpenSpec.ofChange s with cond := some uptoSmall }

/-- 'laws.FnExactGoodSaga', WHERE WHAT IT READS IS OF BULK AT MOST 1048576: true; the input reads as it did. -/
def fnExactGoodSagaUptoRow : OpenClaim := { program := "ytjijikgjefingaa", sum := "a809fed3f911b806cc6515df9a3d2a7e4941cfdb00770651ea8c0d17adf0b0ab", func := "loop.example/g00269/laws.FnExactGoodSaga", spec := "fnExactGoodSaga", unfollowed := true, recurses := true, plainKeys := false, apart := false, narrowed := true }
def FnExactGoodSagaUptoSaid : Prop := fnExactGoodSagaUptoRow.holds Try.pinned (OpenSpec.upto fnExactGoodSagaSpec)

/-- 'laws.FnExactSumIn', WHERE WHAT IT READS IS OF BULK AT MOST 1048576: true; the input reads as it did. -/
def fnExactSumInUptoRow : OpenClaim := { program := "ytjijikgjefingaa", sum := "a809fed3f911b806cc6515df9a3d2a7e4941cfdb00770651ea8c0d17adf0b0ab", func := "loop.example/g00269/laws.FnExactSumIn", spec := "fnExactSumIn", unfollowed := true, recurses := true, plainKeys := false, apart := false, narrowed := true }
def FnExactSumInUptoSaid : Prop := fnExactSumInUptoRow.holds Try.pinned (OpenSpec.upto fnExactSumInSpec)

/-- 'laws.FnExactIsOver', WHERE WHAT IT READS IS OF BULK AT MOST 1048576: true; the input reads as it did. -/
def fnExactIsOverUptoRow : OpenClaim := { program := "ytjijikgjefingaa", sum := "a809fed3f911b806cc6515df9a3d2a7e4941cfdb00770651ea8c0d17adf0b0ab", func := "loop.example/g00269/laws.FnExactIsOver", spec := "fnExactIsOver", unfollowed := true, recurses := true, plainKeys := false, apart := false, narrowed := true }
def FnExactIsOverUptoSaid : Prop := fnExactIsOverUptoRow.holds Try.pinned (OpenSpec.upto fnExactIsOverSpec)

/-- 'laws.FnExactNewSaga', WHERE WHAT IT READS IS OF BULK AT MOST 1048576: true; the input reads as it did. -/
def fnExactNewSagaUptoRow : OpenClaim := { program := "ytjijikgjefingaa", sum := "a809fed3f911b806cc6515df9a3d2a7e4941cfdb00770651ea8c0d17adf0b0ab", func := "loop.example/g00269/laws.FnExactNewSaga", spec := "fnExactNewSaga", unfollowed := true, recurses := true, plainKeys := false, apart := false, narrowed := true }
def FnExactNewSagaUptoSaid : Prop := fnExactNewSagaUptoRow.holds Try.pinned (OpenSpec.upto fnExactNewSagaSpec)

/-- 'laws.FnExactFailSaga', WHERE WHAT IT READS IS OF BULK AT MOST 1048576: true; the input reads as it did. -/
def fnExactFailSagaUptoRow : OpenClaim := { program := "ytjijikgjefingaa", sum := "a809fed3f911b806cc6515df9a3d2a7e4941cfdb00770651ea8c0d17adf0b0ab", func := "loop.example/g00269/laws.FnExactFailSaga", spec := "fnExactFailSaga", unfollowed := true, recurses := true, plainKeys := false, apart := false, narrowed := true }
def FnExactFailSagaUptoSaid : Prop := fnExactFailSagaUptoRow.holds Try.pinned (OpenSpec.upto fnExactFailSagaSpec)

/-- 'laws.FnOrdered', WHERE WHAT IT READS IS OF BULK AT MOST 1048576: true; the input reads as it did. -/
def fnOrderedUptoRow : OpenClaim := { program := "ytjijikgjefingaa", sum := "a809fed3f911b806cc6515df9a3d2a7e4941cfdb00770651ea8c0d17adf0b0ab", func := "loop.example/g00269/laws.FnOrdered", spec := "fnOrdered", unfollowed := true, recurses := true, plainKeys := false, apart := false, narrowed := true }
def FnOrderedUptoSaid : Prop := fnOrderedUptoRow.holds Try.pinned (OpenSpec.upto fnOrderedSpec)

/-- 'laws.FnPlanned', WHERE WHAT IT READS IS OF BULK AT MOST 1048576: true; the input reads as it did. -/
def fnPlannedUptoRow : OpenClaim := { program := "ytjijikgjefingaa", sum := "a809fed3f911b806cc6515df9a3d2a7e4941cfdb00770651ea8c0d17adf0b0ab", func := "loop.example/g00269/laws.FnPlanned", spec := "fnPlanned", unfollowed := true, recurses := true, plainKeys := false, apart := false, narrowed := true }
def FnPlannedUptoSaid : Prop := fnPlannedUptoRow.holds Try.pinned (OpenSpec.upto fnPlannedSpec)

/-- 'laws.FnGraham', WHERE WHAT IT READS IS OF BULK AT MOST 1048576: true; the input reads as it did. -/
def fnGrahamUptoRow : OpenClaim := { program := "ytjijikgjefingaa", sum := "a809fed3f911b806cc6515df9a3d2a7e4941cfdb00770651ea8c0d17adf0b0ab", func := "loop.example/g00269/laws.FnGraham", spec := "fnGraham", unfollowed := true, recurses := true, plainKeys := false, apart := false, narrowed := true }
def FnGrahamUptoSaid : Prop := fnGrahamUptoRow.holds Try.pinned (OpenSpec.upto fnGrahamSpec)

/-- 'laws.FnInvariant', WHERE WHAT IT READS IS OF BULK AT MOST 1048576: true; the input reads as it did. -/
def fnInvariantUptoRow : OpenClaim := { program := "ytjijikgjefingaa", sum := "a809fed3f911b806cc6515df9a3d2a7e4941cfdb00770651ea8c0d17adf0b0ab", func := "loop.example/g00269/laws.FnInvariant", spec := "fnInvariant", unfollowed := true, recurses := true, plainKeys := false, apart := false, narrowed := true }
def FnInvariantUptoSaid : Prop := fnInvariantUptoRow.holds Try.pinned (OpenSpec.upto fnInvariantSpec)

/-- 'laws.FnSound', WHERE WHAT IT READS IS OF BULK AT MOST 1048576: true; the input reads as it did. -/
def fnSoundUptoRow : OpenClaim := { program := "ytjijikgjefingaa", sum := "a809fed3f911b806cc6515df9a3d2a7e4941cfdb00770651ea8c0d17adf0b0ab", func := "loop.example/g00269/laws.FnSound", spec := "fnSound", unfollowed := true, recurses := true, plainKeys := false, apart := false, narrowed := true }
def FnSoundUptoSaid : Prop := fnSoundUptoRow.holds Try.pinned (OpenSpec.upto fnSoundSpec)

end Rows
end Go.Proofs.Ytjijikgjefingaa
