/-
  No cell of these rows narrows 'for every input' (looked for: loops, veiled, ifaces, maps, wideKeys, modest, calm, conditions, laid).
  DERIVED. THE GIVEN ROWS OF THIS SEAT. 9 by the template 'for every input the law returns true; each argument reads behind the call as it read before'; 0 by the template 'total and deterministic' (their statements: YtclmflfhhdcipaaTotals.lean).
  GIVEN WITH THE SEED: the statements are not yours to turn. If you find one false, say at which input.
  Laid BY PROGRAM, IN A SANDBOX (cutbox-rows.mjs): the forced cells as the released guide's own fill.sh prints them over the translation cd7d10200e49d862… (all of the seat's roots in one cut). By AI agents, Wed Nov 11 2026. No macro, syntax, notation, axiom, sorry.
-/
import Derived.Test.YtclmflfhhdcipaaChecked
import GoSem.Claim
import GoSem.ClaimJoined
import GoSem.ClaimMapViews
import Derived.JoinedTies
import Derived.KernelRfl
namespace Go.Proofs.Ytclmflfhhdcipaa
/- THE CELL 'sum', in the pinned program and in every row, IS THE sha256 OF THE DUMP (.gsa) THAT YtclmflfhhdcipaaProg.lean LOADS. Nothing in Lean hashes anything: it is a label: what it is worth is what the hold of that sum in a sandbox is worth. -/
noncomputable def Try.pinned : Pinned := { name := "ytclmflfhhdcipaa", sum := "cd7d10200e49d86210598a52ee158cc2dc4e98044f30c2e2630a0995ee9e5bd1", checked := Try.checked }
namespace Rows
def none {H : Type} : Left H := { results := [], args := [] }

/-- 'laws.FnExactGoodDiagram': WHATEVER THE INPUT: true; the input reads as it did. -/
def fnExactGoodDiagramSpec : ChangeSpec := { name := "fnExactGoodDiagram", fn := fun _ => fun
  | [d] => { results := [.lit (.bool true)], args := [d] }
  | _ => none }
def fnExactGoodDiagramRow : OpenClaim := { program := "ytclmflfhhdcipaa", sum := "cd7d10200e49d86210598a52ee158cc2dc4e98044f30c2e2630a0995ee9e5bd1", func := "loop.example/g00269/laws.FnExactGoodDiagram", spec := "fnExactGoodDiagram", unfollowed := true, recurses := true, apart := false }
def FnExactGoodDiagramSaid : Prop := fnExactGoodDiagramRow.holds Try.pinned (OpenSpec.ofChange fnExactGoodDiagramSpec)

/-- ITS FALSE NEIGHBOUR: 'it returns false'. Refute it at one input. -/
def fnExactGoodDiagramWrong : ChangeSpec := { name := "fnExactGoodDiagram", fn := fun _ => fun
  | [d] => { results := [.lit (.bool false)], args := [d] }
  | _ => none }
def FnExactGoodDiagramWrongFalsely : Prop := fnExactGoodDiagramRow.holds Try.pinned (OpenSpec.ofChange fnExactGoodDiagramWrong)

/-- 'laws.FnExactDecide': WHATEVER THE INPUT: true; the input reads as it did. -/
def fnExactDecideSpec : ChangeSpec := { name := "fnExactDecide", fn := fun _ => fun
  | [d1, d2] => { results := [.lit (.bool true)], args := [d1, d2] }
  | _ => none }
def fnExactDecideRow : OpenClaim := { program := "ytclmflfhhdcipaa", sum := "cd7d10200e49d86210598a52ee158cc2dc4e98044f30c2e2630a0995ee9e5bd1", func := "loop.example/g00269/laws.FnExactDecide", spec := "fnExactDecide", unfollowed := true, recurses := true, apart := false }
def FnExactDecideSaid : Prop := fnExactDecideRow.holds Try.pinned (OpenSpec.ofChange fnExactDecideSpec)

/-- ITS FALSE NEIGHBOUR: 'it returns false'. Refute it at one input. -/
def fnExactDecideWrong : ChangeSpec := { name := "fnExactDecide", fn := fun _ => fun
  | [d1, d2] => { results := [.lit (.bool false)], args := [d1, d2] }
  | _ => none }
def FnExactDecideWrongFalsely : Prop := fnExactDecideRow.holds Try.pinned (OpenSpec.ofChange fnExactDecideWrong)

/-- 'laws.FnExactDiagramOf': WHATEVER THE INPUT: true; the input reads as it did. -/
def fnExactDiagramOfSpec : ChangeSpec := { name := "fnExactDiagramOf", fn := fun _ => fun
  | [d] => { results := [.lit (.bool true)], args := [d] }
  | _ => none }
def fnExactDiagramOfRow : OpenClaim := { program := "ytclmflfhhdcipaa", sum := "cd7d10200e49d86210598a52ee158cc2dc4e98044f30c2e2630a0995ee9e5bd1", func := "loop.example/g00269/laws.FnExactDiagramOf", spec := "fnExactDiagramOf", inPlace := ["internal/bytealg.IndexByteString"], recurses := true, apart := false }
def FnExactDiagramOfSaid : Prop := fnExactDiagramOfRow.holds Try.pinned (OpenSpec.ofChange fnExactDiagramOfSpec)

/-- ITS FALSE NEIGHBOUR: 'it returns false'. Refute it at one input. -/
def fnExactDiagramOfWrong : ChangeSpec := { name := "fnExactDiagramOf", fn := fun _ => fun
  | [d] => { results := [.lit (.bool false)], args := [d] }
  | _ => none }
def FnExactDiagramOfWrongFalsely : Prop := fnExactDiagramOfRow.holds Try.pinned (OpenSpec.ofChange fnExactDiagramOfWrong)

/-- 'laws.FnExactCountYes': WHATEVER THE INPUT: true; the input reads as it did. -/
def fnExactCountYesSpec : ChangeSpec := { name := "fnExactCountYes", fn := fun _ => fun
  | [d] => { results := [.lit (.bool true)], args := [d] }
  | _ => none }
def fnExactCountYesRow : OpenClaim := { program := "ytclmflfhhdcipaa", sum := "cd7d10200e49d86210598a52ee158cc2dc4e98044f30c2e2630a0995ee9e5bd1", func := "loop.example/g00269/laws.FnExactCountYes", spec := "fnExactCountYes", unfollowed := true, recurses := true, apart := false }
def FnExactCountYesSaid : Prop := fnExactCountYesRow.holds Try.pinned (OpenSpec.ofChange fnExactCountYesSpec)

/-- ITS FALSE NEIGHBOUR: 'it returns false'. Refute it at one input. -/
def fnExactCountYesWrong : ChangeSpec := { name := "fnExactCountYes", fn := fun _ => fun
  | [d] => { results := [.lit (.bool false)], args := [d] }
  | _ => none }
def FnExactCountYesWrongFalsely : Prop := fnExactCountYesRow.holds Try.pinned (OpenSpec.ofChange fnExactCountYesWrong)

/-- 'laws.FnExactNotOf': WHATEVER THE INPUT: true; the input reads as it did. -/
def fnExactNotOfSpec : ChangeSpec := { name := "fnExactNotOf", fn := fun _ => fun
  | [d] => { results := [.lit (.bool true)], args := [d] }
  | _ => none }
def fnExactNotOfRow : OpenClaim := { program := "ytclmflfhhdcipaa", sum := "cd7d10200e49d86210598a52ee158cc2dc4e98044f30c2e2630a0995ee9e5bd1", func := "loop.example/g00269/laws.FnExactNotOf", spec := "fnExactNotOf", unfollowed := true, recurses := true, apart := false }
def FnExactNotOfSaid : Prop := fnExactNotOfRow.holds Try.pinned (OpenSpec.ofChange fnExactNotOfSpec)

/-- ITS FALSE NEIGHBOUR: 'it returns false'. Refute it at one input. -/
def fnExactNotOfWrong : ChangeSpec := { name := "fnExactNotOf", fn := fun _ => fun
  | [d] => { results := [.lit (.bool false)], args := [d] }
  | _ => none }
def FnExactNotOfWrongFalsely : Prop := fnExactNotOfRow.holds Try.pinned (OpenSpec.ofChange fnExactNotOfWrong)

/-- 'laws.FnExactRestrict': WHATEVER THE INPUT: true; the input reads as it did. -/
def fnExactRestrictSpec : ChangeSpec := { name := "fnExactRestrict", fn := fun _ => fun
  | [d1, d2, d3] => { results := [.lit (.bool true)], args := [d1, d2, d3] }
  | _ => none }
def fnExactRestrictRow : OpenClaim := { program := "ytclmflfhhdcipaa", sum := "cd7d10200e49d86210598a52ee158cc2dc4e98044f30c2e2630a0995ee9e5bd1", func := "loop.example/g00269/laws.FnExactRestrict", spec := "fnExactRestrict", unfollowed := true, recurses := true, apart := false }
def FnExactRestrictSaid : Prop := fnExactRestrictRow.holds Try.pinned (OpenSpec.ofChange fnExactRestrictSpec)

/-- ITS FALSE NEIGHBOUR: 'it returns false'. Refute it at one input. -/
def fnExactRestrictWrong : ChangeSpec := { name := "fnExactRestrict", fn := fun _ => fun
  | [d1, d2, d3] => { results := [.lit (.bool false)], args := [d1, d2, d3] }
  | _ => none }
def FnExactRestrictWrongFalsely : Prop := fnExactRestrictRow.holds Try.pinned (OpenSpec.ofChange fnExactRestrictWrong)

/-- 'laws.FnExactBothOf': WHATEVER THE INPUT: true; the input reads as it did. -/
def fnExactBothOfSpec : ChangeSpec := { name := "fnExactBothOf", fn := fun _ => fun
  | [d1, d2] => { results := [.lit (.bool true)], args := [d1, d2] }
  | _ => none }
def fnExactBothOfRow : OpenClaim := { program := "ytclmflfhhdcipaa", sum := "cd7d10200e49d86210598a52ee158cc2dc4e98044f30c2e2630a0995ee9e5bd1", func := "loop.example/g00269/laws.FnExactBothOf", spec := "fnExactBothOf", unfollowed := true, recurses := true, apart := false }
def FnExactBothOfSaid : Prop := fnExactBothOfRow.holds Try.pinned (OpenSpec.ofChange fnExactBothOfSpec)

/-- ITS FALSE NEIGHBOUR: 'it returns false'. Refute it at one input. -/
def fnExactBothOfWrong : ChangeSpec := { name := "fnExactBothOf", fn := fun _ => fun
  | [d1, d2] => { results := [.lit (.bool false)], args := [d1, d2] }
  | _ => none }
def FnExactBothOfWrongFalsely : Prop := fnExactBothOfRow.holds Try.pinned (OpenSpec.ofChange fnExactBothOfWrong)

/-- 'laws.FnDiagrams': WHATEVER THE INPUT: true; the input reads as it did. -/
def fnDiagramsSpec : ChangeSpec := { name := "fnDiagrams", fn := fun _ => fun
  | [d1, d2] => { results := [.lit (.bool true)], args := [d1, d2] }
  | _ => none }
def fnDiagramsRow : OpenClaim := { program := "ytclmflfhhdcipaa", sum := "cd7d10200e49d86210598a52ee158cc2dc4e98044f30c2e2630a0995ee9e5bd1", func := "loop.example/g00269/laws.FnDiagrams", spec := "fnDiagrams", unfollowed := true, recurses := true, apart := false }
def FnDiagramsSaid : Prop := fnDiagramsRow.holds Try.pinned (OpenSpec.ofChange fnDiagramsSpec)

/-- ITS FALSE NEIGHBOUR: 'it returns false'. Refute it at one input. -/
def fnDiagramsWrong : ChangeSpec := { name := "fnDiagrams", fn := fun _ => fun
  | [d1, d2] => { results := [.lit (.bool false)], args := [d1, d2] }
  | _ => none }
def FnDiagramsWrongFalsely : Prop := fnDiagramsRow.holds Try.pinned (OpenSpec.ofChange fnDiagramsWrong)

/-- 'laws.FnBryant': WHATEVER THE INPUT: true; the input reads as it did. -/
def fnBryantSpec : ChangeSpec := { name := "fnBryant", fn := fun _ => fun
  | [d1, d2] => { results := [.lit (.bool true)], args := [d1, d2] }
  | _ => none }
def fnBryantRow : OpenClaim := { program := "ytclmflfhhdcipaa", sum := "cd7d10200e49d86210598a52ee158cc2dc4e98044f30c2e2630a0995ee9e5bd1", func := "loop.example/g00269/laws.FnBryant", spec := "fnBryant", inPlace := ["internal/bytealg.IndexByteString"], unfollowed := true, recurses := true, apart := false }
def FnBryantSaid : Prop := fnBryantRow.holds Try.pinned (OpenSpec.ofChange fnBryantSpec)

/-- ITS FALSE NEIGHBOUR: 'it returns false'. Refute it at one input. -/
def fnBryantWrong : ChangeSpec := { name := "fnBryant", fn := fun _ => fun
  | [d1, d2] => { results := [.lit (.bool false)], args := [d1, d2] }
  | _ => none }
def FnBryantWrongFalsely : Prop := fnBryantRow.holds Try.pinned (OpenSpec.ofChange fnBryantWrong)

/- THE SECOND FORM. 'bulk': how many values and letters a reading holds, each counted each time it is reached (what is shared counts as often as it is met; a slice's spare places count too). A statement '..UptoSaid' is the law's where the arguments, and the package variables that the reading takes, are together of bulk at most 1048576: NARROWER than '..Said'. Prove '..Said' where nothing that the law and all that it calls make is longer than what came in: it says more and counts as full. Else prove '..UptoSaid'. A law counts once. -/
mutual
def uptoBulk {H : Type} : DataW H → Nat
  | .lit (.string bytes) => bytes.length + 1
  | .lit _ => 1
  | .nil => 1
  | .ptr d => uptoBulk d + 1
  | .slice elems spare => uptoBulkAll elems + uptoBulkAll spare + 1
  | .agg parts => uptoBulkAll parts + 1
  | .iface _ d => uptoBulk d + 1
  | .map entries => uptoBulkEntries entries + 1
  | .held _ => 1
def uptoBulkAll {H : Type} : List (DataW H) → Nat
  | [] => 0
  | d :: r => uptoBulk d + uptoBulkAll r
def uptoBulkEntries {H : Type} : List (Lit × DataW H) → Nat
  | [] => 0
  | x :: r => uptoBulkEntry x + uptoBulkEntries r
def uptoBulkEntry {H : Type} : Lit × DataW H → Nat
  | (.string bytes, d) => bytes.length + uptoBulk d + 1
  | (_, d) => uptoBulk d + 1
 end
def uptoSmall : (H : Type) → List (DataW H) → Bool := fun _ ds => decide (uptoBulkAll ds ≤ 1048576)
def OpenSpec.upto (s : _root_.Go.ChangeSpec) : _root_.Go.OpenSpec := { _root_.Go.OpenSpec.ofChange s with cond := some uptoSmall }

/-- 'laws.FnExactGoodDiagram', WHERE WHAT IT READS IS OF BULK AT MOST 1048576: true; the input reads as it did. -/
def fnExactGoodDiagramUptoRow : OpenClaim := { program := "ytclmflfhhdcipaa", sum := "cd7d10200e49d86210598a52ee158cc2dc4e98044f30c2e2630a0995ee9e5bd1", func := "loop.example/g00269/laws.FnExactGoodDiagram", spec := "fnExactGoodDiagram", unfollowed := true, recurses := true, apart := false, narrowed := true }
def FnExactGoodDiagramUptoSaid : Prop := fnExactGoodDiagramUptoRow.holds Try.pinned (OpenSpec.upto fnExactGoodDiagramSpec)

/-- 'laws.FnExactDecide', WHERE WHAT IT READS IS OF BULK AT MOST 1048576: true; the input reads as it did. -/
def fnExactDecideUptoRow : OpenClaim := { program := "ytclmflfhhdcipaa", sum := "cd7d10200e49d86210598a52ee158cc2dc4e98044f30c2e2630a0995ee9e5bd1", func := "loop.example/g00269/laws.FnExactDecide", spec := "fnExactDecide", unfollowed := true, recurses := true, apart := false, narrowed := true }
def FnExactDecideUptoSaid : Prop := fnExactDecideUptoRow.holds Try.pinned (OpenSpec.upto fnExactDecideSpec)

/-- 'laws.FnExactDiagramOf', WHERE WHAT IT READS IS OF BULK AT MOST 1048576: true; the input reads as it did. -/
def fnExactDiagramOfUptoRow : OpenClaim := { program := "ytclmflfhhdcipaa", sum := "cd7d10200e49d86210598a52ee158cc2dc4e98044f30c2e2630a0995ee9e5bd1", func := "loop.example/g00269/laws.FnExactDiagramOf", spec := "fnExactDiagramOf", inPlace := ["internal/bytealg.IndexByteString"], recurses := true, apart := false, narrowed := true }
def FnExactDiagramOfUptoSaid : Prop := fnExactDiagramOfUptoRow.holds Try.pinned (OpenSpec.upto fnExactDiagramOfSpec)

/-- 'laws.FnExactCountYes', WHERE WHAT IT READS IS OF BULK AT MOST 1048576: true; the input reads as it did. -/
def fnExactCountYesUptoRow : OpenClaim := { program := "ytclmflfhhdcipaa", sum := "cd7d10200e49d86210598a52ee158cc2dc4e98044f30c2e2630a0995ee9e5bd1", func := "loop.example/g00269/laws.FnExactCountYes", spec := "fnExactCountYes", unfollowed := true, recurses := true, apart := false, narrowed := true }
def FnExactCountYesUptoSaid : Prop := fnExactCountYesUptoRow.holds Try.pinned (OpenSpec.upto fnExactCountYesSpec)

/-- 'laws.FnExactNotOf', WHERE WHAT IT READS IS OF BULK AT MOST 1048576: true; the input reads as it did. -/
def fnExactNotOfUptoRow : OpenClaim := { program := "ytclmflfhhdcipaa", sum := "cd7d10200e49d86210598a52ee158cc2dc4e98044f30c2e2630a0995ee9e5bd1", func := "loop.example/g00269/laws.FnExactNotOf", spec := "fnExactNotOf", unfollowed := true, recurses := true, apart := false, narrowed := true }
def FnExactNotOfUptoSaid : Prop := fnExactNotOfUptoRow.holds Try.pinned (OpenSpec.upto fnExactNotOfSpec)

/-- 'laws.FnExactRestrict', WHERE WHAT IT READS IS OF BULK AT MOST 1048576: true; the input reads as it did. -/
def fnExactRestrictUptoRow : OpenClaim := { program := "ytclmflfhhdcipaa", sum := "cd7d10200e49d86210598a52ee158cc2dc4e98044f30c2e2630a0995ee9e5bd1", func := "loop.example/g00269/laws.FnExactRestrict", spec := "fnExactRestrict", unfollowed := true, recurses := true, apart := false, narrowed := true }
def FnExactRestrictUptoSaid : Prop := fnExactRestrictUptoRow.holds Try.pinned (OpenSpec.upto fnExactRestrictSpec)

/-- 'laws.FnExactBothOf', WHERE WHAT IT READS IS OF BULK AT MOST 1048576: true; the input reads as it did. -/
def fnExactBothOfUptoRow : OpenClaim := { program := "ytclmflfhhdcipaa", sum := "cd7d10200e49d86210598a52ee158cc2dc4e98044f30c2e2630a0995ee9e5bd1", func := "loop.example/g00269/laws.FnExactBothOf", spec := "fnExactBothOf", unfollowed := true, recurses := true, apart := false, narrowed := true }
def FnExactBothOfUptoSaid : Prop := fnExactBothOfUptoRow.holds Try.pinned (OpenSpec.upto fnExactBothOfSpec)

/-- 'laws.FnDiagrams', WHERE WHAT IT READS IS OF BULK AT MOST 1048576: true; the input reads as it did. -/
def fnDiagramsUptoRow : OpenClaim := { program := "ytclmflfhhdcipaa", sum := "cd7d10200e49d86210598a52ee158cc2dc4e98044f30c2e2630a0995ee9e5bd1", func := "loop.example/g00269/laws.FnDiagrams", spec := "fnDiagrams", unfollowed := true, recurses := true, apart := false, narrowed := true }
def FnDiagramsUptoSaid : Prop := fnDiagramsUptoRow.holds Try.pinned (OpenSpec.upto fnDiagramsSpec)

/-- 'laws.FnBryant', WHERE WHAT IT READS IS OF BULK AT MOST 1048576: true; the input reads as it did. -/
def fnBryantUptoRow : OpenClaim := { program := "ytclmflfhhdcipaa", sum := "cd7d10200e49d86210598a52ee158cc2dc4e98044f30c2e2630a0995ee9e5bd1", func := "loop.example/g00269/laws.FnBryant", spec := "fnBryant", inPlace := ["internal/bytealg.IndexByteString"], unfollowed := true, recurses := true, apart := false, narrowed := true }
def FnBryantUptoSaid : Prop := fnBryantUptoRow.holds Try.pinned (OpenSpec.upto fnBryantSpec)

end Rows
end Go.Proofs.Ytclmflfhhdcipaa
