/-
  No cell of these rows narrows 'for every input' (looked for: loops, veiled, ifaces, maps, wideKeys, modest, calm, conditions, laid).
  DERIVED. THE GIVEN ROWS OF THIS SEAT. 4 by the template 'for every input the law returns true; each argument reads behind the call as it read before'; 0 by the template 'total and deterministic' (their statements: YtkbaenelfhakbaaTotals.lean).
  GIVEN WITH THE SEED: the statements are not yours to turn. If you find one false, say at which input.
  Laid BY PROGRAM, IN A SANDBOX (cutbox-rows.mjs): the forced cells as the released guide's own fill.sh prints them over the translation 2943588bb886c425… (all of the seat's roots in one cut). By AI agents, Wed Nov 11 2026. No macro, syntax, notation, axiom, sorry.
-/
import Derived.Test.YtkbaenelfhakbaaChecked
import GoSem.Claim
import GoSem.ClaimJoined
import GoSem.ClaimMapViews
import Derived.JoinedTies
import Derived.KernelRfl
namespace Go.Proofs.Ytkbaenelfhakbaa
/- THE CELL 'sum', in the pinned program and in every row, IS THE sha256 OF THE DUMP (.gsa) THAT YtkbaenelfhakbaaProg.lean LOADS. Nothing in Lean hashes anything: it is a label: what it is worth is what the hold of that sum in a sandbox is worth. -/
noncomputable def Try.pinned : Pinned := { name := "ytkbaenelfhakbaa", sum := "2943588bb886c425dd429ba1070b21d9d4de291e80b5098df0a81f494a8ff1c8", checked := Try.checked }
namespace Rows
def none {H : Type} : Left H := { results := [], args := [] }

/-- 'laws.FnExactIsAhead': WHATEVER THE INPUT: true; the input reads as it did. -/
def fnExactIsAheadSpec : ChangeSpec := { name := "fnExactIsAhead", fn := fun _ => fun
  | [d1, d2] => { results := [.lit (.bool true)], args := [d1, d2] }
  | _ => none }
def fnExactIsAheadRow : OpenClaim := { program := "ytkbaenelfhakbaa", sum := "2943588bb886c425dd429ba1070b21d9d4de291e80b5098df0a81f494a8ff1c8", func := "loop.example/g00269/laws.FnExactIsAhead", spec := "fnExactIsAhead", unfollowed := true, recurses := true, apart := false }
def FnExactIsAheadSaid : Prop := fnExactIsAheadRow.holds Try.pinned (OpenSpec.ofChange fnExactIsAheadSpec)

/-- ITS FALSE NEIGHBOUR: 'it returns false'. Refute it at one input. -/
def fnExactIsAheadWrong : ChangeSpec := { name := "fnExactIsAhead", fn := fun _ => fun
  | [d1, d2] => { results := [.lit (.bool false)], args := [d1, d2] }
  | _ => none }
def FnExactIsAheadWrongFalsely : Prop := fnExactIsAheadRow.holds Try.pinned (OpenSpec.ofChange fnExactIsAheadWrong)

/-- 'laws.FnExactCutItems': WHATEVER THE INPUT: true; the input reads as it did. -/
def fnExactCutItemsSpec : ChangeSpec := { name := "fnExactCutItems", fn := fun _ => fun
  | [d1, d2] => { results := [.lit (.bool true)], args := [d1, d2] }
  | _ => none }
def fnExactCutItemsRow : OpenClaim := { program := "ytkbaenelfhakbaa", sum := "2943588bb886c425dd429ba1070b21d9d4de291e80b5098df0a81f494a8ff1c8", func := "loop.example/g00269/laws.FnExactCutItems", spec := "fnExactCutItems", apart := false }
def FnExactCutItemsSaid : Prop := fnExactCutItemsRow.holds Try.pinned (OpenSpec.ofChange fnExactCutItemsSpec)

/-- ITS FALSE NEIGHBOUR: 'it returns false'. Refute it at one input. -/
def fnExactCutItemsWrong : ChangeSpec := { name := "fnExactCutItems", fn := fun _ => fun
  | [d1, d2] => { results := [.lit (.bool false)], args := [d1, d2] }
  | _ => none }
def FnExactCutItemsWrongFalsely : Prop := fnExactCutItemsRow.holds Try.pinned (OpenSpec.ofChange fnExactCutItemsWrong)

/-- 'laws.FnExactLcaOf': WHATEVER THE INPUT: true; the input reads as it did. -/
def fnExactLcaOfSpec : ChangeSpec := { name := "fnExactLcaOf", fn := fun _ => fun
  | [d1, d2] => { results := [.lit (.bool true)], args := [d1, d2] }
  | _ => none }
def fnExactLcaOfRow : OpenClaim := { program := "ytkbaenelfhakbaa", sum := "2943588bb886c425dd429ba1070b21d9d4de291e80b5098df0a81f494a8ff1c8", func := "loop.example/g00269/laws.FnExactLcaOf", spec := "fnExactLcaOf", unfollowed := true, recurses := true, apart := false }
def FnExactLcaOfSaid : Prop := fnExactLcaOfRow.holds Try.pinned (OpenSpec.ofChange fnExactLcaOfSpec)

/-- ITS FALSE NEIGHBOUR: 'it returns false'. Refute it at one input. -/
def fnExactLcaOfWrong : ChangeSpec := { name := "fnExactLcaOf", fn := fun _ => fun
  | [d1, d2] => { results := [.lit (.bool false)], args := [d1, d2] }
  | _ => none }
def FnExactLcaOfWrongFalsely : Prop := fnExactLcaOfRow.holds Try.pinned (OpenSpec.ofChange fnExactLcaOfWrong)

/-- 'laws.FnPart': WHATEVER THE INPUT: true; the input reads as it did. -/
def fnPartSpec : ChangeSpec := { name := "fnPart", fn := fun _ => fun
  | [d] => { results := [.lit (.bool true)], args := [d] }
  | _ => none }
def fnPartRow : OpenClaim := { program := "ytkbaenelfhakbaa", sum := "2943588bb886c425dd429ba1070b21d9d4de291e80b5098df0a81f494a8ff1c8", func := "loop.example/g00269/laws.FnPart", spec := "fnPart", unfollowed := true, recurses := true, apart := false }
def FnPartSaid : Prop := fnPartRow.holds Try.pinned (OpenSpec.ofChange fnPartSpec)

/-- ITS FALSE NEIGHBOUR: 'it returns false'. Refute it at one input. -/
def fnPartWrong : ChangeSpec := { name := "fnPart", fn := fun _ => fun
  | [d] => { results := [.lit (.bool false)], args := [d] }
  | _ => none }
def FnPartWrongFalsely : Prop := fnPartRow.holds Try.pinned (OpenSpec.ofChange fnPartWrong)

/- THE SECOND FORM. 'bulk': how many values and letters a reading holds, each counted each time it is reached (what is shared counts as often as it is met; a slice's spare places count too). A statement '..UptoSaid' is the law's where the arguments, and the package variables that the reading takes, are together of bulk at most 1048576: NARROWER than '..Said'. Prove '..Said' where nothing that the law and all that it calls make is longer than what came in: it says more and counts as full. Else prove '..UptoSaid'. A law counts once. -/
mutual
def uptoBulk {H : Type} : DataW H → Nat
  | .lit (.string bytes) => bytes.length + 1
  | .lit _ => 1
  | .nil => 1
  | .ptr d => uptoBulk d + 1
  | .slice elems spare => uptoBulkAll elems + uptoBulkAll spare + 1
  | .agg parts => uptoBulkAll parts + 1
  | .iface _ d => uptoBulk d + 1
  | .map entries => uptoBulkEntries entries + 1
  | .held _ => 1
def uptoBulkAll {H : Type} : List (DataW H) → Nat
  | [] => 0
  | d :: r => uptoBulk d + uptoBulkAll r
def uptoBulkEntries {H : Type} : List (Lit × DataW H) → Nat
  | [] => 0
  | x :: r => uptoBulkEntry x + uptoBulkEntries r
def uptoBulkEntry {H : Type} : Lit × DataW H → Nat
  | (.string bytes, d) => bytes.length + uptoBulk d + 1
  | (_, d) => uptoBulk d + 1
 end
def uptoSmall : (H : Type) → List (DataW H) → Bool := fun _ ds => decide (uptoBulkAll ds ≤ 1048576)
def OpenSpec.upto (s : _root_.Go.ChangeSpec) : _root_.Go.OpenSpec := { _root_.Go.OpenSpec.ofChange s with cond := some uptoSmall }

/-- 'laws.FnExactIsAhead', WHERE WHAT IT READS IS OF BULK AT MOST 1048576: true; the input reads as it did. -/
def fnExactIsAheadUptoRow : OpenClaim := { program := "ytkbaenelfhakbaa", sum := "2943588bb886c425dd429ba1070b21d9d4de291e80b5098df0a81f494a8ff1c8", func := "loop.example/g00269/laws.FnExactIsAhead", spec := "fnExactIsAhead", unfollowed := true, recurses := true, apart := false, narrowed := true }
def FnExactIsAheadUptoSaid : Prop := fnExactIsAheadUptoRow.holds Try.pinned (OpenSpec.upto fnExactIsAheadSpec)

/-- 'laws.FnExactCutItems', WHERE WHAT IT READS IS OF BULK AT MOST 1048576: true; the input reads as it did. -/
def fnExactCutItemsUptoRow : OpenClaim := { program := "ytkbaenelfhakbaa", sum := "2943588bb886c425dd429ba1070b21d9d4de291e80b5098df0a81f494a8ff1c8", func := "loop.example/g00269/laws.FnExactCutItems", spec := "fnExactCutItems", apart := false, narrowed := true }
def FnExactCutItemsUptoSaid : Prop := fnExactCutItemsUptoRow.holds Try.pinned (OpenSpec.upto fnExactCutItemsSpec)

/-- 'laws.FnExactLcaOf', WHERE WHAT IT READS IS OF BULK AT MOST 1048576: true; the input reads as it did. -/
def fnExactLcaOfUptoRow : OpenClaim := { program := "ytkbaenelfhakbaa", sum := "2943588bb886c425dd429ba1070b21d9d4de291e80b5098df0a81f494a8ff1c8", func := "loop.example/g00269/laws.FnExactLcaOf", spec := "fnExactLcaOf", unfollowed := true, recurses := true, apart := false, narrowed := true }
def FnExactLcaOfUptoSaid : Prop := fnExactLcaOfUptoRow.holds Try.pinned (OpenSpec.upto fnExactLcaOfSpec)

/-- 'laws.FnPart', WHERE WHAT IT READS IS OF BULK AT MOST 1048576: true; the input reads as it did. -/
def fnPartUptoRow : OpenClaim := { program := "ytkbaenelfhakbaa", sum := "2943588bb886c425dd429ba1070b21d9d4de291e80b5098df0a81f494a8ff1c8", func := "loop.example/g00269/laws.FnPart", spec := "fnPart", unfollowed := true, recurses := true, apart := false, narrowed := true }
def FnPartUptoSaid : Prop := fnPartUptoRow.holds Try.pinned (OpenSpec.upto fnPartSpec)

end Rows
end Go.Proofs.Ytkbaenelfhakbaa
