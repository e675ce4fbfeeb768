/-
  No cell of these rows narrows 'for every input' (looked for: loops, veiled, ifaces, maps, wideKeys, modest, calm, conditions, laid).
  DERIVED. THE GIVEN ROWS OF THIS SEAT. 9 by the template 'for every input the law returns true; each argument reads behind the call as it read before'; 0 by the template 'total and deterministic' (their statements: YtjkakpepejlooaaTotals.lean).
  GIVEN WITH THE SEED: the statements are not yours to turn. If you find one false, say at which input.
  Laid BY PROGRAM, IN A SANDBOX (cutbox-rows.mjs): the forced cells as the released guide's own fill.sh prints them over the translation 7d1546c1989b6861… (all of the seat's roots in one cut). By AI agents, Wed Nov 11 2026. No macro, syntax, notation, axiom, sorry.
-/
import Derived.Test.YtjkakpepejlooaaChecked
import GoSem.Claim
import GoSem.ClaimJoined
import GoSem.ClaimMapViews
import Derived.JoinedTies
import Derived.KernelRfl
namespace Go.Proofs.Ytjkakpepejlooaa
/- THE CELL 'sum', in the pinned program and in every row, IS THE sha256 OF THE DUMP (.gsa) THAT YtjkakpepejlooaaProg.lean LOADS. Nothing in Lean hashes anything: it is a label: what it is worth is what the hold of that sum in a sandbox is worth. -/
noncomputable def Try.pinned : Pinned := { name := "ytjkakpepejlooaa", sum := "7d1546c1989b68611ae9a9d1277c7c25efe96fb69970ef2cbfae111bce742536", checked := Try.checked }
namespace Rows
def none {H : Type} : Left H := { results := [], args := [] }

/-- 'laws.FnExactGoodRules': WHATEVER THE INPUT: true; the input reads as it did. -/
def fnExactGoodRulesSpec : ChangeSpec := { name := "fnExactGoodRules", fn := fun _ => fun
  | [d] => { results := [.lit (.bool true)], args := [d] }
  | _ => none }
def fnExactGoodRulesRow : OpenClaim := { program := "ytjkakpepejlooaa", sum := "7d1546c1989b68611ae9a9d1277c7c25efe96fb69970ef2cbfae111bce742536", func := "loop.example/g00269/laws.FnExactGoodRules", spec := "fnExactGoodRules", unfollowed := true, recurses := true, apart := false }
def FnExactGoodRulesSaid : Prop := fnExactGoodRulesRow.holds Try.pinned (OpenSpec.ofChange fnExactGoodRulesSpec)

/-- ITS FALSE NEIGHBOUR: 'it returns false'. Refute it at one input. -/
def fnExactGoodRulesWrong : ChangeSpec := { name := "fnExactGoodRules", fn := fun _ => fun
  | [d] => { results := [.lit (.bool false)], args := [d] }
  | _ => none }
def FnExactGoodRulesWrongFalsely : Prop := fnExactGoodRulesRow.holds Try.pinned (OpenSpec.ofChange fnExactGoodRulesWrong)

/-- 'laws.FnExactIsModel': WHATEVER THE INPUT: true; the input reads as it did. -/
def fnExactIsModelSpec : ChangeSpec := { name := "fnExactIsModel", fn := fun _ => fun
  | [d1, d2] => { results := [.lit (.bool true)], args := [d1, d2] }
  | _ => none }
def fnExactIsModelRow : OpenClaim := { program := "ytjkakpepejlooaa", sum := "7d1546c1989b68611ae9a9d1277c7c25efe96fb69970ef2cbfae111bce742536", func := "loop.example/g00269/laws.FnExactIsModel", spec := "fnExactIsModel", unfollowed := true, recurses := true, apart := false }
def FnExactIsModelSaid : Prop := fnExactIsModelRow.holds Try.pinned (OpenSpec.ofChange fnExactIsModelSpec)

/-- ITS FALSE NEIGHBOUR: 'it returns false'. Refute it at one input. -/
def fnExactIsModelWrong : ChangeSpec := { name := "fnExactIsModel", fn := fun _ => fun
  | [d1, d2] => { results := [.lit (.bool false)], args := [d1, d2] }
  | _ => none }
def FnExactIsModelWrongFalsely : Prop := fnExactIsModelRow.holds Try.pinned (OpenSpec.ofChange fnExactIsModelWrong)

/-- 'laws.FnExactStepOnce': WHATEVER THE INPUT: true; the input reads as it did. -/
def fnExactStepOnceSpec : ChangeSpec := { name := "fnExactStepOnce", fn := fun _ => fun
  | [d1, d2] => { results := [.lit (.bool true)], args := [d1, d2] }
  | _ => none }
def fnExactStepOnceRow : OpenClaim := { program := "ytjkakpepejlooaa", sum := "7d1546c1989b68611ae9a9d1277c7c25efe96fb69970ef2cbfae111bce742536", func := "loop.example/g00269/laws.FnExactStepOnce", spec := "fnExactStepOnce", inPlace := ["slices.overlaps[int]"], unfollowed := true, recurses := true, apart := false }
def FnExactStepOnceSaid : Prop := fnExactStepOnceRow.holds Try.pinned (OpenSpec.ofChange fnExactStepOnceSpec)

/-- ITS FALSE NEIGHBOUR: 'it returns false'. Refute it at one input. -/
def fnExactStepOnceWrong : ChangeSpec := { name := "fnExactStepOnce", fn := fun _ => fun
  | [d1, d2] => { results := [.lit (.bool false)], args := [d1, d2] }
  | _ => none }
def FnExactStepOnceWrongFalsely : Prop := fnExactStepOnceRow.holds Try.pinned (OpenSpec.ofChange fnExactStepOnceWrong)

/-- 'laws.FnExactFollows': WHATEVER THE INPUT: true; the input reads as it did. -/
def fnExactFollowsSpec : ChangeSpec := { name := "fnExactFollows", fn := fun _ => fun
  | [d1, d2, d3] => { results := [.lit (.bool true)], args := [d1, d2, d3] }
  | _ => none }
def fnExactFollowsRow : OpenClaim := { program := "ytjkakpepejlooaa", sum := "7d1546c1989b68611ae9a9d1277c7c25efe96fb69970ef2cbfae111bce742536", func := "loop.example/g00269/laws.FnExactFollows", spec := "fnExactFollows", inPlace := ["slices.overlaps[int]"], unfollowed := true, recurses := true, apart := false }
def FnExactFollowsSaid : Prop := fnExactFollowsRow.holds Try.pinned (OpenSpec.ofChange fnExactFollowsSpec)

/-- ITS FALSE NEIGHBOUR: 'it returns false'. Refute it at one input. -/
def fnExactFollowsWrong : ChangeSpec := { name := "fnExactFollows", fn := fun _ => fun
  | [d1, d2, d3] => { results := [.lit (.bool false)], args := [d1, d2, d3] }
  | _ => none }
def FnExactFollowsWrongFalsely : Prop := fnExactFollowsRow.holds Try.pinned (OpenSpec.ofChange fnExactFollowsWrong)

/-- 'laws.FnExactClosure': WHATEVER THE INPUT: true; the input reads as it did. -/
def fnExactClosureSpec : ChangeSpec := { name := "fnExactClosure", fn := fun _ => fun
  | [d1, d2] => { results := [.lit (.bool true)], args := [d1, d2] }
  | _ => none }
def fnExactClosureRow : OpenClaim := { program := "ytjkakpepejlooaa", sum := "7d1546c1989b68611ae9a9d1277c7c25efe96fb69970ef2cbfae111bce742536", func := "loop.example/g00269/laws.FnExactClosure", spec := "fnExactClosure", inPlace := ["slices.overlaps[int]"], unfollowed := true, recurses := true, apart := false }
def FnExactClosureSaid : Prop := fnExactClosureRow.holds Try.pinned (OpenSpec.ofChange fnExactClosureSpec)

/-- ITS FALSE NEIGHBOUR: 'it returns false'. Refute it at one input. -/
def fnExactClosureWrong : ChangeSpec := { name := "fnExactClosure", fn := fun _ => fun
  | [d1, d2] => { results := [.lit (.bool false)], args := [d1, d2] }
  | _ => none }
def FnExactClosureWrongFalsely : Prop := fnExactClosureRow.holds Try.pinned (OpenSpec.ofChange fnExactClosureWrong)

/-- 'laws.FnExactLeastModel': WHATEVER THE INPUT: true; the input reads as it did. -/
def fnExactLeastModelSpec : ChangeSpec := { name := "fnExactLeastModel", fn := fun _ => fun
  | [d1, d2] => { results := [.lit (.bool true)], args := [d1, d2] }
  | _ => none }
def fnExactLeastModelRow : OpenClaim := { program := "ytjkakpepejlooaa", sum := "7d1546c1989b68611ae9a9d1277c7c25efe96fb69970ef2cbfae111bce742536", func := "loop.example/g00269/laws.FnExactLeastModel", spec := "fnExactLeastModel", inPlace := ["slices.overlaps[int]"], unfollowed := true, recurses := true, apart := false }
def FnExactLeastModelSaid : Prop := fnExactLeastModelRow.holds Try.pinned (OpenSpec.ofChange fnExactLeastModelSpec)

/-- ITS FALSE NEIGHBOUR: 'it returns false'. Refute it at one input. -/
def fnExactLeastModelWrong : ChangeSpec := { name := "fnExactLeastModel", fn := fun _ => fun
  | [d1, d2] => { results := [.lit (.bool false)], args := [d1, d2] }
  | _ => none }
def FnExactLeastModelWrongFalsely : Prop := fnExactLeastModelRow.holds Try.pinned (OpenSpec.ofChange fnExactLeastModelWrong)

/-- 'laws.FnExactWhyOf': WHATEVER THE INPUT: true; the input reads as it did. -/
def fnExactWhyOfSpec : ChangeSpec := { name := "fnExactWhyOf", fn := fun _ => fun
  | [d1, d2, d3] => { results := [.lit (.bool true)], args := [d1, d2, d3] }
  | _ => none }
def fnExactWhyOfRow : OpenClaim := { program := "ytjkakpepejlooaa", sum := "7d1546c1989b68611ae9a9d1277c7c25efe96fb69970ef2cbfae111bce742536", func := "loop.example/g00269/laws.FnExactWhyOf", spec := "fnExactWhyOf", inPlace := ["slices.overlaps[int]"], unfollowed := true, recurses := true, apart := false }
def FnExactWhyOfSaid : Prop := fnExactWhyOfRow.holds Try.pinned (OpenSpec.ofChange fnExactWhyOfSpec)

/-- ITS FALSE NEIGHBOUR: 'it returns false'. Refute it at one input. -/
def fnExactWhyOfWrong : ChangeSpec := { name := "fnExactWhyOf", fn := fun _ => fun
  | [d1, d2, d3] => { results := [.lit (.bool false)], args := [d1, d2, d3] }
  | _ => none }
def FnExactWhyOfWrongFalsely : Prop := fnExactWhyOfRow.holds Try.pinned (OpenSpec.ofChange fnExactWhyOfWrong)

/-- 'laws.FnLeast': WHATEVER THE INPUT: true; the input reads as it did. -/
def fnLeastSpec : ChangeSpec := { name := "fnLeast", fn := fun _ => fun
  | [d1, d2] => { results := [.lit (.bool true)], args := [d1, d2] }
  | _ => none }
def fnLeastRow : OpenClaim := { program := "ytjkakpepejlooaa", sum := "7d1546c1989b68611ae9a9d1277c7c25efe96fb69970ef2cbfae111bce742536", func := "loop.example/g00269/laws.FnLeast", spec := "fnLeast", inPlace := ["slices.overlaps[int]"], unfollowed := true, recurses := true, apart := false }
def FnLeastSaid : Prop := fnLeastRow.holds Try.pinned (OpenSpec.ofChange fnLeastSpec)

/-- ITS FALSE NEIGHBOUR: 'it returns false'. Refute it at one input. -/
def fnLeastWrong : ChangeSpec := { name := "fnLeast", fn := fun _ => fun
  | [d1, d2] => { results := [.lit (.bool false)], args := [d1, d2] }
  | _ => none }
def FnLeastWrongFalsely : Prop := fnLeastRow.holds Try.pinned (OpenSpec.ofChange fnLeastWrong)

/-- 'laws.FnWhy': WHATEVER THE INPUT: true; the input reads as it did. -/
def fnWhySpec : ChangeSpec := { name := "fnWhy", fn := fun _ => fun
  | [d] => { results := [.lit (.bool true)], args := [d] }
  | _ => none }
def fnWhyRow : OpenClaim := { program := "ytjkakpepejlooaa", sum := "7d1546c1989b68611ae9a9d1277c7c25efe96fb69970ef2cbfae111bce742536", func := "loop.example/g00269/laws.FnWhy", spec := "fnWhy", inPlace := ["slices.overlaps[int]"], unfollowed := true, recurses := true, apart := false }
def FnWhySaid : Prop := fnWhyRow.holds Try.pinned (OpenSpec.ofChange fnWhySpec)

/-- ITS FALSE NEIGHBOUR: 'it returns false'. Refute it at one input. -/
def fnWhyWrong : ChangeSpec := { name := "fnWhy", fn := fun _ => fun
  | [d] => { results := [.lit (.bool false)], args := [d] }
  | _ => none }
def FnWhyWrongFalsely : Prop := fnWhyRow.holds Try.pinned (OpenSpec.ofChange fnWhyWrong)

/- THE SECOND FORM. 'bulk': how many values and letters a reading holds, each counted each time it is reached (what is shared counts as often as it is met; a slice's spare places count too). A statement '..UptoSaid' is the law's where the arguments, and the package variables that the reading takes, are together of bulk at most 1048576: NARROWER than '..Said'. Prove '..Said' where nothing that the law and all that it calls make is longer than what came in: it says more and counts as full. Else prove '..UptoSaid'. A law counts once. -/
mutual
def uptoBulk {H : Type} : DataW H → Nat
  | .lit (.string bytes) => bytes.length + 1
  | .lit _ => 1
  | .nil => 1
  | .ptr d => uptoBulk d + 1
  | .slice elems spare => uptoBulkAll elems + uptoBulkAll spare + 1
  | .agg parts => uptoBulkAll parts + 1
  | .iface _ d => uptoBulk d + 1
  | .map entries => uptoBulkEntries entries + 1
  | .held _ => 1
def uptoBulkAll {H : Type} : List (DataW H) → Nat
  | [] => 0
  | d :: r => uptoBulk d + uptoBulkAll r
def uptoBulkEntries {H : Type} : List (Lit × DataW H) → Nat
  | [] => 0
  | x :: r => uptoBulkEntry x + uptoBulkEntries r
def uptoBulkEntry {H : Type} : Lit × DataW H → Nat
  | (.string bytes, d) => bytes.length + uptoBulk d + 1
  | (_, d) => uptoBulk d + 1
 end
def uptoSmall : (H : Type) → List (DataW H) → Bool := fun _ ds => decide (uptoBulkAll ds ≤ 1048576)
def OpenSpec.upto (s : _root_.Go.ChangeSpec) : _root_.Go.OpenSpec := { _root_.Go.OpenSpec.ofChange s with cond := some uptoSmall }

/-- 'laws.FnExactGoodRules', WHERE WHAT IT READS IS OF BULK AT MOST 1048576: true; the input reads as it did. -/
def fnExactGoodRulesUptoRow : OpenClaim := { program := "ytjkakpepejlooaa", sum := "7d1546c1989b68611ae9a9d1277c7c25efe96fb69970ef2cbfae111bce742536", func := "loop.example/g00269/laws.FnExactGoodRules", spec := "fnExactGoodRules", unfollowed := true, recurses := true, apart := false, narrowed := true }
def FnExactGoodRulesUptoSaid : Prop := fnExactGoodRulesUptoRow.holds Try.pinned (OpenSpec.upto fnExactGoodRulesSpec)

/-- 'laws.FnExactIsModel', WHERE WHAT IT READS IS OF BULK AT MOST 1048576: true; the input reads as it did. -/
def fnExactIsModelUptoRow : OpenClaim := { program := "ytjkakpepejlooaa", sum := "7d1546c1989b68611ae9a9d1277c7c25efe96fb69970ef2cbfae111bce742536", func := "loop.example/g00269/laws.FnExactIsModel", spec := "fnExactIsModel", unfollowed := true, recurses := true, apart := false, narrowed := true }
def FnExactIsModelUptoSaid : Prop := fnExactIsModelUptoRow.holds Try.pinned (OpenSpec.upto fnExactIsModelSpec)

/-- 'laws.FnExactStepOnce', WHERE WHAT IT READS IS OF BULK AT MOST 1048576: true; the input reads as it did. -/
def fnExactStepOnceUptoRow : OpenClaim := { program := "ytjkakpepejlooaa", sum := "7d1546c1989b68611ae9a9d1277c7c25efe96fb69970ef2cbfae111bce742536", func := "loop.example/g00269/laws.FnExactStepOnce", spec := "fnExactStepOnce", inPlace := ["slices.overlaps[int]"], unfollowed := true, recurses := true, apart := false, narrowed := true }
def FnExactStepOnceUptoSaid : Prop := fnExactStepOnceUptoRow.holds Try.pinned (OpenSpec.upto fnExactStepOnceSpec)

/-- 'laws.FnExactFollows', WHERE WHAT IT READS IS OF BULK AT MOST 1048576: true; the input reads as it did. -/
def fnExactFollowsUptoRow : OpenClaim := { program := "ytjkakpepejlooaa", sum := "7d1546c1989b68611ae9a9d1277c7c25efe96fb69970ef2cbfae111bce742536", func := "loop.example/g00269/laws.FnExactFollows", spec := "fnExactFollows", inPlace := ["slices.overlaps[int]"], unfollowed := true, recurses := true, apart := false, narrowed := true }
def FnExactFollowsUptoSaid : Prop := fnExactFollowsUptoRow.holds Try.pinned (OpenSpec.upto fnExactFollowsSpec)

/-- 'laws.FnExactClosure', WHERE WHAT IT READS IS OF BULK AT MOST 1048576: true; the input reads as it did. -/
def fnExactClosureUptoRow : OpenClaim := { program := "ytjkakpepejlooaa", sum := "7d1546c1989b68611ae9a9d1277c7c25efe96fb69970ef2cbfae111bce742536", func := "loop.example/g00269/laws.FnExactClosure", spec := "fnExactClosure", inPlace := ["slices.overlaps[int]"], unfollowed := true, recurses := true, apart := false, narrowed := true }
def FnExactClosureUptoSaid : Prop := fnExactClosureUptoRow.holds Try.pinned (OpenSpec.upto fnExactClosureSpec)

/-- 'laws.FnExactLeastModel', WHERE WHAT IT READS IS OF BULK AT MOST 1048576: true; the input reads as it did. -/
def fnExactLeastModelUptoRow : OpenClaim := { program := "ytjkakpepejlooaa", sum := "7d1546c1989b68611ae9a9d1277c7c25efe96fb69970ef2cbfae111bce742536", func := "loop.example/g00269/laws.FnExactLeastModel", spec := "fnExactLeastModel", inPlace := ["slices.overlaps[int]"], unfollowed := true, recurses := true, apart := false, narrowed := true }
def FnExactLeastModelUptoSaid : Prop := fnExactLeastModelUptoRow.holds Try.pinned (OpenSpec.upto fnExactLeastModelSpec)

/-- 'laws.FnExactWhyOf', WHERE WHAT IT READS IS OF BULK AT MOST 1048576: true; the input reads as it did. -/
def fnExactWhyOfUptoRow : OpenClaim := { program := "ytjkakpepejlooaa", sum := "7d1546c1989b68611ae9a9d1277c7c25efe96fb69970ef2cbfae111bce742536", func := "loop.example/g00269/laws.FnExactWhyOf", spec := "fnExactWhyOf", inPlace := ["slices.overlaps[int]"], unfollowed := true, recurses := true, apart := false, narrowed := true }
def FnExactWhyOfUptoSaid : Prop := fnExactWhyOfUptoRow.holds Try.pinned (OpenSpec.upto fnExactWhyOfSpec)

/-- 'laws.FnLeast', WHERE WHAT IT READS IS OF BULK AT MOST 1048576: true; the input reads as it did. -/
def fnLeastUptoRow : OpenClaim := { program := "ytjkakpepejlooaa", sum := "7d1546c1989b68611ae9a9d1277c7c25efe96fb69970ef2cbfae111bce742536", func := "loop.example/g00269/laws.FnLeast", spec := "fnLeast", inPlace := ["slices.overlaps[int]"], unfollowed := true, recurses := true, apart := false, narrowed := true }
def FnLeastUptoSaid : Prop := fnLeastUptoRow.holds Try.pinned (OpenSpec.upto fnLeastSpec)

/-- 'laws.FnWhy', WHERE WHAT IT READS IS OF BULK AT MOST 1048576: true; the input reads as it did. -/
def fnWhyUptoRow : OpenClaim := { program := "ytjkakpepejlooaa", sum := "7d1546c1989b68611ae9a9d1277c7c25efe96fb69970ef2cbfae111bce742536", func := "loop.example/g00269/laws.FnWhy", spec := "fnWhy", inPlace := ["slices.overlaps[int]"], unfollowed := true, recurses := true, apart := false, narrowed := true }
def FnWhyUptoSaid : Prop := fnWhyUptoRow.holds Try.pinned (OpenSpec.upto fnWhySpec)

end Rows
end Go.Proofs.Ytjkakpepejlooaa
