/-
  NARROWER THAN 'FOR EVERY INPUT', by the rows' own cells (each row's printed sentence says how): FnExactItemsOf: laid · FnItems: laid · FnExactGoodState: laid · FnExactMayCome: laid · FnExactIsHistory: laid · FnExactApplyEvent: laid.
  DERIVED. THE GIVEN ROWS OF THIS SEAT. 6 by the template 'for every input the law returns true; each argument reads behind the call as it read before'; 0 by the template 'total and deterministic' (their statements: YtkbaenelfhakbaaDoorTotals.lean).
  GIVEN WITH THE SEED: the statements are not yours to turn. If you find one false, say at which input.
  Laid BY PROGRAM, IN A SANDBOX (cutbox-rows.mjs): the forced cells as the released guide's own fill.sh prints them over the translation b3c6be56002f5cb0… (all of the seat's roots in one cut). By AI agents, Wed Nov 11 2026. No macro, syntax, notation, axiom, sorry.
-/
import Derived.Test.YtkbaenelfhakbaaDoorChecked
import GoSem.PinnedTables
import GoSem.Claim
import GoSem.ClaimJoined
import GoSem.ClaimMapViews
import Derived.JoinedTies
import Derived.KernelRfl
namespace Go.Proofs.YtkbaenelfhakbaaDoor
/- THE CELL 'sum', in the pinned program and in every row, IS THE sha256 OF THE DUMP (.gsa) THAT YtkbaenelfhakbaaDoorProg.lean LOADS. Nothing in Lean hashes anything: it is a label: what it is worth is what the hold of that sum in a sandbox is worth. -/
noncomputable def Tryd.pinned : Pinned := { name := "ytkbaenelfhakbaadoor", sum := "b3c6be56002f5cb0ecebee42b83d09a6ba347c3c12d01b307054023f387c43ab", checked := Tryd.checked }
namespace Rows
def none {H : Type} : Left H := { results := [], args := [] }

/- WHAT THE LISTED PACKAGE-LEVEL VARIABLES READ AS WHEN THE CALL BEGINS. Each datum BY PROGRAM (the guide's laid-datum.mjs) off the statement by which the dump's own 'gosem.cut.vars' lays the variable. In a bare row this is a premise. The card (YtkbaenelfhakbaaDoorCards.lean) ties it to the program's text. -/
def laid_unicode_utf8_acceptRanges {H : Type} : DataW H := .agg [.agg [.lit (.int .u8 128), .lit (.int .u8 191)], .agg [.lit (.int .u8 160), .lit (.int .u8 191)], .agg [.lit (.int .u8 128), .lit (.int .u8 159)], .agg [.lit (.int .u8 144), .lit (.int .u8 191)], .agg [.lit (.int .u8 128), .lit (.int .u8 143)], .agg [.lit (.int .u8 0), .lit (.int .u8 0)], .agg [.lit (.int .u8 0), .lit (.int .u8 0)], .agg [.lit (.int .u8 0), .lit (.int .u8 0)], .agg [.lit (.int .u8 0), .lit (.int .u8 0)], .agg [.lit (.int .u8 0), .lit (.int .u8 0)], .agg [.lit (.int .u8 0), .lit (.int .u8 0)], .agg [.lit (.int .u8 0), .lit (.int .u8 0)], .agg [.lit (.int .u8 0), .lit (.int .u8 0)], .agg [.lit (.int .u8 0), .lit (.int .u8 0)], .agg [.lit (.int .u8 0), .lit (.int .u8 0)], .agg [.lit (.int .u8 0), .lit (.int .u8 0)]]
/-- One of Go's own tables, pinned by name: the form's constant. -/
def laid_unicode_utf8_first : DataW Unit := Go.Pinned.utf8First

/-- 'laws.FnExactItemsOf': WHATEVER THE INPUT: true; the input reads as it did. -/
def fnExactItemsOfSpec : ChangeSpec := { name := "fnExactItemsOf", fn := fun _ => fun
  | [d] => { results := [.lit (.bool true)], args := [d] }
  | _ => none }
def fnExactItemsOfRow : OpenClaim := { program := "ytkbaenelfhakbaadoor", sum := "b3c6be56002f5cb0ecebee42b83d09a6ba347c3c12d01b307054023f387c43ab", func := "loop.example/g00269/laws.FnExactItemsOf", spec := "fnExactItemsOf", inPlace := ["internal/bytealg.IndexByteString", "internal/bytealg.IndexString"], named := ["unicode/utf8.first", "unicode/utf8.acceptRanges", "internal/bytealg.MaxLen"], apart := false, laid := [("unicode/utf8.acceptRanges", laid_unicode_utf8_acceptRanges), ("unicode/utf8.first", laid_unicode_utf8_first)] }
def FnExactItemsOfSaid : Prop := fnExactItemsOfRow.holds Tryd.pinned (OpenSpec.ofChange fnExactItemsOfSpec)

/-- ITS FALSE NEIGHBOUR: 'it returns false'. Refute it at one input. -/
def fnExactItemsOfWrong : ChangeSpec := { name := "fnExactItemsOf", fn := fun _ => fun
  | [d] => { results := [.lit (.bool false)], args := [d] }
  | _ => none }
def FnExactItemsOfWrongFalsely : Prop := fnExactItemsOfRow.holds Tryd.pinned (OpenSpec.ofChange fnExactItemsOfWrong)

/-- 'laws.FnItems': WHATEVER THE INPUT: true; the input reads as it did. -/
def fnItemsSpec : ChangeSpec := { name := "fnItems", fn := fun _ => fun
  | [d1, d2] => { results := [.lit (.bool true)], args := [d1, d2] }
  | _ => none }
def fnItemsRow : OpenClaim := { program := "ytkbaenelfhakbaadoor", sum := "b3c6be56002f5cb0ecebee42b83d09a6ba347c3c12d01b307054023f387c43ab", func := "loop.example/g00269/laws.FnItems", spec := "fnItems", inPlace := ["internal/bytealg.IndexByteString", "internal/bytealg.IndexString"], unfollowed := true, recurses := true, named := ["unicode/utf8.first", "unicode/utf8.acceptRanges", "internal/bytealg.MaxLen"], apart := false, laid := [("unicode/utf8.acceptRanges", laid_unicode_utf8_acceptRanges), ("unicode/utf8.first", laid_unicode_utf8_first)] }
def FnItemsSaid : Prop := fnItemsRow.holds Tryd.pinned (OpenSpec.ofChange fnItemsSpec)

/-- ITS FALSE NEIGHBOUR: 'it returns false'. Refute it at one input. -/
def fnItemsWrong : ChangeSpec := { name := "fnItems", fn := fun _ => fun
  | [d1, d2] => { results := [.lit (.bool false)], args := [d1, d2] }
  | _ => none }
def FnItemsWrongFalsely : Prop := fnItemsRow.holds Tryd.pinned (OpenSpec.ofChange fnItemsWrong)

/-- 'laws.FnExactGoodState': WHATEVER THE INPUT: true; the input reads as it did. -/
def fnExactGoodStateSpec : ChangeSpec := { name := "fnExactGoodState", fn := fun _ => fun
  | [d] => { results := [.lit (.bool true)], args := [d] }
  | _ => none }
def fnExactGoodStateRow : OpenClaim := { program := "ytkbaenelfhakbaadoor", sum := "b3c6be56002f5cb0ecebee42b83d09a6ba347c3c12d01b307054023f387c43ab", func := "loop.example/g00269/laws.FnExactGoodState", spec := "fnExactGoodState", inPlace := ["internal/bytealg.IndexByteString", "internal/bytealg.IndexString"], unfollowed := true, recurses := true, named := ["unicode/utf8.first", "unicode/utf8.acceptRanges", "internal/bytealg.MaxLen"], apart := false, laid := [("unicode/utf8.acceptRanges", laid_unicode_utf8_acceptRanges), ("unicode/utf8.first", laid_unicode_utf8_first)] }
def FnExactGoodStateSaid : Prop := fnExactGoodStateRow.holds Tryd.pinned (OpenSpec.ofChange fnExactGoodStateSpec)

/-- ITS FALSE NEIGHBOUR: 'it returns false'. Refute it at one input. -/
def fnExactGoodStateWrong : ChangeSpec := { name := "fnExactGoodState", fn := fun _ => fun
  | [d] => { results := [.lit (.bool false)], args := [d] }
  | _ => none }
def FnExactGoodStateWrongFalsely : Prop := fnExactGoodStateRow.holds Tryd.pinned (OpenSpec.ofChange fnExactGoodStateWrong)

/-- 'laws.FnExactMayCome': WHATEVER THE INPUT: true; the input reads as it did. -/
def fnExactMayComeSpec : ChangeSpec := { name := "fnExactMayCome", fn := fun _ => fun
  | [d1, d2, d3] => { results := [.lit (.bool true)], args := [d1, d2, d3] }
  | _ => none }
def fnExactMayComeRow : OpenClaim := { program := "ytkbaenelfhakbaadoor", sum := "b3c6be56002f5cb0ecebee42b83d09a6ba347c3c12d01b307054023f387c43ab", func := "loop.example/g00269/laws.FnExactMayCome", spec := "fnExactMayCome", inPlace := ["internal/bytealg.IndexByteString", "internal/bytealg.IndexString", "slices.overlaps[string]"], unfollowed := true, recurses := true, named := ["unicode/utf8.first", "unicode/utf8.acceptRanges", "internal/bytealg.MaxLen"], apart := false, laid := [("unicode/utf8.acceptRanges", laid_unicode_utf8_acceptRanges), ("unicode/utf8.first", laid_unicode_utf8_first)] }
def FnExactMayComeSaid : Prop := fnExactMayComeRow.holds Tryd.pinned (OpenSpec.ofChange fnExactMayComeSpec)

/-- ITS FALSE NEIGHBOUR: 'it returns false'. Refute it at one input. -/
def fnExactMayComeWrong : ChangeSpec := { name := "fnExactMayCome", fn := fun _ => fun
  | [d1, d2, d3] => { results := [.lit (.bool false)], args := [d1, d2, d3] }
  | _ => none }
def FnExactMayComeWrongFalsely : Prop := fnExactMayComeRow.holds Tryd.pinned (OpenSpec.ofChange fnExactMayComeWrong)

/-- 'laws.FnExactIsHistory': WHATEVER THE INPUT: true; the input reads as it did. -/
def fnExactIsHistorySpec : ChangeSpec := { name := "fnExactIsHistory", fn := fun _ => fun
  | [d] => { results := [.lit (.bool true)], args := [d] }
  | _ => none }
def fnExactIsHistoryRow : OpenClaim := { program := "ytkbaenelfhakbaadoor", sum := "b3c6be56002f5cb0ecebee42b83d09a6ba347c3c12d01b307054023f387c43ab", func := "loop.example/g00269/laws.FnExactIsHistory", spec := "fnExactIsHistory", inPlace := ["internal/bytealg.IndexByteString", "internal/bytealg.IndexString", "slices.overlaps[string]"], unfollowed := true, recurses := true, named := ["unicode/utf8.first", "unicode/utf8.acceptRanges", "internal/bytealg.MaxLen"], apart := false, laid := [("unicode/utf8.acceptRanges", laid_unicode_utf8_acceptRanges), ("unicode/utf8.first", laid_unicode_utf8_first)] }
def FnExactIsHistorySaid : Prop := fnExactIsHistoryRow.holds Tryd.pinned (OpenSpec.ofChange fnExactIsHistorySpec)

/-- ITS FALSE NEIGHBOUR: 'it returns false'. Refute it at one input. -/
def fnExactIsHistoryWrong : ChangeSpec := { name := "fnExactIsHistory", fn := fun _ => fun
  | [d] => { results := [.lit (.bool false)], args := [d] }
  | _ => none }
def FnExactIsHistoryWrongFalsely : Prop := fnExactIsHistoryRow.holds Tryd.pinned (OpenSpec.ofChange fnExactIsHistoryWrong)

/-- 'laws.FnExactApplyEvent': WHATEVER THE INPUT: true; the input reads as it did. -/
def fnExactApplyEventSpec : ChangeSpec := { name := "fnExactApplyEvent", fn := fun _ => fun
  | [d1, d2] => { results := [.lit (.bool true)], args := [d1, d2] }
  | _ => none }
def fnExactApplyEventRow : OpenClaim := { program := "ytkbaenelfhakbaadoor", sum := "b3c6be56002f5cb0ecebee42b83d09a6ba347c3c12d01b307054023f387c43ab", func := "loop.example/g00269/laws.FnExactApplyEvent", spec := "fnExactApplyEvent", inPlace := ["internal/bytealg.IndexByteString", "internal/bytealg.IndexString", "slices.overlaps[string]"], unfollowed := true, recurses := true, named := ["unicode/utf8.first", "unicode/utf8.acceptRanges", "internal/bytealg.MaxLen"], apart := false, laid := [("unicode/utf8.acceptRanges", laid_unicode_utf8_acceptRanges), ("unicode/utf8.first", laid_unicode_utf8_first)] }
def FnExactApplyEventSaid : Prop := fnExactApplyEventRow.holds Tryd.pinned (OpenSpec.ofChange fnExactApplyEventSpec)

/-- ITS FALSE NEIGHBOUR: 'it returns false'. Refute it at one input. -/
def fnExactApplyEventWrong : ChangeSpec := { name := "fnExactApplyEvent", fn := fun _ => fun
  | [d1, d2] => { results := [.lit (.bool false)], args := [d1, d2] }
  | _ => none }
def FnExactApplyEventWrongFalsely : Prop := fnExactApplyEventRow.holds Tryd.pinned (OpenSpec.ofChange fnExactApplyEventWrong)

/- THE SECOND FORM. 'bulk': how many values and letters a reading holds, each counted each time it is reached (what is shared counts as often as it is met; a slice's spare places count too). A statement '..UptoSaid' is the law's where the arguments, and the package variables that the reading takes, are together of bulk at most 1048576: NARROWER than '..Said'. Prove '..Said' where nothing that the law and all that it calls make is longer than what came in: it says more and counts as full. Else prove '..UptoSaid'. A law counts once. -/
mutual
def uptoBulk {H : Type} : DataW H → Nat
  | .lit (.string bytes) => bytes.length + 1
  | .lit _ => 1
  | .nil => 1
  | .ptr d => uptoBulk d + 1
  | .slice elems spare => uptoBulkAll elems + uptoBulkAll spare + 1
  | .agg parts => uptoBulkAll parts + 1
  | .iface _ d => uptoBulk d + 1
  | .map entries => uptoBulkEntries entries + 1
  | .held _ => 1
def uptoBulkAll {H : Type} : List (DataW H) → Nat
  | [] => 0
  | d :: r => uptoBulk d + uptoBulkAll r
def uptoBulkEntries {H : Type} : List (Lit × DataW H) → Nat
  | [] => 0
  | x :: r => uptoBulkEntry x + uptoBulkEntries r
def uptoBulkEntry {H : Type} : Lit × DataW H → Nat
  | (.string bytes, d) => bytes.length + uptoBulk d + 1
  | (_, d) => uptoBulk d + 1
 end
def uptoSmall : (H : Type) → List (DataW H) → Bool := fun _ ds => decide (uptoBulkAll ds ≤ 1048576)
def OpenSpec.upto (s : _root_.Go.ChangeSpec) : _root_.Go.OpenSpec := { _root_.Go.OpenSpec.ofChange s with cond := some uptoSmall }

/-- 'laws.FnExactItemsOf', WHERE WHAT IT READS IS OF BULK AT MOST 1048576: true; the input reads as it did. -/
def fnExactItemsOfUptoRow : OpenClaim := { program := "ytkbaenelfhakbaadoor", sum := "b3c6be56002f5cb0ecebee42b83d09a6ba347c3c12d01b307054023f387c43ab", func := "loop.example/g00269/laws.FnExactItemsOf", spec := "fnExactItemsOf", inPlace := ["internal/bytealg.IndexByteString", "internal/bytealg.IndexString"], named := ["unicode/utf8.first", "unicode/utf8.acceptRanges", "internal/bytealg.MaxLen"], apart := false, laid := [("unicode/utf8.acceptRanges", laid_unicode_utf8_acceptRanges), ("unicode/utf8.first", laid_unicode_utf8_first)], narrowed := true }
def FnExactItemsOfUptoSaid : Prop := fnExactItemsOfUptoRow.holds Tryd.pinned (OpenSpec.upto fnExactItemsOfSpec)

/-- 'laws.FnItems', WHERE WHAT IT READS IS OF BULK AT MOST 1048576: true; the input reads as it did. -/
def fnItemsUptoRow : OpenClaim := { program := "ytkbaenelfhakbaadoor", sum := "b3c6be56002f5cb0ecebee42b83d09a6ba347c3c12d01b307054023f387c43ab", func := "loop.example/g00269/laws.FnItems", spec := "fnItems", inPlace := ["internal/bytealg.IndexByteString", "internal/bytealg.IndexString"], unfollowed := true, recurses := true, named := ["unicode/utf8.first", "unicode/utf8.acceptRanges", "internal/bytealg.MaxLen"], apart := false, laid := [("unicode/utf8.acceptRanges", laid_unicode_utf8_acceptRanges), ("unicode/utf8.first", laid_unicode_utf8_first)], narrowed := true }
def FnItemsUptoSaid : Prop := fnItemsUptoRow.holds Tryd.pinned (OpenSpec.upto fnItemsSpec)

/-- 'laws.FnExactGoodState', WHERE WHAT IT READS IS OF BULK AT MOST 1048576: true; the input reads as it did. -/
def fnExactGoodStateUptoRow : OpenClaim := { program := "ytkbaenelfhakbaadoor", sum := "b3c6be56002f5cb0ecebee42b83d09a6ba347c3c12d01b307054023f387c43ab", func := "loop.example/g00269/laws.FnExactGoodState", spec := "fnExactGoodState", inPlace := ["internal/bytealg.IndexByteString", "internal/bytealg.IndexString"], unfollowed := true, recurses := true, named := ["unicode/utf8.first", "unicode/utf8.acceptRanges", "internal/bytealg.MaxLen"], apart := false, laid := [("unicode/utf8.acceptRanges", laid_unicode_utf8_acceptRanges), ("unicode/utf8.first", laid_unicode_utf8_first)], narrowed := true }
def FnExactGoodStateUptoSaid : Prop := fnExactGoodStateUptoRow.holds Tryd.pinned (OpenSpec.upto fnExactGoodStateSpec)

/-- 'laws.FnExactMayCome', WHERE WHAT IT READS IS OF BULK AT MOST 1048576: true; the input reads as it did. -/
def fnExactMayComeUptoRow : OpenClaim := { program := "ytkbaenelfhakbaadoor", sum := "b3c6be56002f5cb0ecebee42b83d09a6ba347c3c12d01b307054023f387c43ab", func := "loop.example/g00269/laws.FnExactMayCome", spec := "fnExactMayCome", inPlace := ["internal/bytealg.IndexByteString", "internal/bytealg.IndexString", "slices.overlaps[string]"], unfollowed := true, recurses := true, named := ["unicode/utf8.first", "unicode/utf8.acceptRanges", "internal/bytealg.MaxLen"], apart := false, laid := [("unicode/utf8.acceptRanges", laid_unicode_utf8_acceptRanges), ("unicode/utf8.first", laid_unicode_utf8_first)], narrowed := true }
def FnExactMayComeUptoSaid : Prop := fnExactMayComeUptoRow.holds Tryd.pinned (OpenSpec.upto fnExactMayComeSpec)

/-- 'laws.FnExactIsHistory', WHERE WHAT IT READS IS OF BULK AT MOST 1048576: true; the input reads as it did. -/
def fnExactIsHistoryUptoRow : OpenClaim := { program := "ytkbaenelfhakbaadoor", sum := "b3c6be56002f5cb0ecebee42b83d09a6ba347c3c12d01b307054023f387c43ab", func := "loop.example/g00269/laws.FnExactIsHistory", spec := "fnExactIsHistory", inPlace := ["internal/bytealg.IndexByteString", "internal/bytealg.IndexString", "slices.overlaps[string]"], unfollowed := true, recurses := true, named := ["unicode/utf8.first", "unicode/utf8.acceptRanges", "internal/bytealg.MaxLen"], apart := false, laid := [("unicode/utf8.acceptRanges", laid_unicode_utf8_acceptRanges), ("unicode/utf8.first", laid_unicode_utf8_first)], narrowed := true }
def FnExactIsHistoryUptoSaid : Prop := fnExactIsHistoryUptoRow.holds Tryd.pinned (OpenSpec.upto fnExactIsHistorySpec)

/-- 'laws.FnExactApplyEvent', WHERE WHAT IT READS IS OF BULK AT MOST 1048576: true; the input reads as it did. -/
def fnExactApplyEventUptoRow : OpenClaim := { program := "ytkbaenelfhakbaadoor", sum := "b3c6be56002f5cb0ecebee42b83d09a6ba347c3c12d01b307054023f387c43ab", func := "loop.example/g00269/laws.FnExactApplyEvent", spec := "fnExactApplyEvent", inPlace := ["internal/bytealg.IndexByteString", "internal/bytealg.IndexString", "slices.overlaps[string]"], unfollowed := true, recurses := true, named := ["unicode/utf8.first", "unicode/utf8.acceptRanges", "internal/bytealg.MaxLen"], apart := false, laid := [("unicode/utf8.acceptRanges", laid_unicode_utf8_acceptRanges), ("unicode/utf8.first", laid_unicode_utf8_first)], narrowed := true }
def FnExactApplyEventUptoSaid : Prop := fnExactApplyEventUptoRow.holds Tryd.pinned (OpenSpec.upto fnExactApplyEventSpec)

end Rows
end Go.Proofs.YtkbaenelfhakbaaDoor
