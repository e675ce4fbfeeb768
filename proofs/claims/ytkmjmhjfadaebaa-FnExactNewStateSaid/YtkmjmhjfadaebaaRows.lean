/-
  No cell of these rows narrows 'for every input' (looked for: loops, veiled, ifaces, maps, wideKeys, modest, calm, conditions, laid).
  DERIVED. THE GIVEN ROWS OF THIS SEAT. 12 by the template 'for every input the law returns true; each argument reads behind the call as it read before'; 0 by the template 'total and deterministic' (their statements: YtkmjmhjfadaebaaTotals.lean).
  GIVEN WITH THE SEED: the statements are not yours to turn. If you find one false, say at which input.
  Laid BY PROGRAM, IN A SANDBOX (cutbox-rows.mjs): the forced cells as the released guide's own fill.sh prints them over the translation e5db32e4fdaa6aef… (all of the seat's roots in one cut). By AI agents, Wed Nov 11 2026. No macro, syntax, notation, axiom, sorry.
-/
import Derived.Test.YtkmjmhjfadaebaaChecked
import GoSem.Claim
import GoSem.ClaimJoined
import GoSem.ClaimMapViews
import Derived.JoinedTies
import Derived.KernelRfl
namespace Go.Proofs.Ytkmjmhjfadaebaa
/- THE CELL 'sum', in the pinned program and in every row, IS THE sha256 OF THE DUMP (.gsa) THAT YtkmjmhjfadaebaaProg.lean LOADS. Nothing in Lean hashes anything: it is a label: what it is worth is what the hold of that sum in a sandbox is worth. -/
noncomputable def Try.pinned : Pinned := { name := "ytkmjmhjfadaebaa", sum := "e5db32e4fdaa6aef3ff426d05e3f4ca50e0ba7398bebdb4f08d45f9ad31efc20", checked := Try.checked }
namespace Rows
def none {H : Type} : Left H := { results := [], args := [] }

/-- 'laws.FnExactGoodPolicy': WHATEVER THE INPUT: true; the input reads as it did. -/
def fnExactGoodPolicySpec : ChangeSpec := { name := "fnExactGoodPolicy", fn := fun _ => fun
  | [d] => { results := [.lit (.bool true)], args := [d] }
  | _ => none }
def fnExactGoodPolicyRow : OpenClaim := { program := "ytkmjmhjfadaebaa", sum := "e5db32e4fdaa6aef3ff426d05e3f4ca50e0ba7398bebdb4f08d45f9ad31efc20", func := "loop.example/g00269/laws.FnExactGoodPolicy", spec := "fnExactGoodPolicy", apart := false }
def FnExactGoodPolicySaid : Prop := fnExactGoodPolicyRow.holds Try.pinned (OpenSpec.ofChange fnExactGoodPolicySpec)

/-- ITS FALSE NEIGHBOUR: 'it returns false'. Refute it at one input. -/
def fnExactGoodPolicyWrong : ChangeSpec := { name := "fnExactGoodPolicy", fn := fun _ => fun
  | [d] => { results := [.lit (.bool false)], args := [d] }
  | _ => none }
def FnExactGoodPolicyWrongFalsely : Prop := fnExactGoodPolicyRow.holds Try.pinned (OpenSpec.ofChange fnExactGoodPolicyWrong)

/-- 'laws.FnExactGoodBreaker': WHATEVER THE INPUT: true; the input reads as it did. -/
def fnExactGoodBreakerSpec : ChangeSpec := { name := "fnExactGoodBreaker", fn := fun _ => fun
  | [d] => { results := [.lit (.bool true)], args := [d] }
  | _ => none }
def fnExactGoodBreakerRow : OpenClaim := { program := "ytkmjmhjfadaebaa", sum := "e5db32e4fdaa6aef3ff426d05e3f4ca50e0ba7398bebdb4f08d45f9ad31efc20", func := "loop.example/g00269/laws.FnExactGoodBreaker", spec := "fnExactGoodBreaker", apart := false }
def FnExactGoodBreakerSaid : Prop := fnExactGoodBreakerRow.holds Try.pinned (OpenSpec.ofChange fnExactGoodBreakerSpec)

/-- ITS FALSE NEIGHBOUR: 'it returns false'. Refute it at one input. -/
def fnExactGoodBreakerWrong : ChangeSpec := { name := "fnExactGoodBreaker", fn := fun _ => fun
  | [d] => { results := [.lit (.bool false)], args := [d] }
  | _ => none }
def FnExactGoodBreakerWrongFalsely : Prop := fnExactGoodBreakerRow.holds Try.pinned (OpenSpec.ofChange fnExactGoodBreakerWrong)

/-- 'laws.FnExactUndoOf': WHATEVER THE INPUT: true; the input reads as it did. -/
def fnExactUndoOfSpec : ChangeSpec := { name := "fnExactUndoOf", fn := fun _ => fun
  | [d] => { results := [.lit (.bool true)], args := [d] }
  | _ => none }
def fnExactUndoOfRow : OpenClaim := { program := "ytkmjmhjfadaebaa", sum := "e5db32e4fdaa6aef3ff426d05e3f4ca50e0ba7398bebdb4f08d45f9ad31efc20", func := "loop.example/g00269/laws.FnExactUndoOf", spec := "fnExactUndoOf", apart := false }
def FnExactUndoOfSaid : Prop := fnExactUndoOfRow.holds Try.pinned (OpenSpec.ofChange fnExactUndoOfSpec)

/-- ITS FALSE NEIGHBOUR: 'it returns false'. Refute it at one input. -/
def fnExactUndoOfWrong : ChangeSpec := { name := "fnExactUndoOf", fn := fun _ => fun
  | [d] => { results := [.lit (.bool false)], args := [d] }
  | _ => none }
def FnExactUndoOfWrongFalsely : Prop := fnExactUndoOfRow.holds Try.pinned (OpenSpec.ofChange fnExactUndoOfWrong)

/-- 'laws.FnExactNewBreaker': WHATEVER THE INPUT: true; the input reads as it did. -/
def fnExactNewBreakerSpec : ChangeSpec := { name := "fnExactNewBreaker", fn := fun _ => fun
  | [d1, d2] => { results := [.lit (.bool true)], args := [d1, d2] }
  | _ => none }
def fnExactNewBreakerRow : OpenClaim := { program := "ytkmjmhjfadaebaa", sum := "e5db32e4fdaa6aef3ff426d05e3f4ca50e0ba7398bebdb4f08d45f9ad31efc20", func := "loop.example/g00269/laws.FnExactNewBreaker", spec := "fnExactNewBreaker", apart := false }
def FnExactNewBreakerSaid : Prop := fnExactNewBreakerRow.holds Try.pinned (OpenSpec.ofChange fnExactNewBreakerSpec)

/-- ITS FALSE NEIGHBOUR: 'it returns false'. Refute it at one input. -/
def fnExactNewBreakerWrong : ChangeSpec := { name := "fnExactNewBreaker", fn := fun _ => fun
  | [d1, d2] => { results := [.lit (.bool false)], args := [d1, d2] }
  | _ => none }
def FnExactNewBreakerWrongFalsely : Prop := fnExactNewBreakerRow.holds Try.pinned (OpenSpec.ofChange fnExactNewBreakerWrong)

/-- 'laws.FnExactAllowsAt': WHATEVER THE INPUT: true; the input reads as it did. -/
def fnExactAllowsAtSpec : ChangeSpec := { name := "fnExactAllowsAt", fn := fun _ => fun
  | [d1, d2] => { results := [.lit (.bool true)], args := [d1, d2] }
  | _ => none }
def fnExactAllowsAtRow : OpenClaim := { program := "ytkmjmhjfadaebaa", sum := "e5db32e4fdaa6aef3ff426d05e3f4ca50e0ba7398bebdb4f08d45f9ad31efc20", func := "loop.example/g00269/laws.FnExactAllowsAt", spec := "fnExactAllowsAt", apart := false }
def FnExactAllowsAtSaid : Prop := fnExactAllowsAtRow.holds Try.pinned (OpenSpec.ofChange fnExactAllowsAtSpec)

/-- ITS FALSE NEIGHBOUR: 'it returns false'. Refute it at one input. -/
def fnExactAllowsAtWrong : ChangeSpec := { name := "fnExactAllowsAt", fn := fun _ => fun
  | [d1, d2] => { results := [.lit (.bool false)], args := [d1, d2] }
  | _ => none }
def FnExactAllowsAtWrongFalsely : Prop := fnExactAllowsAtRow.holds Try.pinned (OpenSpec.ofChange fnExactAllowsAtWrong)

/-- 'laws.FnExactWaitOf': WHATEVER THE INPUT: true; the input reads as it did. -/
def fnExactWaitOfSpec : ChangeSpec := { name := "fnExactWaitOf", fn := fun _ => fun
  | [d1, d2] => { results := [.lit (.bool true)], args := [d1, d2] }
  | _ => none }
def fnExactWaitOfRow : OpenClaim := { program := "ytkmjmhjfadaebaa", sum := "e5db32e4fdaa6aef3ff426d05e3f4ca50e0ba7398bebdb4f08d45f9ad31efc20", func := "loop.example/g00269/laws.FnExactWaitOf", spec := "fnExactWaitOf", apart := false }
def FnExactWaitOfSaid : Prop := fnExactWaitOfRow.holds Try.pinned (OpenSpec.ofChange fnExactWaitOfSpec)

/-- ITS FALSE NEIGHBOUR: 'it returns false'. Refute it at one input. -/
def fnExactWaitOfWrong : ChangeSpec := { name := "fnExactWaitOf", fn := fun _ => fun
  | [d1, d2] => { results := [.lit (.bool false)], args := [d1, d2] }
  | _ => none }
def FnExactWaitOfWrongFalsely : Prop := fnExactWaitOfRow.holds Try.pinned (OpenSpec.ofChange fnExactWaitOfWrong)

/-- 'laws.FnExactWaitsOf': WHATEVER THE INPUT: true; the input reads as it did. -/
def fnExactWaitsOfSpec : ChangeSpec := { name := "fnExactWaitsOf", fn := fun _ => fun
  | [d] => { results := [.lit (.bool true)], args := [d] }
  | _ => none }
def fnExactWaitsOfRow : OpenClaim := { program := "ytkmjmhjfadaebaa", sum := "e5db32e4fdaa6aef3ff426d05e3f4ca50e0ba7398bebdb4f08d45f9ad31efc20", func := "loop.example/g00269/laws.FnExactWaitsOf", spec := "fnExactWaitsOf", apart := false }
def FnExactWaitsOfSaid : Prop := fnExactWaitsOfRow.holds Try.pinned (OpenSpec.ofChange fnExactWaitsOfSpec)

/-- ITS FALSE NEIGHBOUR: 'it returns false'. Refute it at one input. -/
def fnExactWaitsOfWrong : ChangeSpec := { name := "fnExactWaitsOf", fn := fun _ => fun
  | [d] => { results := [.lit (.bool false)], args := [d] }
  | _ => none }
def FnExactWaitsOfWrongFalsely : Prop := fnExactWaitsOfRow.holds Try.pinned (OpenSpec.ofChange fnExactWaitsOfWrong)

/-- 'laws.FnWaits': WHATEVER THE INPUT: true; the input reads as it did. -/
def fnWaitsSpec : ChangeSpec := { name := "fnWaits", fn := fun _ => fun
  | [d] => { results := [.lit (.bool true)], args := [d] }
  | _ => none }
def fnWaitsRow : OpenClaim := { program := "ytkmjmhjfadaebaa", sum := "e5db32e4fdaa6aef3ff426d05e3f4ca50e0ba7398bebdb4f08d45f9ad31efc20", func := "loop.example/g00269/laws.FnWaits", spec := "fnWaits", apart := false }
def FnWaitsSaid : Prop := fnWaitsRow.holds Try.pinned (OpenSpec.ofChange fnWaitsSpec)

/-- ITS FALSE NEIGHBOUR: 'it returns false'. Refute it at one input. -/
def fnWaitsWrong : ChangeSpec := { name := "fnWaits", fn := fun _ => fun
  | [d] => { results := [.lit (.bool false)], args := [d] }
  | _ => none }
def FnWaitsWrongFalsely : Prop := fnWaitsRow.holds Try.pinned (OpenSpec.ofChange fnWaitsWrong)

/-- 'laws.FnExactNewState': WHATEVER THE INPUT: true; the input reads as it did. -/
def fnExactNewStateSpec : ChangeSpec := { name := "fnExactNewState", fn := fun _ => fun
  | [] => { results := [.lit (.bool true)], args := [] }
  | _ => none }
def fnExactNewStateRow : OpenClaim := { program := "ytkmjmhjfadaebaa", sum := "e5db32e4fdaa6aef3ff426d05e3f4ca50e0ba7398bebdb4f08d45f9ad31efc20", func := "loop.example/g00269/laws.FnExactNewState", spec := "fnExactNewState", apart := false }
def FnExactNewStateSaid : Prop := fnExactNewStateRow.holds Try.pinned (OpenSpec.ofChange fnExactNewStateSpec)

/-- ITS FALSE NEIGHBOUR: 'it returns false'. Refute it at one input. -/
def fnExactNewStateWrong : ChangeSpec := { name := "fnExactNewState", fn := fun _ => fun
  | [] => { results := [.lit (.bool false)], args := [] }
  | _ => none }
def FnExactNewStateWrongFalsely : Prop := fnExactNewStateRow.holds Try.pinned (OpenSpec.ofChange fnExactNewStateWrong)

/-- 'laws.FnExactLastOf': WHATEVER THE INPUT: true; the input reads as it did. -/
def fnExactLastOfSpec : ChangeSpec := { name := "fnExactLastOf", fn := fun _ => fun
  | [d] => { results := [.lit (.bool true)], args := [d] }
  | _ => none }
def fnExactLastOfRow : OpenClaim := { program := "ytkmjmhjfadaebaa", sum := "e5db32e4fdaa6aef3ff426d05e3f4ca50e0ba7398bebdb4f08d45f9ad31efc20", func := "loop.example/g00269/laws.FnExactLastOf", spec := "fnExactLastOf", apart := false }
def FnExactLastOfSaid : Prop := fnExactLastOfRow.holds Try.pinned (OpenSpec.ofChange fnExactLastOfSpec)

/-- ITS FALSE NEIGHBOUR: 'it returns false'. Refute it at one input. -/
def fnExactLastOfWrong : ChangeSpec := { name := "fnExactLastOf", fn := fun _ => fun
  | [d] => { results := [.lit (.bool false)], args := [d] }
  | _ => none }
def FnExactLastOfWrongFalsely : Prop := fnExactLastOfRow.holds Try.pinned (OpenSpec.ofChange fnExactLastOfWrong)

/-- 'laws.FnExactNewerOf': WHATEVER THE INPUT: true; the input reads as it did. -/
def fnExactNewerOfSpec : ChangeSpec := { name := "fnExactNewerOf", fn := fun _ => fun
  | [d1, d2] => { results := [.lit (.bool true)], args := [d1, d2] }
  | _ => none }
def fnExactNewerOfRow : OpenClaim := { program := "ytkmjmhjfadaebaa", sum := "e5db32e4fdaa6aef3ff426d05e3f4ca50e0ba7398bebdb4f08d45f9ad31efc20", func := "loop.example/g00269/laws.FnExactNewerOf", spec := "fnExactNewerOf", apart := false }
def FnExactNewerOfSaid : Prop := fnExactNewerOfRow.holds Try.pinned (OpenSpec.ofChange fnExactNewerOfSpec)

/-- ITS FALSE NEIGHBOUR: 'it returns false'. Refute it at one input. -/
def fnExactNewerOfWrong : ChangeSpec := { name := "fnExactNewerOf", fn := fun _ => fun
  | [d1, d2] => { results := [.lit (.bool false)], args := [d1, d2] }
  | _ => none }
def FnExactNewerOfWrongFalsely : Prop := fnExactNewerOfRow.holds Try.pinned (OpenSpec.ofChange fnExactNewerOfWrong)

/-- 'laws.FnExactVersionAt': WHATEVER THE INPUT: true; the input reads as it did. -/
def fnExactVersionAtSpec : ChangeSpec := { name := "fnExactVersionAt", fn := fun _ => fun
  | [d1, d2] => { results := [.lit (.bool true)], args := [d1, d2] }
  | _ => none }
def fnExactVersionAtRow : OpenClaim := { program := "ytkmjmhjfadaebaa", sum := "e5db32e4fdaa6aef3ff426d05e3f4ca50e0ba7398bebdb4f08d45f9ad31efc20", func := "loop.example/g00269/laws.FnExactVersionAt", spec := "fnExactVersionAt", unfollowed := true, recurses := true, apart := false }
def FnExactVersionAtSaid : Prop := fnExactVersionAtRow.holds Try.pinned (OpenSpec.ofChange fnExactVersionAtSpec)

/-- ITS FALSE NEIGHBOUR: 'it returns false'. Refute it at one input. -/
def fnExactVersionAtWrong : ChangeSpec := { name := "fnExactVersionAt", fn := fun _ => fun
  | [d1, d2] => { results := [.lit (.bool false)], args := [d1, d2] }
  | _ => none }
def FnExactVersionAtWrongFalsely : Prop := fnExactVersionAtRow.holds Try.pinned (OpenSpec.ofChange fnExactVersionAtWrong)

/- THE SECOND FORM. 'bulk': how many values and letters a reading holds, each counted each time it is reached (what is shared counts as often as it is met; a slice's spare places count too). A statement '..UptoSaid' is the law's where the arguments, and the package variables that the reading takes, are together of bulk at most 1048576: NARROWER than '..Said'. Prove '..Said' where nothing that the law and all that it calls make is longer than what came in: it says more and counts as full. Else prove '..UptoSaid'. A law counts once. -/
mutual
def uptoBulk {H : Type} : DataW H → Nat
  | .lit (.string bytes) => bytes.length + 1
  | .lit _ => 1
  | .nil => 1
  | .ptr d => uptoBulk d + 1
  | .slice elems spare => uptoBulkAll elems + uptoBulkAll spare + 1
  | .agg parts => uptoBulkAll parts + 1
  | .iface _ d => uptoBulk d + 1
  | .map entries => uptoBulkEntries entries + 1
  | .held _ => 1
def uptoBulkAll {H : Type} : List (DataW H) → Nat
  | [] => 0
  | d :: r => uptoBulk d + uptoBulkAll r
def uptoBulkEntries {H : Type} : List (Lit × DataW H) → Nat
  | [] => 0
  | x :: r => uptoBulkEntry x + uptoBulkEntries r
def uptoBulkEntry {H : Type} : Lit × DataW H → Nat
  | (.string bytes, d) => bytes.length + uptoBulk d + 1
  | (_, d) => uptoBulk d + 1
 end
def uptoSmall : (H : Type) → List (DataW H) → Bool := fun _ ds => decide (uptoBulkAll ds ≤ 1048576)
def OpenSpec.upto (s : _root_.Go.ChangeSpec) : _root_.Go.OpenSpec := { _root_.Go.OpenSpec.ofChange s with cond := some uptoSmall }

/-- 'laws.FnExactGoodPolicy', WHERE WHAT IT READS IS OF BULK AT MOST 1048576: true; the input reads as it did. -/
def fnExactGoodPolicyUptoRow : OpenClaim := { program := "ytkmjmhjfadaebaa", sum := "e5db32e4fdaa6aef3ff426d05e3f4ca50e0ba7398bebdb4f08d45f9ad31efc20", func := "loop.example/g00269/laws.FnExactGoodPolicy", spec := "fnExactGoodPolicy", apart := false, narrowed := true }
def FnExactGoodPolicyUptoSaid : Prop := fnExactGoodPolicyUptoRow.holds Try.pinned (OpenSpec.upto fnExactGoodPolicySpec)

/-- 'laws.FnExactGoodBreaker', WHERE WHAT IT READS IS OF BULK AT MOST 1048576: true; the input reads as it did. -/
def fnExactGoodBreakerUptoRow : OpenClaim := { program := "ytkmjmhjfadaebaa", sum := "e5db32e4fdaa6aef3ff426d05e3f4ca50e0ba7398bebdb4f08d45f9ad31efc20", func := "loop.example/g00269/laws.FnExactGoodBreaker", spec := "fnExactGoodBreaker", apart := false, narrowed := true }
def FnExactGoodBreakerUptoSaid : Prop := fnExactGoodBreakerUptoRow.holds Try.pinned (OpenSpec.upto fnExactGoodBreakerSpec)

/-- 'laws.FnExactUndoOf', WHERE WHAT IT READS IS OF BULK AT MOST 1048576: true; the input reads as it did. -/
def fnExactUndoOfUptoRow : OpenClaim := { program := "ytkmjmhjfadaebaa", sum := "e5db32e4fdaa6aef3ff426d05e3f4ca50e0ba7398bebdb4f08d45f9ad31efc20", func := "loop.example/g00269/laws.FnExactUndoOf", spec := "fnExactUndoOf", apart := false, narrowed := true }
def FnExactUndoOfUptoSaid : Prop := fnExactUndoOfUptoRow.holds Try.pinned (OpenSpec.upto fnExactUndoOfSpec)

/-- 'laws.FnExactNewBreaker', WHERE WHAT IT READS IS OF BULK AT MOST 1048576: true; the input reads as it did. -/
def fnExactNewBreakerUptoRow : OpenClaim := { program := "ytkmjmhjfadaebaa", sum := "e5db32e4fdaa6aef3ff426d05e3f4ca50e0ba7398bebdb4f08d45f9ad31efc20", func := "loop.example/g00269/laws.FnExactNewBreaker", spec := "fnExactNewBreaker", apart := false, narrowed := true }
def FnExactNewBreakerUptoSaid : Prop := fnExactNewBreakerUptoRow.holds Try.pinned (OpenSpec.upto fnExactNewBreakerSpec)

/-- 'laws.FnExactAllowsAt', WHERE WHAT IT READS IS OF BULK AT MOST 1048576: true; the input reads as it did. -/
def fnExactAllowsAtUptoRow : OpenClaim := { program := "ytkmjmhjfadaebaa", sum := "e5db32e4fdaa6aef3ff426d05e3f4ca50e0ba7398bebdb4f08d45f9ad31efc20", func := "loop.example/g00269/laws.FnExactAllowsAt", spec := "fnExactAllowsAt", apart := false, narrowed := true }
def FnExactAllowsAtUptoSaid : Prop := fnExactAllowsAtUptoRow.holds Try.pinned (OpenSpec.upto fnExactAllowsAtSpec)

/-- 'laws.FnExactWaitOf', WHERE WHAT IT READS IS OF BULK AT MOST 1048576: true; the input reads as it did. -/
def fnExactWaitOfUptoRow : OpenClaim := { program := "ytkmjmhjfadaebaa", sum := "e5db32e4fdaa6aef3ff426d05e3f4ca50e0ba7398bebdb4f08d45f9ad31efc20", func := "loop.example/g00269/laws.FnExactWaitOf", spec := "fnExactWaitOf", apart := false, narrowed := true }
def FnExactWaitOfUptoSaid : Prop := fnExactWaitOfUptoRow.holds Try.pinned (OpenSpec.upto fnExactWaitOfSpec)

/-- 'laws.FnExactWaitsOf', WHERE WHAT IT READS IS OF BULK AT MOST 1048576: true; the input reads as it did. -/
def fnExactWaitsOfUptoRow : OpenClaim := { program := "ytkmjmhjfadaebaa", sum := "e5db32e4fdaa6aef3ff426d05e3f4ca50e0ba7398bebdb4f08d45f9ad31efc20", func := "loop.example/g00269/laws.FnExactWaitsOf", spec := "fnExactWaitsOf", apart := false, narrowed := true }
def FnExactWaitsOfUptoSaid : Prop := fnExactWaitsOfUptoRow.holds Try.pinned (OpenSpec.upto fnExactWaitsOfSpec)

/-- 'laws.FnWaits', WHERE WHAT IT READS IS OF BULK AT MOST 1048576: true; the input reads as it did. -/
def fnWaitsUptoRow : OpenClaim := { program := "ytkmjmhjfadaebaa", sum := "e5db32e4fdaa6aef3ff426d05e3f4ca50e0ba7398bebdb4f08d45f9ad31efc20", func := "loop.example/g00269/laws.FnWaits", spec := "fnWaits", apart := false, narrowed := true }
def FnWaitsUptoSaid : Prop := fnWaitsUptoRow.holds Try.pinned (OpenSpec.upto fnWaitsSpec)

/-- 'laws.FnExactNewState', WHERE WHAT IT READS IS OF BULK AT MOST 1048576: true; the input reads as it did. -/
def fnExactNewStateUptoRow : OpenClaim := { program := "ytkmjmhjfadaebaa", sum := "e5db32e4fdaa6aef3ff426d05e3f4ca50e0ba7398bebdb4f08d45f9ad31efc20", func := "loop.example/g00269/laws.FnExactNewState", spec := "fnExactNewState", apart := false, narrowed := true }
def FnExactNewStateUptoSaid : Prop := fnExactNewStateUptoRow.holds Try.pinned (OpenSpec.upto fnExactNewStateSpec)

/-- 'laws.FnExactLastOf', WHERE WHAT IT READS IS OF BULK AT MOST 1048576: true; the input reads as it did. -/
def fnExactLastOfUptoRow : OpenClaim := { program := "ytkmjmhjfadaebaa", sum := "e5db32e4fdaa6aef3ff426d05e3f4ca50e0ba7398bebdb4f08d45f9ad31efc20", func := "loop.example/g00269/laws.FnExactLastOf", spec := "fnExactLastOf", apart := false, narrowed := true }
def FnExactLastOfUptoSaid : Prop := fnExactLastOfUptoRow.holds Try.pinned (OpenSpec.upto fnExactLastOfSpec)

/-- 'laws.FnExactNewerOf', WHERE WHAT IT READS IS OF BULK AT MOST 1048576: true; the input reads as it did. -/
def fnExactNewerOfUptoRow : OpenClaim := { program := "ytkmjmhjfadaebaa", sum := "e5db32e4fdaa6aef3ff426d05e3f4ca50e0ba7398bebdb4f08d45f9ad31efc20", func := "loop.example/g00269/laws.FnExactNewerOf", spec := "fnExactNewerOf", apart := false, narrowed := true }
def FnExactNewerOfUptoSaid : Prop := fnExactNewerOfUptoRow.holds Try.pinned (OpenSpec.upto fnExactNewerOfSpec)

/-- 'laws.FnExactVersionAt', WHERE WHAT IT READS IS OF BULK AT MOST 1048576: true; the input reads as it did. -/
def fnExactVersionAtUptoRow : OpenClaim := { program := "ytkmjmhjfadaebaa", sum := "e5db32e4fdaa6aef3ff426d05e3f4ca50e0ba7398bebdb4f08d45f9ad31efc20", func := "loop.example/g00269/laws.FnExactVersionAt", spec := "fnExactVersionAt", unfollowed := true, recurses := true, apart := false, narrowed := true }
def FnExactVersionAtUptoSaid : Prop := fnExactVersionAtUptoRow.holds Try.pinned (OpenSpec.upto fnExactVersionAtSpec)

end Rows
end Go.Proofs.Ytkmjmhjfadaebaa
