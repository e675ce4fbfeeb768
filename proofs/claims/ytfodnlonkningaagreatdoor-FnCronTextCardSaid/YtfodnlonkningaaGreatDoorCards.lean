/-
  DERIVED. GIVEN WITH THE SEED: THE CARDS: each row of YtfodnlonkningaaGreatDoorRows.lean that lists a variable, with what it lists TIED to the program's text (the seventh form; the later family's looks); each row that meets fmt, with fmt's text TOLD by the authors' own Lean function (tested against real Go, not proved from fmt's source: count such statements apart). THE CARD IS WHAT COUNTS. Prove the row's statement (the work); the ties are given (YtfodnlonkningaaGreatDoorTie.lean); close each card by the builder's one call (the guide's Derived/Test/ToyasCard.lean, 'card_holds'). Laid BY PROGRAM, IN A SANDBOX (cutbox-door.mjs). By AI agents, Wed Nov 11 2026. No macro, syntax, notation, axiom, sorry.
-/
import Derived.Test.YtfodnlonkningaaGreatDoorRows
import GoSem.ClaimSeven
namespace Go.Proofs.YtfodnlonkningaaGreatDoor
namespace Rows

/-- THE TIED CARD OF 'laws.FnCronText'. -/
def fnCronTextCard : Claim7 := { stood := { row := fnCronTextRow, standIns := [], harness := (true, "75f51a9f11e65483e3faae4edd1455fcd1df582ed0f36644f74141753eb3d716"), looks := true }, kinds := [], alts := [], laidByText := true, laidKinds := [.data, .data, .data, .data, .sentinel, .sentinel, .pinned], laidTests := true, laidLooks := .later }
def FnCronTextCardSaid : Prop := Claim7.holds Tryz.pinned (.plain (OpenSpec.ofChange fnCronTextSpec)) fnCronTextCard

/-- THE SECOND FORM's CARD OF 'laws.FnCronText'. -/
def fnCronTextUptoCard : Claim7 := { stood := { row := fnCronTextUptoRow, standIns := [], harness := (true, "75f51a9f11e65483e3faae4edd1455fcd1df582ed0f36644f74141753eb3d716"), looks := true }, kinds := [], alts := [], laidByText := true, laidKinds := [.data, .data, .data, .data, .sentinel, .sentinel, .pinned], laidTests := true, laidLooks := .later }
def FnCronTextUptoCardSaid : Prop := Claim7.holds Tryz.pinned (.plain (OpenSpec.upto fnCronTextSpec)) fnCronTextUptoCard
end Rows
end Go.Proofs.YtfodnlonkningaaGreatDoor
