/-
  DERIVED. GIVEN WITH THE SEED: THE CARDS: each row of YtkbaenelfhakbaaDoorRows.lean that lists a variable, with what it lists TIED to the program's text (the seventh form; the later family's looks); each row that meets fmt, with fmt's text TOLD by the authors' own Lean function (tested against real Go, not proved from fmt's source: count such statements apart). THE CARD IS WHAT COUNTS. Prove the row's statement (the work); the ties are given (YtkbaenelfhakbaaDoorTie.lean); close each card by the builder's one call (the guide's Derived/Test/ToyasCard.lean, 'card_holds'). Laid BY PROGRAM, IN A SANDBOX (cutbox-door.mjs). By AI agents, Wed Nov 11 2026. No macro, syntax, notation, axiom, sorry.
-/
import Derived.Test.YtkbaenelfhakbaaDoorRows
import GoSem.ClaimSeven
namespace Go.Proofs.YtkbaenelfhakbaaDoor
namespace Rows

/-- THE TIED CARD OF 'laws.FnExactItemsOf'. -/
def fnExactItemsOfCard : Claim7 := { stood := { row := fnExactItemsOfRow, standIns := [], harness := (true, "78de6f63d663a01102b089a786165f8924686ff8974155358e5d67b8384763e5"), looks := false }, kinds := [], alts := [], laidByText := true, laidKinds := [.data, .pinned], laidTests := true, laidLooks := .later }
def FnExactItemsOfCardSaid : Prop := Claim7.holds Tryd.pinned (.plain (OpenSpec.ofChange fnExactItemsOfSpec)) fnExactItemsOfCard

/-- THE TIED CARD OF 'laws.FnItems'. -/
def fnItemsCard : Claim7 := { stood := { row := fnItemsRow, standIns := [], harness := (true, "78de6f63d663a01102b089a786165f8924686ff8974155358e5d67b8384763e5"), looks := false }, kinds := [], alts := [], laidByText := true, laidKinds := [.data, .pinned], laidTests := true, laidLooks := .later }
def FnItemsCardSaid : Prop := Claim7.holds Tryd.pinned (.plain (OpenSpec.ofChange fnItemsSpec)) fnItemsCard

/-- THE TIED CARD OF 'laws.FnExactGoodState'. -/
def fnExactGoodStateCard : Claim7 := { stood := { row := fnExactGoodStateRow, standIns := [], harness := (true, "78de6f63d663a01102b089a786165f8924686ff8974155358e5d67b8384763e5"), looks := false }, kinds := [], alts := [], laidByText := true, laidKinds := [.data, .pinned], laidTests := true, laidLooks := .later }
def FnExactGoodStateCardSaid : Prop := Claim7.holds Tryd.pinned (.plain (OpenSpec.ofChange fnExactGoodStateSpec)) fnExactGoodStateCard

/-- THE TIED CARD OF 'laws.FnExactMayCome'. -/
def fnExactMayComeCard : Claim7 := { stood := { row := fnExactMayComeRow, standIns := [], harness := (true, "78de6f63d663a01102b089a786165f8924686ff8974155358e5d67b8384763e5"), looks := false }, kinds := [], alts := [], laidByText := true, laidKinds := [.data, .pinned], laidTests := true, laidLooks := .later }
def FnExactMayComeCardSaid : Prop := Claim7.holds Tryd.pinned (.plain (OpenSpec.ofChange fnExactMayComeSpec)) fnExactMayComeCard

/-- THE TIED CARD OF 'laws.FnExactIsHistory'. -/
def fnExactIsHistoryCard : Claim7 := { stood := { row := fnExactIsHistoryRow, standIns := [], harness := (true, "78de6f63d663a01102b089a786165f8924686ff8974155358e5d67b8384763e5"), looks := false }, kinds := [], alts := [], laidByText := true, laidKinds := [.data, .pinned], laidTests := true, laidLooks := .later }
def FnExactIsHistoryCardSaid : Prop := Claim7.holds Tryd.pinned (.plain (OpenSpec.ofChange fnExactIsHistorySpec)) fnExactIsHistoryCard

/-- THE TIED CARD OF 'laws.FnExactApplyEvent'. -/
def fnExactApplyEventCard : Claim7 := { stood := { row := fnExactApplyEventRow, standIns := [], harness := (true, "78de6f63d663a01102b089a786165f8924686ff8974155358e5d67b8384763e5"), looks := false }, kinds := [], alts := [], laidByText := true, laidKinds := [.data, .pinned], laidTests := true, laidLooks := .later }
def FnExactApplyEventCardSaid : Prop := Claim7.holds Tryd.pinned (.plain (OpenSpec.ofChange fnExactApplyEventSpec)) fnExactApplyEventCard

/-- THE SECOND FORM's CARD OF 'laws.FnExactItemsOf'. -/
def fnExactItemsOfUptoCard : Claim7 := { stood := { row := fnExactItemsOfUptoRow, standIns := [], harness := (true, "78de6f63d663a01102b089a786165f8924686ff8974155358e5d67b8384763e5"), looks := false }, kinds := [], alts := [], laidByText := true, laidKinds := [.data, .pinned], laidTests := true, laidLooks := .later }
def FnExactItemsOfUptoCardSaid : Prop := Claim7.holds Tryd.pinned (.plain (OpenSpec.upto fnExactItemsOfSpec)) fnExactItemsOfUptoCard

/-- THE SECOND FORM's CARD OF 'laws.FnItems'. -/
def fnItemsUptoCard : Claim7 := { stood := { row := fnItemsUptoRow, standIns := [], harness := (true, "78de6f63d663a01102b089a786165f8924686ff8974155358e5d67b8384763e5"), looks := false }, kinds := [], alts := [], laidByText := true, laidKinds := [.data, .pinned], laidTests := true, laidLooks := .later }
def FnItemsUptoCardSaid : Prop := Claim7.holds Tryd.pinned (.plain (OpenSpec.upto fnItemsSpec)) fnItemsUptoCard

/-- THE SECOND FORM's CARD OF 'laws.FnExactGoodState'. -/
def fnExactGoodStateUptoCard : Claim7 := { stood := { row := fnExactGoodStateUptoRow, standIns := [], harness := (true, "78de6f63d663a01102b089a786165f8924686ff8974155358e5d67b8384763e5"), looks := false }, kinds := [], alts := [], laidByText := true, laidKinds := [.data, .pinned], laidTests := true, laidLooks := .later }
def FnExactGoodStateUptoCardSaid : Prop := Claim7.holds Tryd.pinned (.plain (OpenSpec.upto fnExactGoodStateSpec)) fnExactGoodStateUptoCard

/-- THE SECOND FORM's CARD OF 'laws.FnExactMayCome'. -/
def fnExactMayComeUptoCard : Claim7 := { stood := { row := fnExactMayComeUptoRow, standIns := [], harness := (true, "78de6f63d663a01102b089a786165f8924686ff8974155358e5d67b8384763e5"), looks := false }, kinds := [], alts := [], laidByText := true, laidKinds := [.data, .pinned], laidTests := true, laidLooks := .later }
def FnExactMayComeUptoCardSaid : Prop := Claim7.holds Tryd.pinned (.plain (OpenSpec.upto fnExactMayComeSpec)) fnExactMayComeUptoCard

/-- THE SECOND FORM's CARD OF 'laws.FnExactIsHistory'. -/
def fnExactIsHistoryUptoCard : Claim7 := { stood := { row := fnExactIsHistoryUptoRow, standIns := [], harness := (true, "78de6f63d663a01102b089a786165f8924686ff8974155358e5d67b8384763e5"), looks := false }, kinds := [], alts := [], laidByText := true, laidKinds := [.data, .pinned], laidTests := true, laidLooks := .later }
def FnExactIsHistoryUptoCardSaid : Prop := Claim7.holds Tryd.pinned (.plain (OpenSpec.upto fnExactIsHistorySpec)) fnExactIsHistoryUptoCard

/-- THE SECOND FORM's CARD OF 'laws.FnExactApplyEvent'. -/
def fnExactApplyEventUptoCard : Claim7 := { stood := { row := fnExactApplyEventUptoRow, standIns := [], harness := (true, "78de6f63d663a01102b089a786165f8924686ff8974155358e5d67b8384763e5"), looks := false }, kinds := [], alts := [], laidByText := true, laidKinds := [.data, .pinned], laidTests := true, laidLooks := .later }
def FnExactApplyEventUptoCardSaid : Prop := Claim7.holds Tryd.pinned (.plain (OpenSpec.upto fnExactApplyEventSpec)) fnExactApplyEventUptoCard
end Rows
end Go.Proofs.YtkbaenelfhakbaaDoor
