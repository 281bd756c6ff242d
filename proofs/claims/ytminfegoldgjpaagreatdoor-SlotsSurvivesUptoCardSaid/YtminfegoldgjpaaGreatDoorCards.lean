/-
  DERIVED. GIVEN WITH THE SEED: THE CARDS: each row of YtminfegoldgjpaaGreatDoorRows.lean that lists a variable, with what it lists TIED to the program's text (the seventh form; the later family's looks); each row that meets fmt, with fmt's text TOLD by the authors' own Lean function (tested against real Go, not proved from fmt's source: count such statements apart). THE CARD IS WHAT COUNTS. Prove the row's statement (the work); the ties are given (YtminfegoldgjpaaGreatDoorTie.lean); close each card by the builder's one call (the guide's Derived/Test/ToyasCard.lean, 'card_holds'). Laid BY PROGRAM, IN A SANDBOX (cutbox-door.mjs). By AI agents, Wed Nov 11 2026. No macro, syntax, notation, axiom, sorry.
-/
import Derived.Test.YtminfegoldgjpaaGreatDoorRows
import GoSem.ClaimSeven
namespace Go.Proofs.YtminfegoldgjpaaGreatDoor
namespace Rows

/-- THE TIED CARD OF 'gangwaylaw11.SlotsKeeps'. -/
def slotsKeepsCard : Claim7 := { stood := { row := slotsKeepsRow, standIns := [], harness := (true, "f3cd9063158eb5d7eb16602f9dc7d4f8b296992bb9b02bc89001fd94872d202a"), looks := false }, kinds := [], alts := [], laidByText := true, laidKinds := [.data], laidTests := true, laidLooks := .later }
def SlotsKeepsCardSaid : Prop := Claim7.holds Tryz.pinned (.plain (OpenSpec.ofChange slotsKeepsSpec)) slotsKeepsCard

/-- THE TIED CARD OF 'gangwaylaw11.SlotsPlays'. -/
def slotsPlaysCard : Claim7 := { stood := { row := slotsPlaysRow, standIns := [], harness := (true, "f3cd9063158eb5d7eb16602f9dc7d4f8b296992bb9b02bc89001fd94872d202a"), looks := false }, kinds := [], alts := [], laidByText := true, laidKinds := [.data], laidTests := true, laidLooks := .later }
def SlotsPlaysCardSaid : Prop := Claim7.holds Tryz.pinned (.plain (OpenSpec.ofChange slotsPlaysSpec)) slotsPlaysCard

/-- THE TIED CARD OF 'gangwaylaw11.SlotsSurvives'. -/
def slotsSurvivesCard : Claim7 := { stood := { row := slotsSurvivesRow, standIns := [], harness := (true, "f3cd9063158eb5d7eb16602f9dc7d4f8b296992bb9b02bc89001fd94872d202a"), looks := false }, kinds := [], alts := [], laidByText := true, laidKinds := [.data], laidTests := true, laidLooks := .later }
def SlotsSurvivesCardSaid : Prop := Claim7.holds Tryz.pinned (.plain (OpenSpec.ofChange slotsSurvivesSpec)) slotsSurvivesCard

/-- THE SECOND FORM's CARD OF 'gangwaylaw11.SlotsKeeps'. -/
def slotsKeepsUptoCard : Claim7 := { stood := { row := slotsKeepsUptoRow, standIns := [], harness := (true, "f3cd9063158eb5d7eb16602f9dc7d4f8b296992bb9b02bc89001fd94872d202a"), looks := false }, kinds := [], alts := [], laidByText := true, laidKinds := [.data], laidTests := true, laidLooks := .later }
def SlotsKeepsUptoCardSaid : Prop := Claim7.holds Tryz.pinned (.plain (OpenSpec.upto slotsKeepsSpec)) slotsKeepsUptoCard

/-- THE SECOND FORM's CARD OF 'gangwaylaw11.SlotsPlays'. -/
def slotsPlaysUptoCard : Claim7 := { stood := { row := slotsPlaysUptoRow, standIns := [], harness := (true, "f3cd9063158eb5d7eb16602f9dc7d4f8b296992bb9b02bc89001fd94872d202a"), looks := false }, kinds := [], alts := [], laidByText := true, laidKinds := [.data], laidTests := true, laidLooks := .later }
def SlotsPlaysUptoCardSaid : Prop := Claim7.holds Tryz.pinned (.plain (OpenSpec.upto slotsPlaysSpec)) slotsPlaysUptoCard

/-- THE SECOND FORM's CARD OF 'gangwaylaw11.SlotsSurvives'. -/
def slotsSurvivesUptoCard : Claim7 := { stood := { row := slotsSurvivesUptoRow, standIns := [], harness := (true, "f3cd9063158eb5d7eb16602f9dc7d4f8b296992bb9b02bc89001fd94872d202a"), looks := false }, kinds := [], alts := [], laidByText := true, laidKinds := [.data], laidTests := true, laidLooks := .later }
def SlotsSurvivesUptoCardSaid : Prop := Claim7.holds Tryz.pinned (.plain (OpenSpec.upto slotsSurvivesSpec)) slotsSurvivesUptoCard
end Rows
end Go.Proofs.YtminfegoldgjpaaGreatDoor
