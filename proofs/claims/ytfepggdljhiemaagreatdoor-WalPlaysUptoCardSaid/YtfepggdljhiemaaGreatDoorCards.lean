/-
  DERIVED. GIVEN WITH THE SEED: THE CARDS: each row of YtfepggdljhiemaaGreatDoorRows.lean that lists a variable, with what it lists TIED to the program's text (the seventh form; the later family's looks); each row that meets fmt, with fmt's text TOLD by the authors' own Lean function (tested against real Go, not proved from fmt's source: count such statements apart). THE CARD IS WHAT COUNTS. Prove the row's statement (the work); the ties are given (YtfepggdljhiemaaGreatDoorTie.lean); close each card by the builder's one call (the guide's Derived/Test/ToyasCard.lean, 'card_holds'). Laid BY PROGRAM, IN A SANDBOX (cutbox-door.mjs). By AI agents, Wed Nov 11 2026. No macro, syntax, notation, axiom, sorry.
-/
import Derived.Test.YtfepggdljhiemaaGreatDoorRows
import GoSem.ClaimSeven
namespace Go.Proofs.YtfepggdljhiemaaGreatDoor
namespace Rows

/-- THE TIED CARD OF 'gangwaylaw10.WalSpares'. -/
def walSparesCard : Claim7 := { stood := { row := walSparesRow, standIns := [], harness := (true, "d574984d3034c73e8a192e6b08e8739bc00f16bfc388783c62c66ef4e90790be"), looks := false }, kinds := [], alts := [], laidByText := true, laidKinds := [.data], laidTests := true, laidLooks := .later }
def WalSparesCardSaid : Prop := Claim7.holds Tryz.pinned (.plain (OpenSpec.ofChange walSparesSpec)) walSparesCard

/-- THE TIED CARD OF 'gangwaylaw10.WalPlays'. -/
def walPlaysCard : Claim7 := { stood := { row := walPlaysRow, standIns := [], harness := (true, "d574984d3034c73e8a192e6b08e8739bc00f16bfc388783c62c66ef4e90790be"), looks := false }, kinds := [], alts := [], laidByText := true, laidKinds := [.data], laidTests := true, laidLooks := .later }
def WalPlaysCardSaid : Prop := Claim7.holds Tryz.pinned (.plain (OpenSpec.ofChange walPlaysSpec)) walPlaysCard

/-- THE SECOND FORM's CARD OF 'gangwaylaw10.WalSpares'. -/
def walSparesUptoCard : Claim7 := { stood := { row := walSparesUptoRow, standIns := [], harness := (true, "d574984d3034c73e8a192e6b08e8739bc00f16bfc388783c62c66ef4e90790be"), looks := false }, kinds := [], alts := [], laidByText := true, laidKinds := [.data], laidTests := true, laidLooks := .later }
def WalSparesUptoCardSaid : Prop := Claim7.holds Tryz.pinned (.plain (OpenSpec.upto walSparesSpec)) walSparesUptoCard

/-- THE SECOND FORM's CARD OF 'gangwaylaw10.WalPlays'. -/
def walPlaysUptoCard : Claim7 := { stood := { row := walPlaysUptoRow, standIns := [], harness := (true, "d574984d3034c73e8a192e6b08e8739bc00f16bfc388783c62c66ef4e90790be"), looks := false }, kinds := [], alts := [], laidByText := true, laidKinds := [.data], laidTests := true, laidLooks := .later }
def WalPlaysUptoCardSaid : Prop := Claim7.holds Tryz.pinned (.plain (OpenSpec.upto walPlaysSpec)) walPlaysUptoCard
end Rows
end Go.Proofs.YtfepggdljhiemaaGreatDoor
