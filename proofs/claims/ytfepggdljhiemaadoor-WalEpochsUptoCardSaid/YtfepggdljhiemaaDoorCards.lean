/-
  DERIVED. GIVEN WITH THE SEED: THE CARDS: each row of YtfepggdljhiemaaDoorRows.lean that lists a variable, with what it lists TIED to the program's text (the seventh form; the later family's looks); each row that meets fmt, with fmt's text TOLD by the authors' own Lean function (tested against real Go, not proved from fmt's source: count such statements apart). THE CARD IS WHAT COUNTS. Prove the row's statement (the work); the ties are given (YtfepggdljhiemaaDoorTie.lean); close each card by the builder's one call (the guide's Derived/Test/ToyasCard.lean, 'card_holds'). Laid BY PROGRAM, IN A SANDBOX (cutbox-door.mjs). By AI agents, Wed Nov 11 2026. No macro, syntax, notation, axiom, sorry.
-/
import Derived.Test.YtfepggdljhiemaaDoorRows
import GoSem.ClaimSeven
namespace Go.Proofs.YtfepggdljhiemaaDoor
namespace Rows

/-- THE TIED CARD OF 'gangwaylaw10.WalNumbers'. -/
def walNumbersCard : Claim7 := { stood := { row := walNumbersRow, standIns := [], harness := (true, "fbe99a3eace6be4ac5c874826fb450a66b5671c94050a3c5d5b588137f91fedc"), looks := false }, kinds := [], alts := [], laidByText := true, laidKinds := [.data], laidTests := true, laidLooks := .later }
def WalNumbersCardSaid : Prop := Claim7.holds Tryd.pinned (.plain (OpenSpec.ofChange walNumbersSpec)) walNumbersCard

/-- THE TIED CARD OF 'gangwaylaw10.WalEpochs'. -/
def walEpochsCard : Claim7 := { stood := { row := walEpochsRow, standIns := [], harness := (true, "fbe99a3eace6be4ac5c874826fb450a66b5671c94050a3c5d5b588137f91fedc"), looks := false }, kinds := [], alts := [], laidByText := true, laidKinds := [.data], laidTests := true, laidLooks := .later }
def WalEpochsCardSaid : Prop := Claim7.holds Tryd.pinned (.plain (OpenSpec.ofChange walEpochsSpec)) walEpochsCard

/-- THE TIED CARD OF 'gangwaylaw10.WalRoom'. -/
def walRoomCard : Claim7 := { stood := { row := walRoomRow, standIns := [], harness := (true, "fbe99a3eace6be4ac5c874826fb450a66b5671c94050a3c5d5b588137f91fedc"), looks := false }, kinds := [], alts := [], laidByText := true, laidKinds := [.data], laidTests := true, laidLooks := .later }
def WalRoomCardSaid : Prop := Claim7.holds Tryd.pinned (.plain (OpenSpec.ofChange walRoomSpec)) walRoomCard

/-- THE TIED CARD OF 'gangwaylaw10.WalKept'. -/
def walKeptCard : Claim7 := { stood := { row := walKeptRow, standIns := [], harness := (true, "fbe99a3eace6be4ac5c874826fb450a66b5671c94050a3c5d5b588137f91fedc"), looks := false }, kinds := [], alts := [], laidByText := true, laidKinds := [.data], laidTests := true, laidLooks := .later }
def WalKeptCardSaid : Prop := Claim7.holds Tryd.pinned (.plain (OpenSpec.ofChange walKeptSpec)) walKeptCard

/-- THE SECOND FORM's CARD OF 'gangwaylaw10.WalNumbers'. -/
def walNumbersUptoCard : Claim7 := { stood := { row := walNumbersUptoRow, standIns := [], harness := (true, "fbe99a3eace6be4ac5c874826fb450a66b5671c94050a3c5d5b588137f91fedc"), looks := false }, kinds := [], alts := [], laidByText := true, laidKinds := [.data], laidTests := true, laidLooks := .later }
def WalNumbersUptoCardSaid : Prop := Claim7.holds Tryd.pinned (.plain (OpenSpec.upto walNumbersSpec)) walNumbersUptoCard

/-- THE SECOND FORM's CARD OF 'gangwaylaw10.WalEpochs'. -/
def walEpochsUptoCard : Claim7 := { stood := { row := walEpochsUptoRow, standIns := [], harness := (true, "fbe99a3eace6be4ac5c874826fb450a66b5671c94050a3c5d5b588137f91fedc"), looks := false }, kinds := [], alts := [], laidByText := true, laidKinds := [.data], laidTests := true, laidLooks := .later }
def WalEpochsUptoCardSaid : Prop := Claim7.holds Tryd.pinned (.plain (OpenSpec.upto walEpochsSpec)) walEpochsUptoCard

/-- THE SECOND FORM's CARD OF 'gangwaylaw10.WalRoom'. -/
def walRoomUptoCard : Claim7 := { stood := { row := walRoomUptoRow, standIns := [], harness := (true, "fbe99a3eace6be4ac5c874826fb450a66b5671c94050a3c5d5b588137f91fedc"), looks := false }, kinds := [], alts := [], laidByText := true, laidKinds := [.data], laidTests := true, laidLooks := .later }
def WalRoomUptoCardSaid : Prop := Claim7.holds Tryd.pinned (.plain (OpenSpec.upto walRoomSpec)) walRoomUptoCard

/-- THE SECOND FORM's CARD OF 'gangwaylaw10.WalKept'. -/
def walKeptUptoCard : Claim7 := { stood := { row := walKeptUptoRow, standIns := [], harness := (true, "fbe99a3eace6be4ac5c874826fb450a66b5671c94050a3c5d5b588137f91fedc"), looks := false }, kinds := [], alts := [], laidByText := true, laidKinds := [.data], laidTests := true, laidLooks := .later }
def WalKeptUptoCardSaid : Prop := Claim7.holds Tryd.pinned (.plain (OpenSpec.upto walKeptSpec)) walKeptUptoCard
end Rows
end Go.Proofs.YtfepggdljhiemaaDoor
