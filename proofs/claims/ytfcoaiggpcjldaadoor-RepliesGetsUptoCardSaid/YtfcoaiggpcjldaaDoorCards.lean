/-
  DERIVED. GIVEN WITH THE SEED: THE CARDS: each row of YtfcoaiggpcjldaaDoorRows.lean that lists a variable, with what it lists TIED to the program's text (the seventh form; the later family's looks); each row that meets fmt, with fmt's text TOLD by the authors' own Lean function (tested against real Go, not proved from fmt's source: count such statements apart). THE CARD IS WHAT COUNTS. Prove the row's statement (the work); the ties are given (YtfcoaiggpcjldaaDoorTie.lean); close each card by the builder's one call (the guide's Derived/Test/ToyasCard.lean, 'card_holds'). Laid BY PROGRAM, IN A SANDBOX (cutbox-door.mjs). By AI agents, Wed Nov 11 2026. No macro, syntax, notation, axiom, sorry.
-/
import Derived.Test.YtfcoaiggpcjldaaDoorRows
import GoSem.ClaimSeven
namespace Go.Proofs.YtfcoaiggpcjldaaDoor
namespace Rows

/-- THE TIED CARD OF 'gangwaylaw21.RepliesPuts'. -/
def repliesPutsCard : Claim7 := { stood := { row := repliesPutsRow, standIns := [], harness := (true, "4f75a3609371237a592ac4ba20f5794f4415760a11e7b9346d2e698d4d92e699"), looks := false }, kinds := [], alts := [], laidByText := true, laidKinds := [.data], laidTests := true, laidLooks := .later }
def RepliesPutsCardSaid : Prop := Claim7.holds Tryd.pinned (.plain (OpenSpec.ofChange repliesPutsSpec)) repliesPutsCard

/-- THE TIED CARD OF 'gangwaylaw21.RepliesGets'. -/
def repliesGetsCard : Claim7 := { stood := { row := repliesGetsRow, standIns := [], harness := (true, "4f75a3609371237a592ac4ba20f5794f4415760a11e7b9346d2e698d4d92e699"), looks := false }, kinds := [], alts := [], laidByText := true, laidKinds := [.data], laidTests := true, laidLooks := .later }
def RepliesGetsCardSaid : Prop := Claim7.holds Tryd.pinned (.plain (OpenSpec.ofChange repliesGetsSpec)) repliesGetsCard

/-- THE TIED CARD OF 'gangwaylaw21.RepliesNumbers'. -/
def repliesNumbersCard : Claim7 := { stood := { row := repliesNumbersRow, standIns := [], harness := (true, "4f75a3609371237a592ac4ba20f5794f4415760a11e7b9346d2e698d4d92e699"), looks := false }, kinds := [], alts := [], laidByText := true, laidKinds := [.data], laidTests := true, laidLooks := .later }
def RepliesNumbersCardSaid : Prop := Claim7.holds Tryd.pinned (.plain (OpenSpec.ofChange repliesNumbersSpec)) repliesNumbersCard

/-- THE TIED CARD OF 'gangwaylaw21.RepliesBack'. -/
def repliesBackCard : Claim7 := { stood := { row := repliesBackRow, standIns := [], harness := (true, "4f75a3609371237a592ac4ba20f5794f4415760a11e7b9346d2e698d4d92e699"), looks := false }, kinds := [], alts := [], laidByText := true, laidKinds := [.data], laidTests := true, laidLooks := .later }
def RepliesBackCardSaid : Prop := Claim7.holds Tryd.pinned (.plain (OpenSpec.ofChange repliesBackSpec)) repliesBackCard

/-- THE TIED CARD OF 'gangwaylaw21.RepliesBegin'. -/
def repliesBeginCard : Claim7 := { stood := { row := repliesBeginRow, standIns := [], harness := (true, "4f75a3609371237a592ac4ba20f5794f4415760a11e7b9346d2e698d4d92e699"), looks := false }, kinds := [], alts := [], laidByText := true, laidKinds := [.data], laidTests := true, laidLooks := .later }
def RepliesBeginCardSaid : Prop := Claim7.holds Tryd.pinned (.plain (OpenSpec.ofChange repliesBeginSpec)) repliesBeginCard

/-- THE SECOND FORM's CARD OF 'gangwaylaw21.RepliesPuts'. -/
def repliesPutsUptoCard : Claim7 := { stood := { row := repliesPutsUptoRow, standIns := [], harness := (true, "4f75a3609371237a592ac4ba20f5794f4415760a11e7b9346d2e698d4d92e699"), looks := false }, kinds := [], alts := [], laidByText := true, laidKinds := [.data], laidTests := true, laidLooks := .later }
def RepliesPutsUptoCardSaid : Prop := Claim7.holds Tryd.pinned (.plain (OpenSpec.upto repliesPutsSpec)) repliesPutsUptoCard

/-- THE SECOND FORM's CARD OF 'gangwaylaw21.RepliesGets'. -/
def repliesGetsUptoCard : Claim7 := { stood := { row := repliesGetsUptoRow, standIns := [], harness := (true, "4f75a3609371237a592ac4ba20f5794f4415760a11e7b9346d2e698d4d92e699"), looks := false }, kinds := [], alts := [], laidByText := true, laidKinds := [.data], laidTests := true, laidLooks := .later }
def RepliesGetsUptoCardSaid : Prop := Claim7.holds Tryd.pinned (.plain (OpenSpec.upto repliesGetsSpec)) repliesGetsUptoCard

/-- THE SECOND FORM's CARD OF 'gangwaylaw21.RepliesNumbers'. -/
def repliesNumbersUptoCard : Claim7 := { stood := { row := repliesNumbersUptoRow, standIns := [], harness := (true, "4f75a3609371237a592ac4ba20f5794f4415760a11e7b9346d2e698d4d92e699"), looks := false }, kinds := [], alts := [], laidByText := true, laidKinds := [.data], laidTests := true, laidLooks := .later }
def RepliesNumbersUptoCardSaid : Prop := Claim7.holds Tryd.pinned (.plain (OpenSpec.upto repliesNumbersSpec)) repliesNumbersUptoCard

/-- THE SECOND FORM's CARD OF 'gangwaylaw21.RepliesBack'. -/
def repliesBackUptoCard : Claim7 := { stood := { row := repliesBackUptoRow, standIns := [], harness := (true, "4f75a3609371237a592ac4ba20f5794f4415760a11e7b9346d2e698d4d92e699"), looks := false }, kinds := [], alts := [], laidByText := true, laidKinds := [.data], laidTests := true, laidLooks := .later }
def RepliesBackUptoCardSaid : Prop := Claim7.holds Tryd.pinned (.plain (OpenSpec.upto repliesBackSpec)) repliesBackUptoCard

/-- THE SECOND FORM's CARD OF 'gangwaylaw21.RepliesBegin'. -/
def repliesBeginUptoCard : Claim7 := { stood := { row := repliesBeginUptoRow, standIns := [], harness := (true, "4f75a3609371237a592ac4ba20f5794f4415760a11e7b9346d2e698d4d92e699"), looks := false }, kinds := [], alts := [], laidByText := true, laidKinds := [.data], laidTests := true, laidLooks := .later }
def RepliesBeginUptoCardSaid : Prop := Claim7.holds Tryd.pinned (.plain (OpenSpec.upto repliesBeginSpec)) repliesBeginUptoCard
end Rows
end Go.Proofs.YtfcoaiggpcjldaaDoor
