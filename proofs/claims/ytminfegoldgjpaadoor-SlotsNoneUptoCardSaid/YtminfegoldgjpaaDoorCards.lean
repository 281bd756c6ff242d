/-
  DERIVED. GIVEN WITH THE SEED: THE CARDS: each row of YtminfegoldgjpaaDoorRows.lean that lists a variable, with what it lists TIED to the program's text (the seventh form; the later family's looks); each row that meets fmt, with fmt's text TOLD by the authors' own Lean function (tested against real Go, not proved from fmt's source: count such statements apart). THE CARD IS WHAT COUNTS. Prove the row's statement (the work); the ties are given (YtminfegoldgjpaaDoorTie.lean); close each card by the builder's one call (the guide's Derived/Test/ToyasCard.lean, 'card_holds'). Laid BY PROGRAM, IN A SANDBOX (cutbox-door.mjs). By AI agents, Wed Nov 11 2026. No macro, syntax, notation, axiom, sorry.
-/
import Derived.Test.YtminfegoldgjpaaDoorRows
import GoSem.ClaimSeven
namespace Go.Proofs.YtminfegoldgjpaaDoor
namespace Rows

/-- THE TIED CARD OF 'gangwaylaw11.SlotsHeaders'. -/
def slotsHeadersCard : Claim7 := { stood := { row := slotsHeadersRow, standIns := [], harness := (true, "143ec378dbdb49560ca7981f6d8edb30fadd93665017d7af38ba1335ee09f2d0"), looks := false }, kinds := [], alts := [], laidByText := true, laidKinds := [.data], laidTests := true, laidLooks := .later }
def SlotsHeadersCardSaid : Prop := Claim7.holds Tryd.pinned (.plain (OpenSpec.ofChange slotsHeadersSpec)) slotsHeadersCard

/-- THE TIED CARD OF 'gangwaylaw11.SlotsNone'. -/
def slotsNoneCard : Claim7 := { stood := { row := slotsNoneRow, standIns := [], harness := (true, "143ec378dbdb49560ca7981f6d8edb30fadd93665017d7af38ba1335ee09f2d0"), looks := false }, kinds := [], alts := [], laidByText := true, laidKinds := [.data], laidTests := true, laidLooks := .later }
def SlotsNoneCardSaid : Prop := Claim7.holds Tryd.pinned (.plain (OpenSpec.ofChange slotsNoneSpec)) slotsNoneCard

/-- THE TIED CARD OF 'gangwaylaw11.SlotsBack'. -/
def slotsBackCard : Claim7 := { stood := { row := slotsBackRow, standIns := [], harness := (true, "143ec378dbdb49560ca7981f6d8edb30fadd93665017d7af38ba1335ee09f2d0"), looks := false }, kinds := [], alts := [], laidByText := true, laidKinds := [.data], laidTests := true, laidLooks := .later }
def SlotsBackCardSaid : Prop := Claim7.holds Tryd.pinned (.plain (OpenSpec.ofChange slotsBackSpec)) slotsBackCard

/-- THE TIED CARD OF 'gangwaylaw11.SlotsTurns'. -/
def slotsTurnsCard : Claim7 := { stood := { row := slotsTurnsRow, standIns := [], harness := (true, "143ec378dbdb49560ca7981f6d8edb30fadd93665017d7af38ba1335ee09f2d0"), looks := false }, kinds := [], alts := [], laidByText := true, laidKinds := [.data], laidTests := true, laidLooks := .later }
def SlotsTurnsCardSaid : Prop := Claim7.holds Tryd.pinned (.plain (OpenSpec.ofChange slotsTurnsSpec)) slotsTurnsCard

/-- THE SECOND FORM's CARD OF 'gangwaylaw11.SlotsHeaders'. -/
def slotsHeadersUptoCard : Claim7 := { stood := { row := slotsHeadersUptoRow, standIns := [], harness := (true, "143ec378dbdb49560ca7981f6d8edb30fadd93665017d7af38ba1335ee09f2d0"), looks := false }, kinds := [], alts := [], laidByText := true, laidKinds := [.data], laidTests := true, laidLooks := .later }
def SlotsHeadersUptoCardSaid : Prop := Claim7.holds Tryd.pinned (.plain (OpenSpec.upto slotsHeadersSpec)) slotsHeadersUptoCard

/-- THE SECOND FORM's CARD OF 'gangwaylaw11.SlotsNone'. -/
def slotsNoneUptoCard : Claim7 := { stood := { row := slotsNoneUptoRow, standIns := [], harness := (true, "143ec378dbdb49560ca7981f6d8edb30fadd93665017d7af38ba1335ee09f2d0"), looks := false }, kinds := [], alts := [], laidByText := true, laidKinds := [.data], laidTests := true, laidLooks := .later }
def SlotsNoneUptoCardSaid : Prop := Claim7.holds Tryd.pinned (.plain (OpenSpec.upto slotsNoneSpec)) slotsNoneUptoCard

/-- THE SECOND FORM's CARD OF 'gangwaylaw11.SlotsBack'. -/
def slotsBackUptoCard : Claim7 := { stood := { row := slotsBackUptoRow, standIns := [], harness := (true, "143ec378dbdb49560ca7981f6d8edb30fadd93665017d7af38ba1335ee09f2d0"), looks := false }, kinds := [], alts := [], laidByText := true, laidKinds := [.data], laidTests := true, laidLooks := .later }
def SlotsBackUptoCardSaid : Prop := Claim7.holds Tryd.pinned (.plain (OpenSpec.upto slotsBackSpec)) slotsBackUptoCard

/-- THE SECOND FORM's CARD OF 'gangwaylaw11.SlotsTurns'. -/
def slotsTurnsUptoCard : Claim7 := { stood := { row := slotsTurnsUptoRow, standIns := [], harness := (true, "143ec378dbdb49560ca7981f6d8edb30fadd93665017d7af38ba1335ee09f2d0"), looks := false }, kinds := [], alts := [], laidByText := true, laidKinds := [.data], laidTests := true, laidLooks := .later }
def SlotsTurnsUptoCardSaid : Prop := Claim7.holds Tryd.pinned (.plain (OpenSpec.upto slotsTurnsSpec)) slotsTurnsUptoCard
end Rows
end Go.Proofs.YtminfegoldgjpaaDoor
