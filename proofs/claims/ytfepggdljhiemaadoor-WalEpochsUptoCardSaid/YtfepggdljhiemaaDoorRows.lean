/-
  NARROWER THAN 'FOR EVERY INPUT', by the rows' own cells (each row's printed sentence says how): WalNumbers: laid · WalEpochs: laid · WalRoom: laid · WalKept: laid.
  DERIVED. THE GIVEN ROWS OF THIS SEAT. 4 by the template 'for every input the law returns true; each argument reads behind the call as it read before'; 0 by the template 'total and deterministic' (their statements: YtfepggdljhiemaaDoorTotals.lean).
  GIVEN WITH THE SEED: the statements are not yours to turn. If you find one false, say at which input.
  Laid BY PROGRAM, IN A SANDBOX (cutbox-rows.mjs): the forced cells as the released guide's own fill.sh prints them over the translation 5f6dcab13e6f42ca… (all of the seat's roots in one cut). By AI agents, Wed Nov 11 2026. No macro, syntax, notation, axiom, sorry.
-/
import Derived.Test.YtfepggdljhiemaaDoorChecked
import GoSem.Claim
import GoSem.ClaimJoined
import GoSem.ClaimMapViews
import Derived.JoinedTies
import Derived.KernelRfl
namespace Go.Proofs.YtfepggdljhiemaaDoor
/- THE CELL 'sum', in the pinned program and in every row, IS THE sha256 OF THE DUMP (.gsa) THAT YtfepggdljhiemaaDoorProg.lean LOADS. Nothing in Lean hashes anything: it is a label: what it is worth is what the hold of that sum in a sandbox is worth. -/
noncomputable def Tryd.pinned : Pinned := { name := "ytfepggdljhiemaadoor", sum := "5f6dcab13e6f42cabf4a4d263bb60c6425a869822a9d8f1442e1cc96731152f3", checked := Tryd.checked }
namespace Rows
def none {H : Type} : Left H := { results := [], args := [] }

/- WHAT THE LISTED PACKAGE-LEVEL VARIABLES READ AS WHEN THE CALL BEGINS. Each datum BY PROGRAM (the guide's laid-datum.mjs) off the statement by which the dump's own 'gosem.cut.vars' lays the variable. In a bare row this is a premise. The card (YtfepggdljhiemaaDoorCards.lean) ties it to the program's text. -/
def laid_gangway_crc_table {H : Type} : DataW H := .agg [.lit (.int .u32 0), .lit (.int .u32 498536548), .lit (.int .u32 997073096), .lit (.int .u32 651767980), .lit (.int .u32 1994146192), .lit (.int .u32 1802195444), .lit (.int .u32 1303535960), .lit (.int .u32 1342533948), .lit (.int .u32 3988292384), .lit (.int .u32 4027552580), .lit (.int .u32 3604390888), .lit (.int .u32 3412177804), .lit (.int .u32 2607071920), .lit (.int .u32 2262029012), .lit (.int .u32 2685067896), .lit (.int .u32 3183342108)]

/-- 'gangwaylaw10.WalNumbers': WHATEVER THE INPUT: true; the input reads as it did. -/
def walNumbersSpec : ChangeSpec := { name := "walNumbers", fn := fun _ => fun
  | [] => { results := [.lit (.bool true)], args := [] }
  | _ => none }
def walNumbersRow : OpenClaim := { program := "ytfepggdljhiemaadoor", sum := "5f6dcab13e6f42cabf4a4d263bb60c6425a869822a9d8f1442e1cc96731152f3", func := "gangway/gangwaylaw10.WalNumbers", spec := "walNumbers", unfollowed := true, recurses := true, named := ["gangway/crc.table"], apart := false, laid := [("gangway/crc.table", laid_gangway_crc_table)] }
def WalNumbersSaid : Prop := walNumbersRow.holds Tryd.pinned (OpenSpec.ofChange walNumbersSpec)

/-- ITS FALSE NEIGHBOUR: 'it returns false'. Refute it at one input. -/
def walNumbersWrong : ChangeSpec := { name := "walNumbers", fn := fun _ => fun
  | [] => { results := [.lit (.bool false)], args := [] }
  | _ => none }
def WalNumbersWrongFalsely : Prop := walNumbersRow.holds Tryd.pinned (OpenSpec.ofChange walNumbersWrong)

/-- 'gangwaylaw10.WalEpochs': WHATEVER THE INPUT: true; the input reads as it did. -/
def walEpochsSpec : ChangeSpec := { name := "walEpochs", fn := fun _ => fun
  | [d] => { results := [.lit (.bool true)], args := [d] }
  | _ => none }
def walEpochsRow : OpenClaim := { program := "ytfepggdljhiemaadoor", sum := "5f6dcab13e6f42cabf4a4d263bb60c6425a869822a9d8f1442e1cc96731152f3", func := "gangway/gangwaylaw10.WalEpochs", spec := "walEpochs", unfollowed := true, recurses := true, named := ["gangway/crc.table"], apart := false, laid := [("gangway/crc.table", laid_gangway_crc_table)] }
def WalEpochsSaid : Prop := walEpochsRow.holds Tryd.pinned (OpenSpec.ofChange walEpochsSpec)

/-- ITS FALSE NEIGHBOUR: 'it returns false'. Refute it at one input. -/
def walEpochsWrong : ChangeSpec := { name := "walEpochs", fn := fun _ => fun
  | [d] => { results := [.lit (.bool false)], args := [d] }
  | _ => none }
def WalEpochsWrongFalsely : Prop := walEpochsRow.holds Tryd.pinned (OpenSpec.ofChange walEpochsWrong)

/-- 'gangwaylaw10.WalRoom': WHATEVER THE INPUT: true; the input reads as it did. -/
def walRoomSpec : ChangeSpec := { name := "walRoom", fn := fun _ => fun
  | [d1, d2, d3, d4] => { results := [.lit (.bool true)], args := [d1, d2, d3, d4] }
  | _ => none }
def walRoomRow : OpenClaim := { program := "ytfepggdljhiemaadoor", sum := "5f6dcab13e6f42cabf4a4d263bb60c6425a869822a9d8f1442e1cc96731152f3", func := "gangway/gangwaylaw10.WalRoom", spec := "walRoom", unfollowed := true, recurses := true, named := ["gangway/crc.table"], apart := false, laid := [("gangway/crc.table", laid_gangway_crc_table)] }
def WalRoomSaid : Prop := walRoomRow.holds Tryd.pinned (OpenSpec.ofChange walRoomSpec)

/-- ITS FALSE NEIGHBOUR: 'it returns false'. Refute it at one input. -/
def walRoomWrong : ChangeSpec := { name := "walRoom", fn := fun _ => fun
  | [d1, d2, d3, d4] => { results := [.lit (.bool false)], args := [d1, d2, d3, d4] }
  | _ => none }
def WalRoomWrongFalsely : Prop := walRoomRow.holds Tryd.pinned (OpenSpec.ofChange walRoomWrong)

/-- 'gangwaylaw10.WalKept': WHATEVER THE INPUT: true; the input reads as it did. -/
def walKeptSpec : ChangeSpec := { name := "walKept", fn := fun _ => fun
  | [d1, d2, d3, d4, d5, d6] => { results := [.lit (.bool true)], args := [d1, d2, d3, d4, d5, d6] }
  | _ => none }
def walKeptRow : OpenClaim := { program := "ytfepggdljhiemaadoor", sum := "5f6dcab13e6f42cabf4a4d263bb60c6425a869822a9d8f1442e1cc96731152f3", func := "gangway/gangwaylaw10.WalKept", spec := "walKept", unfollowed := true, recurses := true, named := ["gangway/crc.table"], apart := false, laid := [("gangway/crc.table", laid_gangway_crc_table)] }
def WalKeptSaid : Prop := walKeptRow.holds Tryd.pinned (OpenSpec.ofChange walKeptSpec)

/-- ITS FALSE NEIGHBOUR: 'it returns false'. Refute it at one input. -/
def walKeptWrong : ChangeSpec := { name := "walKept", fn := fun _ => fun
  | [d1, d2, d3, d4, d5, d6] => { results := [.lit (.bool false)], args := [d1, d2, d3, d4, d5, d6] }
  | _ => none }
def WalKeptWrongFalsely : Prop := walKeptRow.holds Tryd.pinned (OpenSpec.ofChange walKeptWrong)

/- THE SECOND FORM. 'bulk': how many values and letters a reading holds, each counted each time it is reached (what is shared counts as often as it is met; a slice's spare places count too). A statement '..UptoSaid' is the law's where the arguments, and the package variables that the reading takes, are together of bulk at most 1048576: NARROWER than '..Said'. Prove '..Said' where nothing that the law and all that it calls make is longer than what came in: it says more and counts as full. Else prove '..UptoSaid'. A law counts once. -/
mutual
def uptoBulk {H : Type} : DataW H → Nat
  | .lit (.string bytes) => bytes.length + 1
  | .lit _ => 1
  | .nil => 1
  | .ptr d => uptoBulk d + 1
  | .slice elems spare => uptoBulkAll elems + uptoBulkAll spare + 1
  | .agg parts => uptoBulkAll parts + 1
  | .iface _ d => uptoBulk d + 1
  | .map entries => uptoBulkEntries entries + 1
  | .held _ => 1
def uptoBulkAll {H : Type} : List (DataW H) → Nat
  | [] => 0
  | d :: r => uptoBulk d + uptoBulkAll r
def uptoBulkEntries {H : Type} : List (Lit × DataW H) → Nat
  | [] => 0
  | x :: r => uptoBulkEntry x + uptoBulkEntries r
def uptoBulkEntry {H : Type} : Lit × DataW H → Nat
  | (.string bytes, d) => bytes.length + uptoBulk d + 1
  | (_, d) => uptoBulk d + 1
 end
def uptoSmall : (H : Type) → List (DataW H) → Bool := fun _ ds => decide (uptoBulkAll ds ≤ 1048576)
def OpenSpec.upto (s : _root_.Go.ChangeSpec) : _root_.Go.OpenSpec := { _root_.Go.OpenSpec.ofChange s with cond := some uptoSmall }

/-- 'gangwaylaw10.WalNumbers', WHERE WHAT IT READS IS OF BULK AT MOST 1048576: true; the input reads as it did. -/
def walNumbersUptoRow : OpenClaim := { program := "ytfepggdljhiemaadoor", sum := "5f6dcab13e6f42cabf4a4d263bb60c6425a869822a9d8f1442e1cc96731152f3", func := "gangway/gangwaylaw10.WalNumbers", spec := "walNumbers", unfollowed := true, recurses := true, named := ["gangway/crc.table"], apart := false, laid := [("gangway/crc.table", laid_gangway_crc_table)], narrowed := true }
def WalNumbersUptoSaid : Prop := walNumbersUptoRow.holds Tryd.pinned (OpenSpec.upto walNumbersSpec)

/-- 'gangwaylaw10.WalEpochs', WHERE WHAT IT READS IS OF BULK AT MOST 1048576: true; the input reads as it did. -/
def walEpochsUptoRow : OpenClaim := { program := "ytfepggdljhiemaadoor", sum := "5f6dcab13e6f42cabf4a4d263bb60c6425a869822a9d8f1442e1cc96731152f3", func := "gangway/gangwaylaw10.WalEpochs", spec := "walEpochs", unfollowed := true, recurses := true, named := ["gangway/crc.table"], apart := false, laid := [("gangway/crc.table", laid_gangway_crc_table)], narrowed := true }
def WalEpochsUptoSaid : Prop := walEpochsUptoRow.holds Tryd.pinned (OpenSpec.upto walEpochsSpec)

/-- 'gangwaylaw10.WalRoom', WHERE WHAT IT READS IS OF BULK AT MOST 1048576: true; the input reads as it did. -/
def walRoomUptoRow : OpenClaim := { program := "ytfepggdljhiemaadoor", sum := "5f6dcab13e6f42cabf4a4d263bb60c6425a869822a9d8f1442e1cc96731152f3", func := "gangway/gangwaylaw10.WalRoom", spec := "walRoom", unfollowed := true, recurses := true, named := ["gangway/crc.table"], apart := false, laid := [("gangway/crc.table", laid_gangway_crc_table)], narrowed := true }
def WalRoomUptoSaid : Prop := walRoomUptoRow.holds Tryd.pinned (OpenSpec.upto walRoomSpec)

/-- 'gangwaylaw10.WalKept', WHERE WHAT IT READS IS OF BULK AT MOST 1048576: true; the input reads as it did. -/
def walKeptUptoRow : OpenClaim := { program := "ytfepggdljhiemaadoor", sum := "5f6dcab13e6f42cabf4a4d263bb60c6425a869822a9d8f1442e1cc96731152f3", func := "gangway/gangwaylaw10.WalKept", spec := "walKept", unfollowed := true, recurses := true, named := ["gangway/crc.table"], apart := false, laid := [("gangway/crc.table", laid_gangway_crc_table)], narrowed := true }
def WalKeptUptoSaid : Prop := walKeptUptoRow.holds Tryd.pinned (OpenSpec.upto walKeptSpec)

end Rows
end Go.Proofs.YtfepggdljhiemaaDoor
