/-
  NARROWER THAN 'FOR EVERY INPUT', by the rows' own cells (each row's printed sentence says how): FramePuts: laid · FrameGets: laid · FrameScans: laid · FrameBack: laid · FrameAgain: laid · FrameSpoilt: laid · FrameKeeps: laid.
  DERIVED. THE GIVEN ROWS OF THIS SEAT. 7 by the template 'for every input the law returns true; each argument reads behind the call as it read before'; 0 by the template 'total and deterministic' (their statements: YtboigcnpamldlaaDoorTotals.lean).
  GIVEN WITH THE SEED: the statements are not yours to turn. If you find one false, say at which input.
  Laid BY PROGRAM, IN A SANDBOX (cutbox-rows.mjs): the forced cells as the released guide's own fill.sh prints them over the translation ce582602418a03a9… (all of the seat's roots in one cut). By AI agents, Wed Nov 11 2026. No macro, syntax, notation, axiom, sorry.
-/
import Derived.Test.YtboigcnpamldlaaDoorChecked
import GoSem.Claim
import GoSem.ClaimJoined
import GoSem.ClaimMapViews
import Derived.JoinedTies
import Derived.KernelRfl
namespace Go.Proofs.YtboigcnpamldlaaDoor
/- THE CELL 'sum', in the pinned program and in every row, IS THE sha256 OF THE DUMP (.gsa) THAT YtboigcnpamldlaaDoorProg.lean LOADS. Nothing in Lean hashes anything: it is a label: what it is worth is what the hold of that sum in a sandbox is worth. -/
noncomputable def Tryd.pinned : Pinned := { name := "ytboigcnpamldlaadoor", sum := "ce582602418a03a935a56a82f4f3b3dd546ff232242bd53cac4d579341cc2873", checked := Tryd.checked }
namespace Rows
def none {H : Type} : Left H := { results := [], args := [] }

/- WHAT THE LISTED PACKAGE-LEVEL VARIABLES READ AS WHEN THE CALL BEGINS. Each datum BY PROGRAM (the guide's laid-datum.mjs) off the statement by which the dump's own 'gosem.cut.vars' lays the variable. In a bare row this is a premise. The card (YtboigcnpamldlaaDoorCards.lean) ties it to the program's text. -/
def laid_gangway_crc_table {H : Type} : DataW H := .agg [.lit (.int .u32 0), .lit (.int .u32 498536548), .lit (.int .u32 997073096), .lit (.int .u32 651767980), .lit (.int .u32 1994146192), .lit (.int .u32 1802195444), .lit (.int .u32 1303535960), .lit (.int .u32 1342533948), .lit (.int .u32 3988292384), .lit (.int .u32 4027552580), .lit (.int .u32 3604390888), .lit (.int .u32 3412177804), .lit (.int .u32 2607071920), .lit (.int .u32 2262029012), .lit (.int .u32 2685067896), .lit (.int .u32 3183342108)]

/-- 'gangwaylaw08.FramePuts': WHATEVER THE INPUT: true; the input reads as it did. -/
def framePutsSpec : ChangeSpec := { name := "framePuts", fn := fun _ => fun
  | [d1, d2] => { results := [.lit (.bool true)], args := [d1, d2] }
  | _ => none }
def framePutsRow : OpenClaim := { program := "ytboigcnpamldlaadoor", sum := "ce582602418a03a935a56a82f4f3b3dd546ff232242bd53cac4d579341cc2873", func := "gangway/gangwaylaw08.FramePuts", spec := "framePuts", unfollowed := true, recurses := true, named := ["gangway/crc.table"], apart := false, laid := [("gangway/crc.table", laid_gangway_crc_table)] }
def FramePutsSaid : Prop := framePutsRow.holds Tryd.pinned (OpenSpec.ofChange framePutsSpec)

/-- ITS FALSE NEIGHBOUR: 'it returns false'. Refute it at one input. -/
def framePutsWrong : ChangeSpec := { name := "framePuts", fn := fun _ => fun
  | [d1, d2] => { results := [.lit (.bool false)], args := [d1, d2] }
  | _ => none }
def FramePutsWrongFalsely : Prop := framePutsRow.holds Tryd.pinned (OpenSpec.ofChange framePutsWrong)

/-- 'gangwaylaw08.FrameGets': WHATEVER THE INPUT: true; the input reads as it did. -/
def frameGetsSpec : ChangeSpec := { name := "frameGets", fn := fun _ => fun
  | [d] => { results := [.lit (.bool true)], args := [d] }
  | _ => none }
def frameGetsRow : OpenClaim := { program := "ytboigcnpamldlaadoor", sum := "ce582602418a03a935a56a82f4f3b3dd546ff232242bd53cac4d579341cc2873", func := "gangway/gangwaylaw08.FrameGets", spec := "frameGets", unfollowed := true, recurses := true, named := ["gangway/crc.table"], apart := false, laid := [("gangway/crc.table", laid_gangway_crc_table)] }
def FrameGetsSaid : Prop := frameGetsRow.holds Tryd.pinned (OpenSpec.ofChange frameGetsSpec)

/-- ITS FALSE NEIGHBOUR: 'it returns false'. Refute it at one input. -/
def frameGetsWrong : ChangeSpec := { name := "frameGets", fn := fun _ => fun
  | [d] => { results := [.lit (.bool false)], args := [d] }
  | _ => none }
def FrameGetsWrongFalsely : Prop := frameGetsRow.holds Tryd.pinned (OpenSpec.ofChange frameGetsWrong)

/-- 'gangwaylaw08.FrameScans': WHATEVER THE INPUT: true; the input reads as it did. -/
def frameScansSpec : ChangeSpec := { name := "frameScans", fn := fun _ => fun
  | [d1, d2, d3] => { results := [.lit (.bool true)], args := [d1, d2, d3] }
  | _ => none }
def frameScansRow : OpenClaim := { program := "ytboigcnpamldlaadoor", sum := "ce582602418a03a935a56a82f4f3b3dd546ff232242bd53cac4d579341cc2873", func := "gangway/gangwaylaw08.FrameScans", spec := "frameScans", unfollowed := true, recurses := true, named := ["gangway/crc.table"], apart := false, laid := [("gangway/crc.table", laid_gangway_crc_table)] }
def FrameScansSaid : Prop := frameScansRow.holds Tryd.pinned (OpenSpec.ofChange frameScansSpec)

/-- ITS FALSE NEIGHBOUR: 'it returns false'. Refute it at one input. -/
def frameScansWrong : ChangeSpec := { name := "frameScans", fn := fun _ => fun
  | [d1, d2, d3] => { results := [.lit (.bool false)], args := [d1, d2, d3] }
  | _ => none }
def FrameScansWrongFalsely : Prop := frameScansRow.holds Tryd.pinned (OpenSpec.ofChange frameScansWrong)

/-- 'gangwaylaw08.FrameBack': WHATEVER THE INPUT: true; the input reads as it did. -/
def frameBackSpec : ChangeSpec := { name := "frameBack", fn := fun _ => fun
  | [d1, d2, d3] => { results := [.lit (.bool true)], args := [d1, d2, d3] }
  | _ => none }
def frameBackRow : OpenClaim := { program := "ytboigcnpamldlaadoor", sum := "ce582602418a03a935a56a82f4f3b3dd546ff232242bd53cac4d579341cc2873", func := "gangway/gangwaylaw08.FrameBack", spec := "frameBack", unfollowed := true, recurses := true, named := ["gangway/crc.table"], apart := false, laid := [("gangway/crc.table", laid_gangway_crc_table)] }
def FrameBackSaid : Prop := frameBackRow.holds Tryd.pinned (OpenSpec.ofChange frameBackSpec)

/-- ITS FALSE NEIGHBOUR: 'it returns false'. Refute it at one input. -/
def frameBackWrong : ChangeSpec := { name := "frameBack", fn := fun _ => fun
  | [d1, d2, d3] => { results := [.lit (.bool false)], args := [d1, d2, d3] }
  | _ => none }
def FrameBackWrongFalsely : Prop := frameBackRow.holds Tryd.pinned (OpenSpec.ofChange frameBackWrong)

/-- 'gangwaylaw08.FrameAgain': WHATEVER THE INPUT: true; the input reads as it did. -/
def frameAgainSpec : ChangeSpec := { name := "frameAgain", fn := fun _ => fun
  | [d1, d2, d3] => { results := [.lit (.bool true)], args := [d1, d2, d3] }
  | _ => none }
def frameAgainRow : OpenClaim := { program := "ytboigcnpamldlaadoor", sum := "ce582602418a03a935a56a82f4f3b3dd546ff232242bd53cac4d579341cc2873", func := "gangway/gangwaylaw08.FrameAgain", spec := "frameAgain", unfollowed := true, recurses := true, named := ["gangway/crc.table"], apart := false, laid := [("gangway/crc.table", laid_gangway_crc_table)] }
def FrameAgainSaid : Prop := frameAgainRow.holds Tryd.pinned (OpenSpec.ofChange frameAgainSpec)

/-- ITS FALSE NEIGHBOUR: 'it returns false'. Refute it at one input. -/
def frameAgainWrong : ChangeSpec := { name := "frameAgain", fn := fun _ => fun
  | [d1, d2, d3] => { results := [.lit (.bool false)], args := [d1, d2, d3] }
  | _ => none }
def FrameAgainWrongFalsely : Prop := frameAgainRow.holds Tryd.pinned (OpenSpec.ofChange frameAgainWrong)

/-- 'gangwaylaw08.FrameSpoilt': WHATEVER THE INPUT: true; the input reads as it did. -/
def frameSpoiltSpec : ChangeSpec := { name := "frameSpoilt", fn := fun _ => fun
  | [d1, d2, d3] => { results := [.lit (.bool true)], args := [d1, d2, d3] }
  | _ => none }
def frameSpoiltRow : OpenClaim := { program := "ytboigcnpamldlaadoor", sum := "ce582602418a03a935a56a82f4f3b3dd546ff232242bd53cac4d579341cc2873", func := "gangway/gangwaylaw08.FrameSpoilt", spec := "frameSpoilt", unfollowed := true, recurses := true, named := ["gangway/crc.table"], apart := false, laid := [("gangway/crc.table", laid_gangway_crc_table)] }
def FrameSpoiltSaid : Prop := frameSpoiltRow.holds Tryd.pinned (OpenSpec.ofChange frameSpoiltSpec)

/-- ITS FALSE NEIGHBOUR: 'it returns false'. Refute it at one input. -/
def frameSpoiltWrong : ChangeSpec := { name := "frameSpoilt", fn := fun _ => fun
  | [d1, d2, d3] => { results := [.lit (.bool false)], args := [d1, d2, d3] }
  | _ => none }
def FrameSpoiltWrongFalsely : Prop := frameSpoiltRow.holds Tryd.pinned (OpenSpec.ofChange frameSpoiltWrong)

/-- 'gangwaylaw08.FrameKeeps': WHATEVER THE INPUT: true; the input reads as it did. -/
def frameKeepsSpec : ChangeSpec := { name := "frameKeeps", fn := fun _ => fun
  | [d1, d2, d3] => { results := [.lit (.bool true)], args := [d1, d2, d3] }
  | _ => none }
def frameKeepsRow : OpenClaim := { program := "ytboigcnpamldlaadoor", sum := "ce582602418a03a935a56a82f4f3b3dd546ff232242bd53cac4d579341cc2873", func := "gangway/gangwaylaw08.FrameKeeps", spec := "frameKeeps", unfollowed := true, recurses := true, named := ["gangway/crc.table"], apart := false, laid := [("gangway/crc.table", laid_gangway_crc_table)] }
def FrameKeepsSaid : Prop := frameKeepsRow.holds Tryd.pinned (OpenSpec.ofChange frameKeepsSpec)

/-- ITS FALSE NEIGHBOUR: 'it returns false'. Refute it at one input. -/
def frameKeepsWrong : ChangeSpec := { name := "frameKeeps", fn := fun _ => fun
  | [d1, d2, d3] => { results := [.lit (.bool false)], args := [d1, d2, d3] }
  | _ => none }
def FrameKeepsWrongFalsely : Prop := frameKeepsRow.holds Tryd.pinned (OpenSpec.ofChange frameKeepsWrong)

/- THE SECOND FORM. 'bulk': how many values and letters a reading holds, each counted each time it is reached (what is shared counts as often as it is met; a slice's spare places count too). A statement '..UptoSaid' is the law's where the arguments, and the package variables that the reading takes, are together of bulk at most 1048576: NARROWER than '..Said'. Prove '..Said' where nothing that the law and all that it calls make is longer than what came in: it says more and counts as full. Else prove '..UptoSaid'. A law counts once. -/
mutual
def uptoBulk {H : Type} : DataW H → Nat
  | .lit (.string bytes) => bytes.length + 1
  | .lit _ => 1
  | .nil => 1
  | .ptr d => uptoBulk d + 1
  | .slice elems spare => uptoBulkAll elems + uptoBulkAll spare + 1
  | .agg parts => uptoBulkAll parts + 1
  | .iface _ d => uptoBulk d + 1
  | .map entries => uptoBulkEntries entries + 1
  | .held _ => 1
def uptoBulkAll {H : Type} : List (DataW H) → Nat
  | [] => 0
  | d :: r => uptoBulk d + uptoBulkAll r
def uptoBulkEntries {H : Type} : List (Lit × DataW H) → Nat
  | [] => 0
  | x :: r => uptoBulkEntry x + uptoBulkEntries r
def uptoBulkEntry {H : Type} : Lit × DataW H → Nat
  | (.string bytes, d) => bytes.length + uptoBulk d + 1
  | (_, d) => uptoBulk d + 1
 end
def uptoSmall : (H : Type) → List (DataW H) → Bool := fun _ ds => decide (uptoBulkAll ds ≤ 1048576)
def OpenSpec.upto (s : _root_.Go.ChangeSpec) : _root_.Go.OpenSpec := { _root_.Go.OpenSpec.ofChange s with cond := some uptoSmall }

/-- 'gangwaylaw08.FramePuts', WHERE WHAT IT READS IS OF BULK AT MOST 1048576: true; the input reads as it did. -/
def framePutsUptoRow : OpenClaim := { program := "ytboigcnpamldlaadoor", sum := "ce582602418a03a935a56a82f4f3b3dd546ff232242bd53cac4d579341cc2873", func := "gangway/gangwaylaw08.FramePuts", spec := "framePuts", unfollowed := true, recurses := true, named := ["gangway/crc.table"], apart := false, laid := [("gangway/crc.table", laid_gangway_crc_table)], narrowed := true }
def FramePutsUptoSaid : Prop := framePutsUptoRow.holds Tryd.pinned (OpenSpec.upto framePutsSpec)

/-- 'gangwaylaw08.FrameGets', WHERE WHAT IT READS IS OF BULK AT MOST 1048576: true; the input reads as it did. -/
def frameGetsUptoRow : OpenClaim := { program := "ytboigcnpamldlaadoor", sum := "ce582602418a03a935a56a82f4f3b3dd546ff232242bd53cac4d579341cc2873", func := "gangway/gangwaylaw08.FrameGets", spec := "frameGets", unfollowed := true, recurses := true, named := ["gangway/crc.table"], apart := false, laid := [("gangway/crc.table", laid_gangway_crc_table)], narrowed := true }
def FrameGetsUptoSaid : Prop := frameGetsUptoRow.holds Tryd.pinned (OpenSpec.upto frameGetsSpec)

/-- 'gangwaylaw08.FrameScans', WHERE WHAT IT READS IS OF BULK AT MOST 1048576: true; the input reads as it did. -/
def frameScansUptoRow : OpenClaim := { program := "ytboigcnpamldlaadoor", sum := "ce582602418a03a935a56a82f4f3b3dd546ff232242bd53cac4d579341cc2873", func := "gangway/gangwaylaw08.FrameScans", spec := "frameScans", unfollowed := true, recurses := true, named := ["gangway/crc.table"], apart := false, laid := [("gangway/crc.table", laid_gangway_crc_table)], narrowed := true }
def FrameScansUptoSaid : Prop := frameScansUptoRow.holds Tryd.pinned (OpenSpec.upto frameScansSpec)

/-- 'gangwaylaw08.FrameBack', WHERE WHAT IT READS IS OF BULK AT MOST 1048576: true; the input reads as it did. -/
def frameBackUptoRow : OpenClaim := { program := "ytboigcnpamldlaadoor", sum := "ce582602418a03a935a56a82f4f3b3dd546ff232242bd53cac4d579341cc2873", func := "gangway/gangwaylaw08.FrameBack", spec := "frameBack", unfollowed := true, recurses := true, named := ["gangway/crc.table"], apart := false, laid := [("gangway/crc.table", laid_gangway_crc_table)], narrowed := true }
def FrameBackUptoSaid : Prop := frameBackUptoRow.holds Tryd.pinned (OpenSpec.upto frameBackSpec)

/-- 'gangwaylaw08.FrameAgain', WHERE WHAT IT READS IS OF BULK AT MOST 1048576: true; the input reads as it did. -/
def frameAgainUptoRow : OpenClaim := { program := "ytboigcnpamldlaadoor", sum := "ce582602418a03a935a56a82f4f3b3dd546ff232242bd53cac4d579341cc2873", func := "gangway/gangwaylaw08.FrameAgain", spec := "frameAgain", unfollowed := true, recurses := true, named := ["gangway/crc.table"], apart := false, laid := [("gangway/crc.table", laid_gangway_crc_table)], narrowed := true }
def FrameAgainUptoSaid : Prop := frameAgainUptoRow.holds Tryd.pinned (OpenSpec.upto frameAgainSpec)

/-- 'gangwaylaw08.FrameSpoilt', WHERE WHAT IT READS IS OF BULK AT MOST 1048576: true; the input reads as it did. -/
def frameSpoiltUptoRow : OpenClaim := { program := "ytboigcnpamldlaadoor", sum := "ce582602418a03a935a56a82f4f3b3dd546ff232242bd53cac4d579341cc2873", func := "gangway/gangwaylaw08.FrameSpoilt", spec := "frameSpoilt", unfollowed := true, recurses := true, named := ["gangway/crc.table"], apart := false, laid := [("gangway/crc.table", laid_gangway_crc_table)], narrowed := true }
def FrameSpoiltUptoSaid : Prop := frameSpoiltUptoRow.holds Tryd.pinned (OpenSpec.upto frameSpoiltSpec)

/-- 'gangwaylaw08.FrameKeeps', WHERE WHAT IT READS IS OF BULK AT MOST 1048576: true; the input reads as it did. -/
def frameKeepsUptoRow : OpenClaim := { program := "ytboigcnpamldlaadoor", sum := "ce582602418a03a935a56a82f4f3b3dd546ff232242bd53cac4d579341cc2873", func := "gangway/gangwaylaw08.FrameKeeps", spec := "frameKeeps", unfollowed := true, recurses := true, named := ["gangway/crc.table"], apart := false, laid := [("gangway/crc.table", laid_gangway_crc_table)], narrowed := true }
def FrameKeepsUptoSaid : Prop := frameKeepsUptoRow.holds Tryd.pinned (OpenSpec.upto frameKeepsSpec)

end Rows
end Go.Proofs.YtboigcnpamldlaaDoor
