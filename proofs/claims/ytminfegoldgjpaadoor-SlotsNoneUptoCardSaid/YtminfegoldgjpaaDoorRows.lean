/-
  NARROWER THAN 'FOR EVERY INPUT', by the rows' own cells (each row's printed sentence says how): SlotsHeaders: laid · SlotsNone: laid · SlotsBack: laid · SlotsTurns: laid.
  DERIVED. THE GIVEN ROWS OF THIS SEAT. 4 by the template 'for every input the law returns true; each argument reads behind the call as it read before'; 0 by the template 'total and deterministic' (their statements: YtminfegoldgjpaaDoorTotals.lean).
  GIVEN WITH THE SEED: the statements are not yours to turn. If you find one false, say at which input.
  Laid BY PROGRAM, IN A SANDBOX (cutbox-rows.mjs): the forced cells as the released guide's own fill.sh prints them over the translation f6aea5802da9557b… (all of the seat's roots in one cut). By AI agents, Wed Nov 11 2026. No macro, syntax, notation, axiom, sorry.
-/
import Derived.Test.YtminfegoldgjpaaDoorChecked
import GoSem.Claim
import GoSem.ClaimJoined
import GoSem.ClaimMapViews
import Derived.JoinedTies
import Derived.KernelRfl
namespace Go.Proofs.YtminfegoldgjpaaDoor
/- THE CELL 'sum', in the pinned program and in every row, IS THE sha256 OF THE DUMP (.gsa) THAT YtminfegoldgjpaaDoorProg.lean LOADS. Nothing in Lean hashes anything: it is a label: what it is worth is what the hold of that sum in a sandbox is worth. -/
noncomputable def Tryd.pinned : Pinned := { name := "ytminfegoldgjpaadoor", sum := "f6aea5802da9557b625e8206b1d34ba5b90589fd8c6b1fb6bf9c25ae51833fef", checked := Tryd.checked }
namespace Rows
def none {H : Type} : Left H := { results := [], args := [] }

/- WHAT THE LISTED PACKAGE-LEVEL VARIABLES READ AS WHEN THE CALL BEGINS. Each datum BY PROGRAM (the guide's laid-datum.mjs) off the statement by which the dump's own 'gosem.cut.vars' lays the variable. In a bare row this is a premise. The card (YtminfegoldgjpaaDoorCards.lean) ties it to the program's text. -/
def laid_gangway_crc_table {H : Type} : DataW H := .agg [.lit (.int .u32 0), .lit (.int .u32 498536548), .lit (.int .u32 997073096), .lit (.int .u32 651767980), .lit (.int .u32 1994146192), .lit (.int .u32 1802195444), .lit (.int .u32 1303535960), .lit (.int .u32 1342533948), .lit (.int .u32 3988292384), .lit (.int .u32 4027552580), .lit (.int .u32 3604390888), .lit (.int .u32 3412177804), .lit (.int .u32 2607071920), .lit (.int .u32 2262029012), .lit (.int .u32 2685067896), .lit (.int .u32 3183342108)]

/-- 'gangwaylaw11.SlotsHeaders': WHATEVER THE INPUT: true; the input reads as it did. -/
def slotsHeadersSpec : ChangeSpec := { name := "slotsHeaders", fn := fun _ => fun
  | [d1, d2] => { results := [.lit (.bool true)], args := [d1, d2] }
  | _ => none }
def slotsHeadersRow : OpenClaim := { program := "ytminfegoldgjpaadoor", sum := "f6aea5802da9557b625e8206b1d34ba5b90589fd8c6b1fb6bf9c25ae51833fef", func := "gangway/gangwaylaw11.SlotsHeaders", spec := "slotsHeaders", unfollowed := true, recurses := true, named := ["gangway/crc.table"], apart := false, laid := [("gangway/crc.table", laid_gangway_crc_table)] }
def SlotsHeadersSaid : Prop := slotsHeadersRow.holds Tryd.pinned (OpenSpec.ofChange slotsHeadersSpec)

/-- ITS FALSE NEIGHBOUR: 'it returns false'. Refute it at one input. -/
def slotsHeadersWrong : ChangeSpec := { name := "slotsHeaders", fn := fun _ => fun
  | [d1, d2] => { results := [.lit (.bool false)], args := [d1, d2] }
  | _ => none }
def SlotsHeadersWrongFalsely : Prop := slotsHeadersRow.holds Tryd.pinned (OpenSpec.ofChange slotsHeadersWrong)

/-- 'gangwaylaw11.SlotsNone': WHATEVER THE INPUT: true; the input reads as it did. -/
def slotsNoneSpec : ChangeSpec := { name := "slotsNone", fn := fun _ => fun
  | [d1, d2] => { results := [.lit (.bool true)], args := [d1, d2] }
  | _ => none }
def slotsNoneRow : OpenClaim := { program := "ytminfegoldgjpaadoor", sum := "f6aea5802da9557b625e8206b1d34ba5b90589fd8c6b1fb6bf9c25ae51833fef", func := "gangway/gangwaylaw11.SlotsNone", spec := "slotsNone", unfollowed := true, recurses := true, named := ["gangway/crc.table"], apart := false, laid := [("gangway/crc.table", laid_gangway_crc_table)] }
def SlotsNoneSaid : Prop := slotsNoneRow.holds Tryd.pinned (OpenSpec.ofChange slotsNoneSpec)

/-- ITS FALSE NEIGHBOUR: 'it returns false'. Refute it at one input. -/
def slotsNoneWrong : ChangeSpec := { name := "slotsNone", fn := fun _ => fun
  | [d1, d2] => { results := [.lit (.bool false)], args := [d1, d2] }
  | _ => none }
def SlotsNoneWrongFalsely : Prop := slotsNoneRow.holds Tryd.pinned (OpenSpec.ofChange slotsNoneWrong)

/-- 'gangwaylaw11.SlotsBack': WHATEVER THE INPUT: true; the input reads as it did. -/
def slotsBackSpec : ChangeSpec := { name := "slotsBack", fn := fun _ => fun
  | [d1, d2, d3] => { results := [.lit (.bool true)], args := [d1, d2, d3] }
  | _ => none }
def slotsBackRow : OpenClaim := { program := "ytminfegoldgjpaadoor", sum := "f6aea5802da9557b625e8206b1d34ba5b90589fd8c6b1fb6bf9c25ae51833fef", func := "gangway/gangwaylaw11.SlotsBack", spec := "slotsBack", unfollowed := true, recurses := true, named := ["gangway/crc.table"], apart := false, laid := [("gangway/crc.table", laid_gangway_crc_table)] }
def SlotsBackSaid : Prop := slotsBackRow.holds Tryd.pinned (OpenSpec.ofChange slotsBackSpec)

/-- ITS FALSE NEIGHBOUR: 'it returns false'. Refute it at one input. -/
def slotsBackWrong : ChangeSpec := { name := "slotsBack", fn := fun _ => fun
  | [d1, d2, d3] => { results := [.lit (.bool false)], args := [d1, d2, d3] }
  | _ => none }
def SlotsBackWrongFalsely : Prop := slotsBackRow.holds Tryd.pinned (OpenSpec.ofChange slotsBackWrong)

/-- 'gangwaylaw11.SlotsTurns': WHATEVER THE INPUT: true; the input reads as it did. -/
def slotsTurnsSpec : ChangeSpec := { name := "slotsTurns", fn := fun _ => fun
  | [d1, d2, d3] => { results := [.lit (.bool true)], args := [d1, d2, d3] }
  | _ => none }
def slotsTurnsRow : OpenClaim := { program := "ytminfegoldgjpaadoor", sum := "f6aea5802da9557b625e8206b1d34ba5b90589fd8c6b1fb6bf9c25ae51833fef", func := "gangway/gangwaylaw11.SlotsTurns", spec := "slotsTurns", unfollowed := true, recurses := true, named := ["gangway/crc.table"], apart := false, laid := [("gangway/crc.table", laid_gangway_crc_table)] }
def SlotsTurnsSaid : Prop := slotsTurnsRow.holds Tryd.pinned (OpenSpec.ofChange slotsTurnsSpec)

/-- ITS FALSE NEIGHBOUR: 'it returns false'. Refute it at one input. -/
def slotsTurnsWrong : ChangeSpec := { name := "slotsTurns", fn := fun _ => fun
  | [d1, d2, d3] => { results := [.lit (.bool false)], args := [d1, d2, d3] }
  | _ => none }
def SlotsTurnsWrongFalsely : Prop := slotsTurnsRow.holds Tryd.pinned (OpenSpec.ofChange slotsTurnsWrong)

/- THE SECOND FORM. 'bulk': how many values and letters a reading holds, each counted each time it is reached (what is shared counts as often as it is met; a slice's spare places count too). A statement '..UptoSaid' is the law's where the arguments, and the package variables that the reading takes, are together of bulk at most 1048576: NARROWER than '..Said'. Prove '..Said' where nothing that the law and all that it calls make is longer than what came in: it says more and counts as full. Else prove '..UptoSaid'. A law counts once. -/
mutual
def uptoBulk {H : Type} : DataW H → Nat
  | .lit (.string bytes) => bytes.length + 1
  | .lit _ => 1
  | .nil => 1
  | .ptr d => uptoBulk d + 1
  | .slice elems spare => uptoBulkAll elems + uptoBulkAll spare + 1
  | .agg parts => uptoBulkAll parts + 1
  | .iface _ d => uptoBulk d + 1
  | .map entries => uptoBulkEntries entries + 1
  | .held _ => 1
def uptoBulkAll {H : Type} : List (DataW H) → Nat
  | [] => 0
  | d :: r => uptoBulk d + uptoBulkAll r
def uptoBulkEntries {H : Type} : List (Lit × DataW H) → Nat
  | [] => 0
  | x :: r => uptoBulkEntry x + uptoBulkEntries r
def uptoBulkEntry {H : Type} : Lit × DataW H → Nat
  | (.string bytes, d) => bytes.length + uptoBulk d + 1
  | (_, d) => uptoBulk d + 1
 end
def uptoSmall : (H : Type) → List (DataW H) → Bool := fun _ ds => decide (uptoBulkAll ds ≤ 1048576)
def OpenSpec.upto (s : _root_.Go.ChangeSpec) : _root_.Go.OpenSpec := { _root_.Go.OpenSpec.ofChange s with cond := some uptoSmall }

/-- 'gangwaylaw11.SlotsHeaders', WHERE WHAT IT READS IS OF BULK AT MOST 1048576: true; the input reads as it did. -/
def slotsHeadersUptoRow : OpenClaim := { program := "ytminfegoldgjpaadoor", sum := "f6aea5802da9557b625e8206b1d34ba5b90589fd8c6b1fb6bf9c25ae51833fef", func := "gangway/gangwaylaw11.SlotsHeaders", spec := "slotsHeaders", unfollowed := true, recurses := true, named := ["gangway/crc.table"], apart := false, laid := [("gangway/crc.table", laid_gangway_crc_table)], narrowed := true }
def SlotsHeadersUptoSaid : Prop := slotsHeadersUptoRow.holds Tryd.pinned (OpenSpec.upto slotsHeadersSpec)

/-- 'gangwaylaw11.SlotsNone', WHERE WHAT IT READS IS OF BULK AT MOST 1048576: true; the input reads as it did. -/
def slotsNoneUptoRow : OpenClaim := { program := "ytminfegoldgjpaadoor", sum := "f6aea5802da9557b625e8206b1d34ba5b90589fd8c6b1fb6bf9c25ae51833fef", func := "gangway/gangwaylaw11.SlotsNone", spec := "slotsNone", unfollowed := true, recurses := true, named := ["gangway/crc.table"], apart := false, laid := [("gangway/crc.table", laid_gangway_crc_table)], narrowed := true }
def SlotsNoneUptoSaid : Prop := slotsNoneUptoRow.holds Tryd.pinned (OpenSpec.upto slotsNoneSpec)

/-- 'gangwaylaw11.SlotsBack', WHERE WHAT IT READS IS OF BULK AT MOST 1048576: true; the input reads as it did. -/
def slotsBackUptoRow : OpenClaim := { program := "ytminfegoldgjpaadoor", sum := "f6aea5802da9557b625e8206b1d34ba5b90589fd8c6b1fb6bf9c25ae51833fef", func := "gangway/gangwaylaw11.SlotsBack", spec := "slotsBack", unfollowed := true, recurses := true, named := ["gangway/crc.table"], apart := false, laid := [("gangway/crc.table", laid_gangway_crc_table)], narrowed := true }
def SlotsBackUptoSaid : Prop := slotsBackUptoRow.holds Tryd.pinned (OpenSpec.upto slotsBackSpec)

/-- 'gangwaylaw11.SlotsTurns', WHERE WHAT IT READS IS OF BULK AT MOST 1048576: true; the input reads as it did. -/
def slotsTurnsUptoRow : OpenClaim := { program := "ytminfegoldgjpaadoor", sum := "f6aea5802da9557b625e8206b1d34ba5b90589fd8c6b1fb6bf9c25ae51833fef", func := "gangway/gangwaylaw11.SlotsTurns", spec := "slotsTurns", unfollowed := true, recurses := true, named := ["gangway/crc.table"], apart := false, laid := [("gangway/crc.table", laid_gangway_crc_table)], narrowed := true }
def SlotsTurnsUptoSaid : Prop := slotsTurnsUptoRow.holds Tryd.pinned (OpenSpec.upto slotsTurnsSpec)

end Rows
end Go.Proofs.YtminfegoldgjpaaDoor
