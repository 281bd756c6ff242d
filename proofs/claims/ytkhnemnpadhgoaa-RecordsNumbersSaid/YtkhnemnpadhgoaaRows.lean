/-
  No cell of these rows narrows 'for every input' (looked for: loops, veiled, ifaces, maps, wideKeys, modest, calm, conditions, laid).
  DERIVED. THE GIVEN ROWS OF THIS SEAT. 6 by the template 'for every input the law returns true; each argument reads behind the call as it read before'; 0 by the template 'total and deterministic' (their statements: YtkhnemnpadhgoaaTotals.lean).
  GIVEN WITH THE SEED: the statements are not yours to turn. If you find one false, say at which input.
  Laid BY PROGRAM, IN A SANDBOX (cutbox-rows.mjs): the forced cells as the released guide's own fill.sh prints them over the translation ccd3c640d00cb0e2… (all of the seat's roots in one cut). By AI agents, Wed Nov 11 2026. No macro, syntax, notation, axiom, sorry.
-/
import Derived.Test.YtkhnemnpadhgoaaChecked
import GoSem.Claim
import GoSem.ClaimJoined
import GoSem.ClaimMapViews
import Derived.JoinedTies
import Derived.KernelRfl
namespace Go.Proofs.Ytkhnemnpadhgoaa
/- THE CELL 'sum', in the pinned program and in every row, IS THE sha256 OF THE DUMP (.gsa) THAT YtkhnemnpadhgoaaProg.lean LOADS. Nothing in Lean hashes anything: it is a label: what it is worth is what the hold of that sum in a sandbox is worth. -/
noncomputable def Try.pinned : Pinned := { name := "ytkhnemnpadhgoaa", sum := "ccd3c640d00cb0e28a87108cd925df9e0a59c0c22449ce96a37440c19b1b630f", checked := Try.checked }
namespace Rows
def none {H : Type} : Left H := { results := [], args := [] }

/-- 'gangwaylaw16.RecordsNumbers': WHATEVER THE INPUT: true; the input reads as it did. -/
def recordsNumbersSpec : ChangeSpec := { name := "recordsNumbers", fn := fun _ => fun
  | [] => { results := [.lit (.bool true)], args := [] }
  | _ => none }
def recordsNumbersRow : OpenClaim := { program := "ytkhnemnpadhgoaa", sum := "ccd3c640d00cb0e28a87108cd925df9e0a59c0c22449ce96a37440c19b1b630f", func := "gangway/gangwaylaw16.RecordsNumbers", spec := "recordsNumbers", apart := false }
def RecordsNumbersSaid : Prop := recordsNumbersRow.holds Try.pinned (OpenSpec.ofChange recordsNumbersSpec)

/-- ITS FALSE NEIGHBOUR: 'it returns false'. Refute it at one input. -/
def recordsNumbersWrong : ChangeSpec := { name := "recordsNumbers", fn := fun _ => fun
  | [] => { results := [.lit (.bool false)], args := [] }
  | _ => none }
def RecordsNumbersWrongFalsely : Prop := recordsNumbersRow.holds Try.pinned (OpenSpec.ofChange recordsNumbersWrong)

/-- 'gangwaylaw16.RecordsReads': WHATEVER THE INPUT: true; the input reads as it did. -/
def recordsReadsSpec : ChangeSpec := { name := "recordsReads", fn := fun _ => fun
  | [d] => { results := [.lit (.bool true)], args := [d] }
  | _ => none }
def recordsReadsRow : OpenClaim := { program := "ytkhnemnpadhgoaa", sum := "ccd3c640d00cb0e28a87108cd925df9e0a59c0c22449ce96a37440c19b1b630f", func := "gangway/gangwaylaw16.RecordsReads", spec := "recordsReads", apart := false }
def RecordsReadsSaid : Prop := recordsReadsRow.holds Try.pinned (OpenSpec.ofChange recordsReadsSpec)

/-- ITS FALSE NEIGHBOUR: 'it returns false'. Refute it at one input. -/
def recordsReadsWrong : ChangeSpec := { name := "recordsReads", fn := fun _ => fun
  | [d] => { results := [.lit (.bool false)], args := [d] }
  | _ => none }
def RecordsReadsWrongFalsely : Prop := recordsReadsRow.holds Try.pinned (OpenSpec.ofChange recordsReadsWrong)

/-- 'gangwaylaw16.RecordsSpares': WHATEVER THE INPUT: true; the input reads as it did. -/
def recordsSparesSpec : ChangeSpec := { name := "recordsSpares", fn := fun _ => fun
  | [d1, d2] => { results := [.lit (.bool true)], args := [d1, d2] }
  | _ => none }
def recordsSparesRow : OpenClaim := { program := "ytkhnemnpadhgoaa", sum := "ccd3c640d00cb0e28a87108cd925df9e0a59c0c22449ce96a37440c19b1b630f", func := "gangway/gangwaylaw16.RecordsSpares", spec := "recordsSpares", apart := false }
def RecordsSparesSaid : Prop := recordsSparesRow.holds Try.pinned (OpenSpec.ofChange recordsSparesSpec)

/-- ITS FALSE NEIGHBOUR: 'it returns false'. Refute it at one input. -/
def recordsSparesWrong : ChangeSpec := { name := "recordsSpares", fn := fun _ => fun
  | [d1, d2] => { results := [.lit (.bool false)], args := [d1, d2] }
  | _ => none }
def RecordsSparesWrongFalsely : Prop := recordsSparesRow.holds Try.pinned (OpenSpec.ofChange recordsSparesWrong)

/-- 'gangwaylaw16.RecordsChecks': WHATEVER THE INPUT: true; the input reads as it did. -/
def recordsChecksSpec : ChangeSpec := { name := "recordsChecks", fn := fun _ => fun
  | [d] => { results := [.lit (.bool true)], args := [d] }
  | _ => none }
def recordsChecksRow : OpenClaim := { program := "ytkhnemnpadhgoaa", sum := "ccd3c640d00cb0e28a87108cd925df9e0a59c0c22449ce96a37440c19b1b630f", func := "gangway/gangwaylaw16.RecordsChecks", spec := "recordsChecks", apart := false }
def RecordsChecksSaid : Prop := recordsChecksRow.holds Try.pinned (OpenSpec.ofChange recordsChecksSpec)

/-- ITS FALSE NEIGHBOUR: 'it returns false'. Refute it at one input. -/
def recordsChecksWrong : ChangeSpec := { name := "recordsChecks", fn := fun _ => fun
  | [d] => { results := [.lit (.bool false)], args := [d] }
  | _ => none }
def RecordsChecksWrongFalsely : Prop := recordsChecksRow.holds Try.pinned (OpenSpec.ofChange recordsChecksWrong)

/-- 'gangwaylaw16.RecordsBack': WHATEVER THE INPUT: true; the input reads as it did. -/
def recordsBackSpec : ChangeSpec := { name := "recordsBack", fn := fun _ => fun
  | [d1, d2, d3] => { results := [.lit (.bool true)], args := [d1, d2, d3] }
  | _ => none }
def recordsBackRow : OpenClaim := { program := "ytkhnemnpadhgoaa", sum := "ccd3c640d00cb0e28a87108cd925df9e0a59c0c22449ce96a37440c19b1b630f", func := "gangway/gangwaylaw16.RecordsBack", spec := "recordsBack", apart := false }
def RecordsBackSaid : Prop := recordsBackRow.holds Try.pinned (OpenSpec.ofChange recordsBackSpec)

/-- ITS FALSE NEIGHBOUR: 'it returns false'. Refute it at one input. -/
def recordsBackWrong : ChangeSpec := { name := "recordsBack", fn := fun _ => fun
  | [d1, d2, d3] => { results := [.lit (.bool false)], args := [d1, d2, d3] }
  | _ => none }
def RecordsBackWrongFalsely : Prop := recordsBackRow.holds Try.pinned (OpenSpec.ofChange recordsBackWrong)

/-- 'gangwaylaw16.RecordsOrder': WHATEVER THE INPUT: true; the input reads as it did. -/
def recordsOrderSpec : ChangeSpec := { name := "recordsOrder", fn := fun _ => fun
  | [d1, d2] => { results := [.lit (.bool true)], args := [d1, d2] }
  | _ => none }
def recordsOrderRow : OpenClaim := { program := "ytkhnemnpadhgoaa", sum := "ccd3c640d00cb0e28a87108cd925df9e0a59c0c22449ce96a37440c19b1b630f", func := "gangway/gangwaylaw16.RecordsOrder", spec := "recordsOrder", apart := false }
def RecordsOrderSaid : Prop := recordsOrderRow.holds Try.pinned (OpenSpec.ofChange recordsOrderSpec)

/-- ITS FALSE NEIGHBOUR: 'it returns false'. Refute it at one input. -/
def recordsOrderWrong : ChangeSpec := { name := "recordsOrder", fn := fun _ => fun
  | [d1, d2] => { results := [.lit (.bool false)], args := [d1, d2] }
  | _ => none }
def RecordsOrderWrongFalsely : Prop := recordsOrderRow.holds Try.pinned (OpenSpec.ofChange recordsOrderWrong)

/- THE SECOND FORM. 'bulk': how many values and letters a reading holds, each counted each time it is reached (what is shared counts as often as it is met; a slice's spare places count too). A statement '..UptoSaid' is the law's where the arguments, and the package variables that the reading takes, are together of bulk at most 1048576: NARROWER than '..Said'. Prove '..Said' where nothing that the law and all that it calls make is longer than what came in: it says more and counts as full. Else prove '..UptoSaid'. A law counts once. -/
mutual
def uptoBulk {H : Type} : DataW H → Nat
  | .lit (.string bytes) => bytes.length + 1
  | .lit _ => 1
  | .nil => 1
  | .ptr d => uptoBulk d + 1
  | .slice elems spare => uptoBulkAll elems + uptoBulkAll spare + 1
  | .agg parts => uptoBulkAll parts + 1
  | .iface _ d => uptoBulk d + 1
  | .map entries => uptoBulkEntries entries + 1
  | .held _ => 1
def uptoBulkAll {H : Type} : List (DataW H) → Nat
  | [] => 0
  | d :: r => uptoBulk d + uptoBulkAll r
def uptoBulkEntries {H : Type} : List (Lit × DataW H) → Nat
  | [] => 0
  | x :: r => uptoBulkEntry x + uptoBulkEntries r
def uptoBulkEntry {H : Type} : Lit × DataW H → Nat
  | (.string bytes, d) => bytes.length + uptoBulk d + 1
  | (_, d) => uptoBulk d + 1
 end
def uptoSmall : (H : Type) → List (DataW H) → Bool := fun _ ds => decide (uptoBulkAll ds ≤ 1048576)
def OpenSpec.upto (s : _root_.Go.ChangeSpec) : _root_.Go.OpenSpec := { _root_.Go.OpenSpec.ofChange s with cond := some uptoSmall }

/-- 'gangwaylaw16.RecordsNumbers', WHERE WHAT IT READS IS OF BULK AT MOST 1048576: true; the input reads as it did. -/
def recordsNumbersUptoRow : OpenClaim := { program := "ytkhnemnpadhgoaa", sum := "ccd3c640d00cb0e28a87108cd925df9e0a59c0c22449ce96a37440c19b1b630f", func := "gangway/gangwaylaw16.RecordsNumbers", spec := "recordsNumbers", apart := false, narrowed := true }
def RecordsNumbersUptoSaid : Prop := recordsNumbersUptoRow.holds Try.pinned (OpenSpec.upto recordsNumbersSpec)

/-- 'gangwaylaw16.RecordsReads', WHERE WHAT IT READS IS OF BULK AT MOST 1048576: true; the input reads as it did. -/
def recordsReadsUptoRow : OpenClaim := { program := "ytkhnemnpadhgoaa", sum := "ccd3c640d00cb0e28a87108cd925df9e0a59c0c22449ce96a37440c19b1b630f", func := "gangway/gangwaylaw16.RecordsReads", spec := "recordsReads", apart := false, narrowed := true }
def RecordsReadsUptoSaid : Prop := recordsReadsUptoRow.holds Try.pinned (OpenSpec.upto recordsReadsSpec)

/-- 'gangwaylaw16.RecordsSpares', WHERE WHAT IT READS IS OF BULK AT MOST 1048576: true; the input reads as it did. -/
def recordsSparesUptoRow : OpenClaim := { program := "ytkhnemnpadhgoaa", sum := "ccd3c640d00cb0e28a87108cd925df9e0a59c0c22449ce96a37440c19b1b630f", func := "gangway/gangwaylaw16.RecordsSpares", spec := "recordsSpares", apart := false, narrowed := true }
def RecordsSparesUptoSaid : Prop := recordsSparesUptoRow.holds Try.pinned (OpenSpec.upto recordsSparesSpec)

/-- 'gangwaylaw16.RecordsChecks', WHERE WHAT IT READS IS OF BULK AT MOST 1048576: true; the input reads as it did. -/
def recordsChecksUptoRow : OpenClaim := { program := "ytkhnemnpadhgoaa", sum := "ccd3c640d00cb0e28a87108cd925df9e0a59c0c22449ce96a37440c19b1b630f", func := "gangway/gangwaylaw16.RecordsChecks", spec := "recordsChecks", apart := false, narrowed := true }
def RecordsChecksUptoSaid : Prop := recordsChecksUptoRow.holds Try.pinned (OpenSpec.upto recordsChecksSpec)

/-- 'gangwaylaw16.RecordsBack', WHERE WHAT IT READS IS OF BULK AT MOST 1048576: true; the input reads as it did. -/
def recordsBackUptoRow : OpenClaim := { program := "ytkhnemnpadhgoaa", sum := "ccd3c640d00cb0e28a87108cd925df9e0a59c0c22449ce96a37440c19b1b630f", func := "gangway/gangwaylaw16.RecordsBack", spec := "recordsBack", apart := false, narrowed := true }
def RecordsBackUptoSaid : Prop := recordsBackUptoRow.holds Try.pinned (OpenSpec.upto recordsBackSpec)

/-- 'gangwaylaw16.RecordsOrder', WHERE WHAT IT READS IS OF BULK AT MOST 1048576: true; the input reads as it did. -/
def recordsOrderUptoRow : OpenClaim := { program := "ytkhnemnpadhgoaa", sum := "ccd3c640d00cb0e28a87108cd925df9e0a59c0c22449ce96a37440c19b1b630f", func := "gangway/gangwaylaw16.RecordsOrder", spec := "recordsOrder", apart := false, narrowed := true }
def RecordsOrderUptoSaid : Prop := recordsOrderUptoRow.holds Try.pinned (OpenSpec.upto recordsOrderSpec)

end Rows
end Go.Proofs.Ytkhnemnpadhgoaa
