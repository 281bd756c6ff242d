/-
  NARROWER THAN 'FOR EVERY INPUT', by the rows' own cells (each row's printed sentence says how): RepliesPuts: laid · RepliesGets: laid · RepliesNumbers: laid · RepliesBack: laid · RepliesBegin: laid.
  DERIVED. THE GIVEN ROWS OF THIS SEAT. 5 by the template 'for every input the law returns true; each argument reads behind the call as it read before'; 0 by the template 'total and deterministic' (their statements: YtfcoaiggpcjldaaDoorTotals.lean).
  GIVEN WITH THE SEED: the statements are not yours to turn. If you find one false, say at which input.
  Laid BY PROGRAM, IN A SANDBOX (cutbox-rows.mjs): the forced cells as the released guide's own fill.sh prints them over the translation 19d7f29c586fd668… (all of the seat's roots in one cut). By AI agents, Wed Nov 11 2026. No macro, syntax, notation, axiom, sorry.
-/
import Derived.Test.YtfcoaiggpcjldaaDoorChecked
import GoSem.Claim
import GoSem.ClaimJoined
import GoSem.ClaimMapViews
import Derived.JoinedTies
import Derived.KernelRfl
namespace Go.Proofs.YtfcoaiggpcjldaaDoor
/- THE CELL 'sum', in the pinned program and in every row, IS THE sha256 OF THE DUMP (.gsa) THAT YtfcoaiggpcjldaaDoorProg.lean LOADS. Nothing in Lean hashes anything: it is a label: what it is worth is what the hold of that sum in a sandbox is worth. -/
noncomputable def Tryd.pinned : Pinned := { name := "ytfcoaiggpcjldaadoor", sum := "19d7f29c586fd6684a05cde8c941952cfa7a6716a1caa0f035313d124f69bb2f", checked := Tryd.checked }
namespace Rows
def none {H : Type} : Left H := { results := [], args := [] }

/- WHAT THE LISTED PACKAGE-LEVEL VARIABLES READ AS WHEN THE CALL BEGINS. Each datum BY PROGRAM (the guide's laid-datum.mjs) off the statement by which the dump's own 'gosem.cut.vars' lays the variable. In a bare row this is a premise. The card (YtfcoaiggpcjldaaDoorCards.lean) ties it to the program's text. -/
def laid_gangway_replies_fields {H : Type} : DataW H := .agg [.lit (.int .i64 0), .lit (.int .i64 5), .lit (.int .i64 0), .lit (.int .i64 0), .lit (.int .i64 2), .lit (.int .i64 6), .lit (.int .i64 5), .lit (.int .i64 4), .lit (.int .i64 8), .lit (.int .i64 8), .lit (.int .i64 8)]

/-- 'gangwaylaw21.RepliesPuts': WHATEVER THE INPUT: true; the input reads as it did. -/
def repliesPutsSpec : ChangeSpec := { name := "repliesPuts", fn := fun _ => fun
  | [d] => { results := [.lit (.bool true)], args := [d] }
  | _ => none }
def repliesPutsRow : OpenClaim := { program := "ytfcoaiggpcjldaadoor", sum := "19d7f29c586fd6684a05cde8c941952cfa7a6716a1caa0f035313d124f69bb2f", func := "gangway/gangwaylaw21.RepliesPuts", spec := "repliesPuts", unfollowed := true, recurses := true, named := ["gangway/replies.fields"], apart := false, laid := [("gangway/replies.fields", laid_gangway_replies_fields)] }
def RepliesPutsSaid : Prop := repliesPutsRow.holds Tryd.pinned (OpenSpec.ofChange repliesPutsSpec)

/-- ITS FALSE NEIGHBOUR: 'it returns false'. Refute it at one input. -/
def repliesPutsWrong : ChangeSpec := { name := "repliesPuts", fn := fun _ => fun
  | [d] => { results := [.lit (.bool false)], args := [d] }
  | _ => none }
def RepliesPutsWrongFalsely : Prop := repliesPutsRow.holds Tryd.pinned (OpenSpec.ofChange repliesPutsWrong)

/-- 'gangwaylaw21.RepliesGets': WHATEVER THE INPUT: true; the input reads as it did. -/
def repliesGetsSpec : ChangeSpec := { name := "repliesGets", fn := fun _ => fun
  | [d1, d2] => { results := [.lit (.bool true)], args := [d1, d2] }
  | _ => none }
def repliesGetsRow : OpenClaim := { program := "ytfcoaiggpcjldaadoor", sum := "19d7f29c586fd6684a05cde8c941952cfa7a6716a1caa0f035313d124f69bb2f", func := "gangway/gangwaylaw21.RepliesGets", spec := "repliesGets", unfollowed := true, recurses := true, named := ["gangway/replies.fields"], apart := false, laid := [("gangway/replies.fields", laid_gangway_replies_fields)] }
def RepliesGetsSaid : Prop := repliesGetsRow.holds Tryd.pinned (OpenSpec.ofChange repliesGetsSpec)

/-- ITS FALSE NEIGHBOUR: 'it returns false'. Refute it at one input. -/
def repliesGetsWrong : ChangeSpec := { name := "repliesGets", fn := fun _ => fun
  | [d1, d2] => { results := [.lit (.bool false)], args := [d1, d2] }
  | _ => none }
def RepliesGetsWrongFalsely : Prop := repliesGetsRow.holds Tryd.pinned (OpenSpec.ofChange repliesGetsWrong)

/-- 'gangwaylaw21.RepliesNumbers': WHATEVER THE INPUT: true; the input reads as it did. -/
def repliesNumbersSpec : ChangeSpec := { name := "repliesNumbers", fn := fun _ => fun
  | [] => { results := [.lit (.bool true)], args := [] }
  | _ => none }
def repliesNumbersRow : OpenClaim := { program := "ytfcoaiggpcjldaadoor", sum := "19d7f29c586fd6684a05cde8c941952cfa7a6716a1caa0f035313d124f69bb2f", func := "gangway/gangwaylaw21.RepliesNumbers", spec := "repliesNumbers", unfollowed := true, recurses := true, named := ["gangway/replies.fields"], apart := false, laid := [("gangway/replies.fields", laid_gangway_replies_fields)] }
def RepliesNumbersSaid : Prop := repliesNumbersRow.holds Tryd.pinned (OpenSpec.ofChange repliesNumbersSpec)

/-- ITS FALSE NEIGHBOUR: 'it returns false'. Refute it at one input. -/
def repliesNumbersWrong : ChangeSpec := { name := "repliesNumbers", fn := fun _ => fun
  | [] => { results := [.lit (.bool false)], args := [] }
  | _ => none }
def RepliesNumbersWrongFalsely : Prop := repliesNumbersRow.holds Tryd.pinned (OpenSpec.ofChange repliesNumbersWrong)

/-- 'gangwaylaw21.RepliesBack': WHATEVER THE INPUT: true; the input reads as it did. -/
def repliesBackSpec : ChangeSpec := { name := "repliesBack", fn := fun _ => fun
  | [d1, d2] => { results := [.lit (.bool true)], args := [d1, d2] }
  | _ => none }
def repliesBackRow : OpenClaim := { program := "ytfcoaiggpcjldaadoor", sum := "19d7f29c586fd6684a05cde8c941952cfa7a6716a1caa0f035313d124f69bb2f", func := "gangway/gangwaylaw21.RepliesBack", spec := "repliesBack", unfollowed := true, recurses := true, named := ["gangway/replies.fields"], apart := false, laid := [("gangway/replies.fields", laid_gangway_replies_fields)] }
def RepliesBackSaid : Prop := repliesBackRow.holds Tryd.pinned (OpenSpec.ofChange repliesBackSpec)

/-- ITS FALSE NEIGHBOUR: 'it returns false'. Refute it at one input. -/
def repliesBackWrong : ChangeSpec := { name := "repliesBack", fn := fun _ => fun
  | [d1, d2] => { results := [.lit (.bool false)], args := [d1, d2] }
  | _ => none }
def RepliesBackWrongFalsely : Prop := repliesBackRow.holds Tryd.pinned (OpenSpec.ofChange repliesBackWrong)

/-- 'gangwaylaw21.RepliesBegin': WHATEVER THE INPUT: true; the input reads as it did. -/
def repliesBeginSpec : ChangeSpec := { name := "repliesBegin", fn := fun _ => fun
  | [d1, d2, d3, d4] => { results := [.lit (.bool true)], args := [d1, d2, d3, d4] }
  | _ => none }
def repliesBeginRow : OpenClaim := { program := "ytfcoaiggpcjldaadoor", sum := "19d7f29c586fd6684a05cde8c941952cfa7a6716a1caa0f035313d124f69bb2f", func := "gangway/gangwaylaw21.RepliesBegin", spec := "repliesBegin", unfollowed := true, recurses := true, named := ["gangway/replies.fields"], apart := false, laid := [("gangway/replies.fields", laid_gangway_replies_fields)] }
def RepliesBeginSaid : Prop := repliesBeginRow.holds Tryd.pinned (OpenSpec.ofChange repliesBeginSpec)

/-- ITS FALSE NEIGHBOUR: 'it returns false'. Refute it at one input. -/
def repliesBeginWrong : ChangeSpec := { name := "repliesBegin", fn := fun _ => fun
  | [d1, d2, d3, d4] => { results := [.lit (.bool false)], args := [d1, d2, d3, d4] }
  | _ => none }
def RepliesBeginWrongFalsely : Prop := repliesBeginRow.holds Tryd.pinned (OpenSpec.ofChange repliesBeginWrong)

/- THE SECOND FORM. 'bulk': how many values and letters a reading holds, each counted each time it is reached (what is shared counts as often as it is met; a slice's spare places count too). A statement '..UptoSaid' is the law's where the arguments, and the package variables that the reading takes, are together of bulk at most 1048576: NARROWER than '..Said'. Prove '..Said' where nothing that the law and all that it calls make is longer than what came in: it says more and counts as full. Else prove '..UptoSaid'. A law counts once. -/
mutual
def uptoBulk {H : Type} : DataW H → Nat
  | .lit (.string bytes) => bytes.length + 1
  | .lit _ => 1
  | .nil => 1
  | .ptr d => uptoBulk d + 1
  | .slice elems spare => uptoBulkAll elems + uptoBulkAll spare + 1
  | .agg parts => uptoBulkAll parts + 1
  | .iface _ d => uptoBulk d + 1
  | .map entries => uptoBulkEntries entries + 1
  | .held _ => 1
def uptoBulkAll {H : Type} : List (DataW H) → Nat
  | [] => 0
  | d :: r => uptoBulk d + uptoBulkAll r
def uptoBulkEntries {H : Type} : List (Lit × DataW H) → Nat
  | [] => 0
  | x :: r => uptoBulkEntry x + uptoBulkEntries r
def uptoBulkEntry {H : Type} : Lit × DataW H → Nat
  | (.string bytes, d) => bytes.length + uptoBulk d + 1
  | (_, d) => uptoBulk d + 1
 end
def uptoSmall : (H : Type) → List (DataW H) → Bool := fun _ ds => decide (uptoBulkAll ds ≤ 1048576)
def OpenSpec.upto (s : _root_.Go.ChangeSpec) : _root_.Go.OpenSpec := { _root_.Go.OpenSpec.ofChange s with cond := some uptoSmall }

/-- 'gangwaylaw21.RepliesPuts', WHERE WHAT IT READS IS OF BULK AT MOST 1048576: true; the input reads as it did. -/
def repliesPutsUptoRow : OpenClaim := { program := "ytfcoaiggpcjldaadoor", sum := "19d7f29c586fd6684a05cde8c941952cfa7a6716a1caa0f035313d124f69bb2f", func := "gangway/gangwaylaw21.RepliesPuts", spec := "repliesPuts", unfollowed := true, recurses := true, named := ["gangway/replies.fields"], apart := false, laid := [("gangway/replies.fields", laid_gangway_replies_fields)], narrowed := true }
def RepliesPutsUptoSaid : Prop := repliesPutsUptoRow.holds Tryd.pinned (OpenSpec.upto repliesPutsSpec)

/-- 'gangwaylaw21.RepliesGets', WHERE WHAT IT READS IS OF BULK AT MOST 1048576: true; the input reads as it did. -/
def repliesGetsUptoRow : OpenClaim := { program := "ytfcoaiggpcjldaadoor", sum := "19d7f29c586fd6684a05cde8c941952cfa7a6716a1caa0f035313d124f69bb2f", func := "gangway/gangwaylaw21.RepliesGets", spec := "repliesGets", unfollowed := true, recurses := true, named := ["gangway/replies.fields"], apart := false, laid := [("gangway/replies.fields", laid_gangway_replies_fields)], narrowed := true }
def RepliesGetsUptoSaid : Prop := repliesGetsUptoRow.holds Tryd.pinned (OpenSpec.upto repliesGetsSpec)

/-- 'gangwaylaw21.RepliesNumbers', WHERE WHAT IT READS IS OF BULK AT MOST 1048576: true; the input reads as it did. -/
def repliesNumbersUptoRow : OpenClaim := { program := "ytfcoaiggpcjldaadoor", sum := "19d7f29c586fd6684a05cde8c941952cfa7a6716a1caa0f035313d124f69bb2f", func := "gangway/gangwaylaw21.RepliesNumbers", spec := "repliesNumbers", unfollowed := true, recurses := true, named := ["gangway/replies.fields"], apart := false, laid := [("gangway/replies.fields", laid_gangway_replies_fields)], narrowed := true }
def RepliesNumbersUptoSaid : Prop := repliesNumbersUptoRow.holds Tryd.pinned (OpenSpec.upto repliesNumbersSpec)

/-- 'gangwaylaw21.RepliesBack', WHERE WHAT IT READS IS OF BULK AT MOST 1048576: true; the input reads as it did. -/
def repliesBackUptoRow : OpenClaim := { program := "ytfcoaiggpcjldaadoor", sum := "19d7f29c586fd6684a05cde8c941952cfa7a6716a1caa0f035313d124f69bb2f", func := "gangway/gangwaylaw21.RepliesBack", spec := "repliesBack", unfollowed := true, recurses := true, named := ["gangway/replies.fields"], apart := false, laid := [("gangway/replies.fields", laid_gangway_replies_fields)], narrowed := true }
def RepliesBackUptoSaid : Prop := repliesBackUptoRow.holds Tryd.pinned (OpenSpec.upto repliesBackSpec)

/-- 'gangwaylaw21.RepliesBegin', WHERE WHAT IT READS IS OF BULK AT MOST 1048576: true; the input reads as it did. -/
def repliesBeginUptoRow : OpenClaim := { program := "ytfcoaiggpcjldaadoor", sum := "19d7f29c586fd6684a05cde8c941952cfa7a6716a1caa0f035313d124f69bb2f", func := "gangway/gangwaylaw21.RepliesBegin", spec := "repliesBegin", unfollowed := true, recurses := true, named := ["gangway/replies.fields"], apart := false, laid := [("gangway/replies.fields", laid_gangway_replies_fields)], narrowed := true }
def RepliesBeginUptoSaid : Prop := repliesBeginUptoRow.holds Tryd.pinned (OpenSpec.upto repliesBeginSpec)

end Rows
end Go.Proofs.YtfcoaiggpcjldaaDoor
