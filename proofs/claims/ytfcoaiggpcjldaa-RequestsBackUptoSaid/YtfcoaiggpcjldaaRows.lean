/-
  No cell of these rows narrows 'for every input' (looked for: loops, veiled, ifaces, maps, wideKeys, modest, calm, conditions, laid).
  DERIVED. THE GIVEN ROWS OF THIS SEAT. 5 by the template 'for every input the law returns true; each argument reads behind the call as it read before'; 0 by the template 'total and deterministic' (their statements: YtfcoaiggpcjldaaTotals.lean).
  GIVEN WITH THE SEED: the statements are not yours to turn. If you find one false, say at which input.
  Laid BY PROGRAM, IN A SANDBOX (cutbox-rows.mjs): the forced cells as the released guide's own fill.sh prints them over the translation 1cbf82470893f049… (all of the seat's roots in one cut). By AI agents, Wed Nov 11 2026. No macro, syntax, notation, axiom, sorry.
-/
import Derived.Test.YtfcoaiggpcjldaaChecked
import GoSem.Claim
import GoSem.ClaimJoined
import GoSem.ClaimMapViews
import Derived.JoinedTies
import Derived.KernelRfl
namespace Go.Proofs.Ytfcoaiggpcjldaa
/- THE CELL 'sum', in the pinned program and in every row, IS THE sha256 OF THE DUMP (.gsa) THAT YtfcoaiggpcjldaaProg.lean LOADS. Nothing in Lean hashes anything: it is a label: what it is worth is what the hold of that sum in a sandbox is worth. -/
noncomputable def Try.pinned : Pinned := { name := "ytfcoaiggpcjldaa", sum := "1cbf82470893f049f9938a7abf63c0bb81e0953826ea82520693b52c2926158e", checked := Try.checked }
namespace Rows
def none {H : Type} : Left H := { results := [], args := [] }

/-- 'gangwaylaw20.RequestsPuts': WHATEVER THE INPUT: true; the input reads as it did. -/
def requestsPutsSpec : ChangeSpec := { name := "requestsPuts", fn := fun _ => fun
  | [d] => { results := [.lit (.bool true)], args := [d] }
  | _ => none }
def requestsPutsRow : OpenClaim := { program := "ytfcoaiggpcjldaa", sum := "1cbf82470893f049f9938a7abf63c0bb81e0953826ea82520693b52c2926158e", func := "gangway/gangwaylaw20.RequestsPuts", spec := "requestsPuts", unfollowed := true, recurses := true, apart := false }
def RequestsPutsSaid : Prop := requestsPutsRow.holds Try.pinned (OpenSpec.ofChange requestsPutsSpec)

/-- ITS FALSE NEIGHBOUR: 'it returns false'. Refute it at one input. -/
def requestsPutsWrong : ChangeSpec := { name := "requestsPuts", fn := fun _ => fun
  | [d] => { results := [.lit (.bool false)], args := [d] }
  | _ => none }
def RequestsPutsWrongFalsely : Prop := requestsPutsRow.holds Try.pinned (OpenSpec.ofChange requestsPutsWrong)

/-- 'gangwaylaw20.RequestsGets': WHATEVER THE INPUT: true; the input reads as it did. -/
def requestsGetsSpec : ChangeSpec := { name := "requestsGets", fn := fun _ => fun
  | [d] => { results := [.lit (.bool true)], args := [d] }
  | _ => none }
def requestsGetsRow : OpenClaim := { program := "ytfcoaiggpcjldaa", sum := "1cbf82470893f049f9938a7abf63c0bb81e0953826ea82520693b52c2926158e", func := "gangway/gangwaylaw20.RequestsGets", spec := "requestsGets", unfollowed := true, recurses := true, apart := false }
def RequestsGetsSaid : Prop := requestsGetsRow.holds Try.pinned (OpenSpec.ofChange requestsGetsSpec)

/-- ITS FALSE NEIGHBOUR: 'it returns false'. Refute it at one input. -/
def requestsGetsWrong : ChangeSpec := { name := "requestsGets", fn := fun _ => fun
  | [d] => { results := [.lit (.bool false)], args := [d] }
  | _ => none }
def RequestsGetsWrongFalsely : Prop := requestsGetsRow.holds Try.pinned (OpenSpec.ofChange requestsGetsWrong)

/-- 'gangwaylaw20.RequestsBack': WHATEVER THE INPUT: true; the input reads as it did. -/
def requestsBackSpec : ChangeSpec := { name := "requestsBack", fn := fun _ => fun
  | [d1, d2, d3] => { results := [.lit (.bool true)], args := [d1, d2, d3] }
  | _ => none }
def requestsBackRow : OpenClaim := { program := "ytfcoaiggpcjldaa", sum := "1cbf82470893f049f9938a7abf63c0bb81e0953826ea82520693b52c2926158e", func := "gangway/gangwaylaw20.RequestsBack", spec := "requestsBack", unfollowed := true, recurses := true, apart := false }
def RequestsBackSaid : Prop := requestsBackRow.holds Try.pinned (OpenSpec.ofChange requestsBackSpec)

/-- ITS FALSE NEIGHBOUR: 'it returns false'. Refute it at one input. -/
def requestsBackWrong : ChangeSpec := { name := "requestsBack", fn := fun _ => fun
  | [d1, d2, d3] => { results := [.lit (.bool false)], args := [d1, d2, d3] }
  | _ => none }
def RequestsBackWrongFalsely : Prop := requestsBackRow.holds Try.pinned (OpenSpec.ofChange requestsBackWrong)

/-- 'gangwaylaw20.RequestsAgain': WHATEVER THE INPUT: true; the input reads as it did. -/
def requestsAgainSpec : ChangeSpec := { name := "requestsAgain", fn := fun _ => fun
  | [d] => { results := [.lit (.bool true)], args := [d] }
  | _ => none }
def requestsAgainRow : OpenClaim := { program := "ytfcoaiggpcjldaa", sum := "1cbf82470893f049f9938a7abf63c0bb81e0953826ea82520693b52c2926158e", func := "gangway/gangwaylaw20.RequestsAgain", spec := "requestsAgain", unfollowed := true, recurses := true, apart := false }
def RequestsAgainSaid : Prop := requestsAgainRow.holds Try.pinned (OpenSpec.ofChange requestsAgainSpec)

/-- ITS FALSE NEIGHBOUR: 'it returns false'. Refute it at one input. -/
def requestsAgainWrong : ChangeSpec := { name := "requestsAgain", fn := fun _ => fun
  | [d] => { results := [.lit (.bool false)], args := [d] }
  | _ => none }
def RequestsAgainWrongFalsely : Prop := requestsAgainRow.holds Try.pinned (OpenSpec.ofChange requestsAgainWrong)

/-- 'gangwaylaw20.RequestsKinds': WHATEVER THE INPUT: true; the input reads as it did. -/
def requestsKindsSpec : ChangeSpec := { name := "requestsKinds", fn := fun _ => fun
  | [] => { results := [.lit (.bool true)], args := [] }
  | _ => none }
def requestsKindsRow : OpenClaim := { program := "ytfcoaiggpcjldaa", sum := "1cbf82470893f049f9938a7abf63c0bb81e0953826ea82520693b52c2926158e", func := "gangway/gangwaylaw20.RequestsKinds", spec := "requestsKinds", unfollowed := true, recurses := true, apart := false }
def RequestsKindsSaid : Prop := requestsKindsRow.holds Try.pinned (OpenSpec.ofChange requestsKindsSpec)

/-- ITS FALSE NEIGHBOUR: 'it returns false'. Refute it at one input. -/
def requestsKindsWrong : ChangeSpec := { name := "requestsKinds", fn := fun _ => fun
  | [] => { results := [.lit (.bool false)], args := [] }
  | _ => none }
def RequestsKindsWrongFalsely : Prop := requestsKindsRow.holds Try.pinned (OpenSpec.ofChange requestsKindsWrong)

/- THE SECOND FORM. 'bulk': how many values and letters a reading holds, each counted each time it is reached (what is shared counts as often as it is met; a slice's spare places count too). A statement '..UptoSaid' is the law's where the arguments, and the package variables that the reading takes, are together of bulk at most 1048576: NARROWER than '..Said'. Prove '..Said' where nothing that the law and all that it calls make is longer than what came in: it says more and counts as full. Else prove '..UptoSaid'. A law counts once. -/
mutual
def uptoBulk {H : Type} : DataW H → Nat
  | .lit (.string bytes) => bytes.length + 1
  | .lit _ => 1
  | .nil => 1
  | .ptr d => uptoBulk d + 1
  | .slice elems spare => uptoBulkAll elems + uptoBulkAll spare + 1
  | .agg parts => uptoBulkAll parts + 1
  | .iface _ d => uptoBulk d + 1
  | .map entries => uptoBulkEntries entries + 1
  | .held _ => 1
def uptoBulkAll {H : Type} : List (DataW H) → Nat
  | [] => 0
  | d :: r => uptoBulk d + uptoBulkAll r
def uptoBulkEntries {H : Type} : List (Lit × DataW H) → Nat
  | [] => 0
  | x :: r => uptoBulkEntry x + uptoBulkEntries r
def uptoBulkEntry {H : Type} : Lit × DataW H → Nat
  | (.string bytes, d) => bytes.length + uptoBulk d + 1
  | (_, d) => uptoBulk d + 1
 end
def uptoSmall : (H : Type) → List (DataW H) → Bool := fun _ ds => decide (uptoBulkAll ds ≤ 1048576)
def OpenSpec.upto (s : _root_.Go.ChangeSpec) : _root_.Go.OpenSpec := { _root_.Go.OpenSpec.ofChange s with cond := some uptoSmall }

/-- 'gangwaylaw20.RequestsPuts', WHERE WHAT IT READS IS OF BULK AT MOST 1048576: true; the input reads as it did. -/
def requestsPutsUptoRow : OpenClaim := { program := "ytfcoaiggpcjldaa", sum := "1cbf82470893f049f9938a7abf63c0bb81e0953826ea82520693b52c2926158e", func := "gangway/gangwaylaw20.RequestsPuts", spec := "requestsPuts", unfollowed := true, recurses := true, apart := false, narrowed := true }
def RequestsPutsUptoSaid : Prop := requestsPutsUptoRow.holds Try.pinned (OpenSpec.upto requestsPutsSpec)

/-- 'gangwaylaw20.RequestsGets', WHERE WHAT IT READS IS OF BULK AT MOST 1048576: true; the input reads as it did. -/
def requestsGetsUptoRow : OpenClaim := { program := "ytfcoaiggpcjldaa", sum := "1cbf82470893f049f9938a7abf63c0bb81e0953826ea82520693b52c2926158e", func := "gangway/gangwaylaw20.RequestsGets", spec := "requestsGets", unfollowed := true, recurses := true, apart := false, narrowed := true }
def RequestsGetsUptoSaid : Prop := requestsGetsUptoRow.holds Try.pinned (OpenSpec.upto requestsGetsSpec)

/-- 'gangwaylaw20.RequestsBack', WHERE WHAT IT READS IS OF BULK AT MOST 1048576: true; the input reads as it did. -/
def requestsBackUptoRow : OpenClaim := { program := "ytfcoaiggpcjldaa", sum := "1cbf82470893f049f9938a7abf63c0bb81e0953826ea82520693b52c2926158e", func := "gangway/gangwaylaw20.RequestsBack", spec := "requestsBack", unfollowed := true, recurses := true, apart := false, narrowed := true }
def RequestsBackUptoSaid : Prop := requestsBackUptoRow.holds Try.pinned (OpenSpec.upto requestsBackSpec)

/-- 'gangwaylaw20.RequestsAgain', WHERE WHAT IT READS IS OF BULK AT MOST 1048576: true; the input reads as it did. -/
def requestsAgainUptoRow : OpenClaim := { program := "ytfcoaiggpcjldaa", sum := "1cbf82470893f049f9938a7abf63c0bb81e0953826ea82520693b52c2926158e", func := "gangway/gangwaylaw20.RequestsAgain", spec := "requestsAgain", unfollowed := true, recurses := true, apart := false, narrowed := true }
def RequestsAgainUptoSaid : Prop := requestsAgainUptoRow.holds Try.pinned (OpenSpec.upto requestsAgainSpec)

/-- 'gangwaylaw20.RequestsKinds', WHERE WHAT IT READS IS OF BULK AT MOST 1048576: true; the input reads as it did. -/
def requestsKindsUptoRow : OpenClaim := { program := "ytfcoaiggpcjldaa", sum := "1cbf82470893f049f9938a7abf63c0bb81e0953826ea82520693b52c2926158e", func := "gangway/gangwaylaw20.RequestsKinds", spec := "requestsKinds", unfollowed := true, recurses := true, apart := false, narrowed := true }
def RequestsKindsUptoSaid : Prop := requestsKindsUptoRow.holds Try.pinned (OpenSpec.upto requestsKindsSpec)

end Rows
end Go.Proofs.Ytfcoaiggpcjldaa
