/-
  No cell of these rows narrows 'for every input' (looked for: loops, veiled, ifaces, maps, wideKeys, modest, calm, conditions, laid).
  DERIVED. THE GIVEN ROWS OF THIS SEAT. 7 by the template 'for every input the law returns true; each argument reads behind the call as it read before'; 0 by the template 'total and deterministic' (their statements: YtdmnogmhnhjdgaaTotals.lean).
  GIVEN WITH THE SEED: the statements are not yours to turn. If you find one false, say at which input.
  Laid BY PROGRAM, IN A SANDBOX (cutbox-rows.mjs): the forced cells as the released guide's own fill.sh prints them over the translation bcaf8e59d5e0bf2b… (all of the seat's roots in one cut). By AI agents, Wed Nov 11 2026. No macro, syntax, notation, axiom, sorry.
-/
import Derived.Test.YtdmnogmhnhjdgaaChecked
import GoSem.Claim
import GoSem.ClaimJoined
import GoSem.ClaimMapViews
import Derived.JoinedTies
import Derived.KernelRfl
namespace Go.Proofs.Ytdmnogmhnhjdgaa
/- THE CELL 'sum', in the pinned program and in every row, IS THE sha256 OF THE DUMP (.gsa) THAT YtdmnogmhnhjdgaaProg.lean LOADS. Nothing in Lean hashes anything: it is a label: what it is worth is what the hold of that sum in a sandbox is worth. -/
noncomputable def Try.pinned : Pinned := { name := "ytdmnogmhnhjdgaa", sum := "bcaf8e59d5e0bf2b1bb552170c97e899b003a460db8b8778b59ede15222e2819", checked := Try.checked }
namespace Rows
def none {H : Type} : Left H := { results := [], args := [] }

/-- 'gangwaylaw06.PowerCuts': WHATEVER THE INPUT: true; the input reads as it did. -/
def powerCutsSpec : ChangeSpec := { name := "powerCuts", fn := fun _ => fun
  | [d1, d2, d3, d4, d5] => { results := [.lit (.bool true)], args := [d1, d2, d3, d4, d5] }
  | _ => none }
def powerCutsRow : OpenClaim := { program := "ytdmnogmhnhjdgaa", sum := "bcaf8e59d5e0bf2b1bb552170c97e899b003a460db8b8778b59ede15222e2819", func := "gangway/gangwaylaw06.PowerCuts", spec := "powerCuts", unfollowed := true, recurses := true, apart := false }
def PowerCutsSaid : Prop := powerCutsRow.holds Try.pinned (OpenSpec.ofChange powerCutsSpec)

/-- ITS FALSE NEIGHBOUR: 'it returns false'. Refute it at one input. -/
def powerCutsWrong : ChangeSpec := { name := "powerCuts", fn := fun _ => fun
  | [d1, d2, d3, d4, d5] => { results := [.lit (.bool false)], args := [d1, d2, d3, d4, d5] }
  | _ => none }
def PowerCutsWrongFalsely : Prop := powerCutsRow.holds Try.pinned (OpenSpec.ofChange powerCutsWrong)

/-- 'gangwaylaw06.PowerNil': WHATEVER THE INPUT: true; the input reads as it did. -/
def powerNilSpec : ChangeSpec := { name := "powerNil", fn := fun _ => fun
  | [d1, d2, d3] => { results := [.lit (.bool true)], args := [d1, d2, d3] }
  | _ => none }
def powerNilRow : OpenClaim := { program := "ytdmnogmhnhjdgaa", sum := "bcaf8e59d5e0bf2b1bb552170c97e899b003a460db8b8778b59ede15222e2819", func := "gangway/gangwaylaw06.PowerNil", spec := "powerNil", unfollowed := true, recurses := true, apart := false }
def PowerNilSaid : Prop := powerNilRow.holds Try.pinned (OpenSpec.ofChange powerNilSpec)

/-- ITS FALSE NEIGHBOUR: 'it returns false'. Refute it at one input. -/
def powerNilWrong : ChangeSpec := { name := "powerNil", fn := fun _ => fun
  | [d1, d2, d3] => { results := [.lit (.bool false)], args := [d1, d2, d3] }
  | _ => none }
def PowerNilWrongFalsely : Prop := powerNilRow.holds Try.pinned (OpenSpec.ofChange powerNilWrong)

/-- 'gangwaylaw07.RegionSpares': WHATEVER THE INPUT: true; the input reads as it did. -/
def regionSparesSpec : ChangeSpec := { name := "regionSpares", fn := fun _ => fun
  | [d1, d2, d3] => { results := [.lit (.bool true)], args := [d1, d2, d3] }
  | _ => none }
def regionSparesRow : OpenClaim := { program := "ytdmnogmhnhjdgaa", sum := "bcaf8e59d5e0bf2b1bb552170c97e899b003a460db8b8778b59ede15222e2819", func := "gangway/gangwaylaw07.RegionSpares", spec := "regionSpares", unfollowed := true, recurses := true, apart := false }
def RegionSparesSaid : Prop := regionSparesRow.holds Try.pinned (OpenSpec.ofChange regionSparesSpec)

/-- ITS FALSE NEIGHBOUR: 'it returns false'. Refute it at one input. -/
def regionSparesWrong : ChangeSpec := { name := "regionSpares", fn := fun _ => fun
  | [d1, d2, d3] => { results := [.lit (.bool false)], args := [d1, d2, d3] }
  | _ => none }
def RegionSparesWrongFalsely : Prop := regionSparesRow.holds Try.pinned (OpenSpec.ofChange regionSparesWrong)

/-- 'gangwaylaw07.RegionNumbers': WHATEVER THE INPUT: true; the input reads as it did. -/
def regionNumbersSpec : ChangeSpec := { name := "regionNumbers", fn := fun _ => fun
  | [] => { results := [.lit (.bool true)], args := [] }
  | _ => none }
def regionNumbersRow : OpenClaim := { program := "ytdmnogmhnhjdgaa", sum := "bcaf8e59d5e0bf2b1bb552170c97e899b003a460db8b8778b59ede15222e2819", func := "gangway/gangwaylaw07.RegionNumbers", spec := "regionNumbers", unfollowed := true, recurses := true, apart := false }
def RegionNumbersSaid : Prop := regionNumbersRow.holds Try.pinned (OpenSpec.ofChange regionNumbersSpec)

/-- ITS FALSE NEIGHBOUR: 'it returns false'. Refute it at one input. -/
def regionNumbersWrong : ChangeSpec := { name := "regionNumbers", fn := fun _ => fun
  | [] => { results := [.lit (.bool false)], args := [] }
  | _ => none }
def RegionNumbersWrongFalsely : Prop := regionNumbersRow.holds Try.pinned (OpenSpec.ofChange regionNumbersWrong)

/-- 'gangwaylaw07.RegionBack': WHATEVER THE INPUT: true; the input reads as it did. -/
def regionBackSpec : ChangeSpec := { name := "regionBack", fn := fun _ => fun
  | [d1, d2, d3, d4, d5] => { results := [.lit (.bool true)], args := [d1, d2, d3, d4, d5] }
  | _ => none }
def regionBackRow : OpenClaim := { program := "ytdmnogmhnhjdgaa", sum := "bcaf8e59d5e0bf2b1bb552170c97e899b003a460db8b8778b59ede15222e2819", func := "gangway/gangwaylaw07.RegionBack", spec := "regionBack", unfollowed := true, recurses := true, apart := false }
def RegionBackSaid : Prop := regionBackRow.holds Try.pinned (OpenSpec.ofChange regionBackSpec)

/-- ITS FALSE NEIGHBOUR: 'it returns false'. Refute it at one input. -/
def regionBackWrong : ChangeSpec := { name := "regionBack", fn := fun _ => fun
  | [d1, d2, d3, d4, d5] => { results := [.lit (.bool false)], args := [d1, d2, d3, d4, d5] }
  | _ => none }
def RegionBackWrongFalsely : Prop := regionBackRow.holds Try.pinned (OpenSpec.ofChange regionBackWrong)

/-- 'gangwaylaw07.RegionPlays': WHATEVER THE INPUT: true; the input reads as it did. -/
def regionPlaysSpec : ChangeSpec := { name := "regionPlays", fn := fun _ => fun
  | [d1, d2, d3, d4, d5] => { results := [.lit (.bool true)], args := [d1, d2, d3, d4, d5] }
  | _ => none }
def regionPlaysRow : OpenClaim := { program := "ytdmnogmhnhjdgaa", sum := "bcaf8e59d5e0bf2b1bb552170c97e899b003a460db8b8778b59ede15222e2819", func := "gangway/gangwaylaw07.RegionPlays", spec := "regionPlays", unfollowed := true, recurses := true, apart := false }
def RegionPlaysSaid : Prop := regionPlaysRow.holds Try.pinned (OpenSpec.ofChange regionPlaysSpec)

/-- ITS FALSE NEIGHBOUR: 'it returns false'. Refute it at one input. -/
def regionPlaysWrong : ChangeSpec := { name := "regionPlays", fn := fun _ => fun
  | [d1, d2, d3, d4, d5] => { results := [.lit (.bool false)], args := [d1, d2, d3, d4, d5] }
  | _ => none }
def RegionPlaysWrongFalsely : Prop := regionPlaysRow.holds Try.pinned (OpenSpec.ofChange regionPlaysWrong)

/-- 'gangwaylaw07.RegionCut': WHATEVER THE INPUT: true; the input reads as it did. -/
def regionCutSpec : ChangeSpec := { name := "regionCut", fn := fun _ => fun
  | [d1, d2, d3, d4, d5] => { results := [.lit (.bool true)], args := [d1, d2, d3, d4, d5] }
  | _ => none }
def regionCutRow : OpenClaim := { program := "ytdmnogmhnhjdgaa", sum := "bcaf8e59d5e0bf2b1bb552170c97e899b003a460db8b8778b59ede15222e2819", func := "gangway/gangwaylaw07.RegionCut", spec := "regionCut", unfollowed := true, recurses := true, apart := false }
def RegionCutSaid : Prop := regionCutRow.holds Try.pinned (OpenSpec.ofChange regionCutSpec)

/-- ITS FALSE NEIGHBOUR: 'it returns false'. Refute it at one input. -/
def regionCutWrong : ChangeSpec := { name := "regionCut", fn := fun _ => fun
  | [d1, d2, d3, d4, d5] => { results := [.lit (.bool false)], args := [d1, d2, d3, d4, d5] }
  | _ => none }
def RegionCutWrongFalsely : Prop := regionCutRow.holds Try.pinned (OpenSpec.ofChange regionCutWrong)

/- THE SECOND FORM. 'bulk': how many values and letters a reading holds, each counted each time it is reached (what is shared counts as often as it is met; a slice's spare places count too). A statement '..UptoSaid' is the law's where the arguments, and the package variables that the reading takes, are together of bulk at most 1048576: NARROWER than '..Said'. Prove '..Said' where nothing that the law and all that it calls make is longer than what came in: it says more and counts as full. Else prove '..UptoSaid'. A law counts once. -/
mutual
def uptoBulk {H : Type} : DataW H → Nat
  | .lit (.string bytes) => bytes.length + 1
  | .lit _ => 1
  | .nil => 1
  | .ptr d => uptoBulk d + 1
  | .slice elems spare => uptoBulkAll elems + uptoBulkAll spare + 1
  | .agg parts => uptoBulkAll parts + 1
  | .iface _ d => uptoBulk d + 1
  | .map entries => uptoBulkEntries entries + 1
  | .held _ => 1
def uptoBulkAll {H : Type} : List (DataW H) → Nat
  | [] => 0
  | d :: r => uptoBulk d + uptoBulkAll r
def uptoBulkEntries {H : Type} : List (Lit × DataW H) → Nat
  | [] => 0
  | x :: r => uptoBulkEntry x + uptoBulkEntries r
def uptoBulkEntry {H : Type} : Lit × DataW H → Nat
  | (.string bytes, d) => bytes.length + uptoBulk d + 1
  | (_, d) => uptoBulk d + 1
 end
def uptoSmall : (H : Type) → List (DataW H) → Bool := fun _ ds => decide (uptoBulkAll ds ≤ 1048576)
def OpenSpec.upto (s : _root_.Go.ChangeSpec) : _root_.Go.OpenSpec := { _root_.Go.OpenSpec.ofChange s with cond := some uptoSmall }

/-- 'gangwaylaw06.PowerCuts', WHERE WHAT IT READS IS OF BULK AT MOST 1048576: true; the input reads as it did. -/
def powerCutsUptoRow : OpenClaim := { program := "ytdmnogmhnhjdgaa", sum := "bcaf8e59d5e0bf2b1bb552170c97e899b003a460db8b8778b59ede15222e2819", func := "gangway/gangwaylaw06.PowerCuts", spec := "powerCuts", unfollowed := true, recurses := true, apart := false, narrowed := true }
def PowerCutsUptoSaid : Prop := powerCutsUptoRow.holds Try.pinned (OpenSpec.upto powerCutsSpec)

/-- 'gangwaylaw06.PowerNil', WHERE WHAT IT READS IS OF BULK AT MOST 1048576: true; the input reads as it did. -/
def powerNilUptoRow : OpenClaim := { program := "ytdmnogmhnhjdgaa", sum := "bcaf8e59d5e0bf2b1bb552170c97e899b003a460db8b8778b59ede15222e2819", func := "gangway/gangwaylaw06.PowerNil", spec := "powerNil", unfollowed := true, recurses := true, apart := false, narrowed := true }
def PowerNilUptoSaid : Prop := powerNilUptoRow.holds Try.pinned (OpenSpec.upto powerNilSpec)

/-- 'gangwaylaw07.RegionSpares', WHERE WHAT IT READS IS OF BULK AT MOST 1048576: true; the input reads as it did. -/
def regionSparesUptoRow : OpenClaim := { program := "ytdmnogmhnhjdgaa", sum := "bcaf8e59d5e0bf2b1bb552170c97e899b003a460db8b8778b59ede15222e2819", func := "gangway/gangwaylaw07.RegionSpares", spec := "regionSpares", unfollowed := true, recurses := true, apart := false, narrowed := true }
def RegionSparesUptoSaid : Prop := regionSparesUptoRow.holds Try.pinned (OpenSpec.upto regionSparesSpec)

/-- 'gangwaylaw07.RegionNumbers', WHERE WHAT IT READS IS OF BULK AT MOST 1048576: true; the input reads as it did. -/
def regionNumbersUptoRow : OpenClaim := { program := "ytdmnogmhnhjdgaa", sum := "bcaf8e59d5e0bf2b1bb552170c97e899b003a460db8b8778b59ede15222e2819", func := "gangway/gangwaylaw07.RegionNumbers", spec := "regionNumbers", unfollowed := true, recurses := true, apart := false, narrowed := true }
def RegionNumbersUptoSaid : Prop := regionNumbersUptoRow.holds Try.pinned (OpenSpec.upto regionNumbersSpec)

/-- 'gangwaylaw07.RegionBack', WHERE WHAT IT READS IS OF BULK AT MOST 1048576: true; the input reads as it did. -/
def regionBackUptoRow : OpenClaim := { program := "ytdmnogmhnhjdgaa", sum := "bcaf8e59d5e0bf2b1bb552170c97e899b003a460db8b8778b59ede15222e2819", func := "gangway/gangwaylaw07.RegionBack", spec := "regionBack", unfollowed := true, recurses := true, apart := false, narrowed := true }
def RegionBackUptoSaid : Prop := regionBackUptoRow.holds Try.pinned (OpenSpec.upto regionBackSpec)

/-- 'gangwaylaw07.RegionPlays', WHERE WHAT IT READS IS OF BULK AT MOST 1048576: true; the input reads as it did. -/
def regionPlaysUptoRow : OpenClaim := { program := "ytdmnogmhnhjdgaa", sum := "bcaf8e59d5e0bf2b1bb552170c97e899b003a460db8b8778b59ede15222e2819", func := "gangway/gangwaylaw07.RegionPlays", spec := "regionPlays", unfollowed := true, recurses := true, apart := false, narrowed := true }
def RegionPlaysUptoSaid : Prop := regionPlaysUptoRow.holds Try.pinned (OpenSpec.upto regionPlaysSpec)

/-- 'gangwaylaw07.RegionCut', WHERE WHAT IT READS IS OF BULK AT MOST 1048576: true; the input reads as it did. -/
def regionCutUptoRow : OpenClaim := { program := "ytdmnogmhnhjdgaa", sum := "bcaf8e59d5e0bf2b1bb552170c97e899b003a460db8b8778b59ede15222e2819", func := "gangway/gangwaylaw07.RegionCut", spec := "regionCut", unfollowed := true, recurses := true, apart := false, narrowed := true }
def RegionCutUptoSaid : Prop := regionCutUptoRow.holds Try.pinned (OpenSpec.upto regionCutSpec)

end Rows
end Go.Proofs.Ytdmnogmhnhjdgaa
