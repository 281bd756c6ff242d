import Derived.Test.YtdmnogmhnhjdgaaGreatDkO
import Derived.Test.YtdmnogmhnhjdgaaGreatGRw
/-! DiskNone. -/
set_option linter.unusedVariables false
set_option linter.unusedSimpArgs false
set_option maxRecDepth 100000
namespace Go.Proofs.YtdmnogmhnhjdgaaGreat
open Go.RowKit Gw

/-- an operation that its guard lets through -/
theorem StopOp.gw {P : Program} {ops : Array Oper} {Q : Exit → Act → World → Prop} {rest : List Oper} {a : Act} {w : World} {o : Oper} (hw : Region.wanted o (yielded ops a.tmps) = true) (h : ∀ K : Act → World → Prop, (∀ a w, wpList P ops Q rest a w → K a w) → o.wp P a w K Q) : StopOp P ops Q (o :: rest) a w :=
  wpList_step fun K hK => by rw [if_pos hw]; exact h K hK
theorem ap_nil {α : Type} (a : List α) : a ++ [] = a := List.append_nil a
end Go.Proofs.YtdmnogmhnhjdgaaGreat
