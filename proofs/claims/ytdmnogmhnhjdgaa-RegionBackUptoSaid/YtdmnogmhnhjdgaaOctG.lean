import Derived.Test.YtdmnogmhnhjdgaaOctF
set_option linter.unusedVariables false
set_option linter.unusedSimpArgs false
set_option maxRecDepth 100000
namespace Go.Proofs.Ytdmnogmhnhjdgaa
open Go.RowKit Gw

theorem same_yes (la lb : List UInt8) (va vb : Value) (w : World) (ha : Bs w va la) (hb : Bs w vb lb) (h : la = lb) :
    Calls Try.prog 19 #[va, vb] w fun e w' => e = .returned (.bool true) ∧ Mod [] w w' :=
  (same_any la lb va vb w ha hb).mono fun e w' ⟨he, hm⟩ => ⟨by rw [he, decide_eq_true h], hm⟩
end Go.Proofs.Ytdmnogmhnhjdgaa
