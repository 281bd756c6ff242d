import Derived.Test.YtdmnogmhnhjdgaaOctE
set_option linter.unusedVariables false
set_option linter.unusedSimpArgs false
set_option maxRecDepth 100000
namespace Go.Proofs.Ytdmnogmhnhjdgaa
open Go.RowKit Gw

theorem ret_int {k : IntKind} {a b : Int} (h : a = b) : Ending.returned (.int k a) = .returned (.int k b) := by rw [h]
/-- a number of so many bytes, as it was read -/
def got (l : List UInt8) (err : Int) (k : Nat) : Nat := val (tkGot l err k)
theorem got_lt (l : List UInt8) (err : Int) (k : Nat) : got l err k < 256 ^ k := by
  have h := val_lt (tkGot l err k)
  have h2 : (tkGot l err k).length ≤ k := by unfold tkGot; split <;> simp; omega
  exact Nat.lt_of_lt_of_le h (Nat.pow_le_pow_right (by omega) h2)

/-- what the end is -/
def endOf (l : List UInt8) (err : Int) : Int := if err = 0 then (if l = [] then 0 else 5) else err
end Go.Proofs.Ytdmnogmhnhjdgaa
