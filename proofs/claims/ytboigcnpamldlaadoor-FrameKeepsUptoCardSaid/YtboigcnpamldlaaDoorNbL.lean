import Derived.Test.YtboigcnpamldlaaDoorTkL
/-! The number of some bytes. -/
set_option linter.unusedVariables false
set_option linter.unusedSimpArgs false
set_option maxRecDepth 100000
namespace Go.Proofs.YtboigcnpamldlaaDoor
open Go.RowKit Gw

/-- the number of some bytes from a place on; what lacks is 0 -/
def nb (b : List UInt8) (p k : Nat) : Nat := val ((b.drop p).take k)
theorem nb_lt (b : List UInt8) (p k : Nat) : nb b p k < 256 ^ k := by
  unfold nb
  have h := val_lt ((b.drop p).take k)
  have : ((b.drop p).take k).length ≤ k := by rw [List.length_take]; omega
  exact Nat.lt_of_lt_of_le h (Nat.pow_le_pow_right (by omega) this)
theorem nb_app (x y z : List UInt8) (p n : Nat) (hp : x.length = p) (hn : y.length = n) : nb (x ++ (y ++ z)) p n = val y := by
  subst hp hn
  unfold nb
  rw [List.drop_left, List.take_left]
theorem nb_low (b : List UInt8) (p k : Nat) (h : p + k ≤ b.length) : low (nb b p k) k = (b.drop p).take k := by
  unfold nb
  have := low_val ((b.drop p).take k)
  rwa [List.length_take, List.length_drop, Nat.min_eq_left (by omega)] at this
theorem nb_take (b : List UInt8) (p k m : Nat) (h : p + k ≤ m) : nb (b.take m) p k = nb b p k := by
  unfold nb
  rw [List.drop_take, List.take_take, Nat.min_eq_left (by omega)]
theorem take_more (b : List UInt8) (p k : Nat) : b.take p ++ (b.drop p).take k = b.take (p + k) := (List.take_add).symm
end Go.Proofs.YtboigcnpamldlaaDoor
