import Derived.Test.YtdmnogmhnhjdgaaGreatGOct
set_option linter.unusedVariables false
set_option linter.unusedSimpArgs false
set_option maxRecDepth 100000
namespace Go.Proofs.YtdmnogmhnhjdgaaGreat
open Go.RowKit Gw

/-! what taking does, on plain data -/
def tkErr (l : List UInt8) (err n : Int) : Int := if err = 0 then (if n < 0 then 2 else if (l.length : Int) < n then 4 else 0) else err
def tkGot (l : List UInt8) (err n : Int) : List UInt8 := if err = 0 ∧ 0 ≤ n ∧ n ≤ l.length then l.take n.toNat else []
def tkRest (l : List UInt8) (err n : Int) : List UInt8 := if err = 0 then (if 0 ≤ n ∧ n ≤ l.length then l.drop n.toNat else []) else l

theorem tkRest_le (l : List UInt8) (err n : Int) : (tkRest l err n).length ≤ l.length := by
  unfold tkRest
  split
  · split
    · simp
    · simp
  · exact Nat.le_refl _
/-- what bytes are worth, the lowest first -/
def val (l : List UInt8) : Nat := l.foldr (fun b n => b.toNat + 256 * n) 0
theorem val_nil : val [] = 0 := rfl
theorem val_cons (b : UInt8) (l : List UInt8) : val (b :: l) = b.toNat + 256 * val l := rfl
theorem val_lt : ∀ (l : List UInt8), val l < 256 ^ l.length
  | [] => by simp [val]
  | b :: l => by
    have := val_lt l
    have hb := b.toNat_lt
    rw [val_cons, List.length_cons, Nat.pow_succ]
    omega
theorem val_append : ∀ (l m : List UInt8), val (l ++ m) = val l + 256 ^ l.length * val m
  | [], m => by simp [val]
  | b :: l, m => by
    rw [List.cons_append, val_cons, val_cons, val_append l m, List.length_cons, Nat.pow_succ, Nat.mul_add]
    rw [Nat.mul_comm (256 ^ l.length) 256, Nat.mul_assoc]
    omega
theorem val_snoc (l : List UInt8) (b : UInt8) : val (l ++ [b]) = val l + 256 ^ l.length * b.toNat := by rw [val_append]; simp [val]

theorem or_step (g : List UInt8) (j : Nat) (hj : j < g.length) (h8 : g.length ≤ 8) :
    bits .or .u64 (val (g.take j)) (IntKind.u64.wrap (IntKind.u64.wrap (g[j].toNat : Nat) * 2 ^ (8 * j))) = (val (g.take (j + 1)) : Int) := by
  have hb := g[j].toNat_lt
  have hp : (256 : Nat) ^ j = 2 ^ (8 * j) := by rw [Nat.pow_mul]
  have hlt : val (g.take j) < 256 ^ j := by
    have := val_lt (g.take j)
    rwa [List.length_take, Nat.min_eq_left (by omega)] at this
  have hle : (256 : Nat) ^ j ≤ 256 ^ 7 := Nat.pow_le_pow_right (by omega) (by omega)
  have h7 : (256 : Nat) ^ 7 = 72057594037927936 := by decide
  have hmul : g[j].toNat * 256 ^ j ≤ 255 * 256 ^ j := Nat.mul_le_mul_right _ (by omega)
  have e1 : IntKind.u64.wrap ((g[j].toNat : Nat) : Int) = ((g[j].toNat : Nat) : Int) := IntWalk.u64_in _ (by omega)
  have e2 : ((g[j].toNat : Nat) : Int) * 2 ^ (8 * j) = ((g[j].toNat * 256 ^ j : Nat) : Int) := by rw [hp]; norm_cast
  have e3 : IntKind.u64.wrap ((g[j].toNat * 256 ^ j : Nat) : Int) = ((g[j].toNat * 256 ^ j : Nat) : Int) := IntWalk.u64_in _ (by omega)
  rw [e1, e2, e3, u64_or_nat _ _ (by omega) (by omega), List.take_succ_eq_append_getElem hj, val_snoc, List.length_take, Nat.min_eq_left (by omega)]
  apply congrArg Nat.cast
  rw [Nat.or_comm, Nat.mul_comm, hp, Nat.add_comm]
  rw [hp] at hlt
  exact (Nat.two_pow_add_eq_or_of_lt hlt _).symm

end Go.Proofs.YtdmnogmhnhjdgaaGreat

namespace Go.Proofs.YtdmnogmhnhjdgaaGreat
open Go.RowKit Gw

theorem ret_int {k : IntKind} {a b : Int} (h : a = b) : Ending.returned (.int k a) = .returned (.int k b) := by rw [h]
/-- a number of so many bytes, as it was read -/
def got (l : List UInt8) (err : Int) (k : Nat) : Nat := val (tkGot l err k)
theorem got_lt (l : List UInt8) (err : Int) (k : Nat) : got l err k < 256 ^ k := by
  have h := val_lt (tkGot l err k)
  have h2 : (tkGot l err k).length ≤ k := by unfold tkGot; split <;> simp; omega
  exact Nat.lt_of_lt_of_le h (Nat.pow_le_pow_right (by omega) h2)

/-- what the end is -/
def endOf (l : List UInt8) (err : Int) : Int := if err = 0 then (if l = [] then 0 else 5) else err
end Go.Proofs.YtdmnogmhnhjdgaaGreat

namespace Go.Proofs.YtdmnogmhnhjdgaaGreat
open Go.RowKit Gw

theorem same_yes (la lb : List UInt8) (va vb : Value) (w : World) (ha : Bs w va la) (hb : Bs w vb lb) (h : la = lb) :
    Calls Tryz.prog 25 #[va, vb] w fun e w' => e = .returned (.bool true) ∧ Mod [] w w' :=
  (same_any la lb va vb w ha hb).mono fun e w' ⟨he, hm⟩ => ⟨by rw [he, decide_eq_true h], hm⟩
end Go.Proofs.YtdmnogmhnhjdgaaGreat
