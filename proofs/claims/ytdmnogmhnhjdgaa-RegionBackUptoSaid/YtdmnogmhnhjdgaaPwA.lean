import Derived.Test.YtdmnogmhnhjdgaaDkL
import Derived.Test.YtdmnogmhnhjdgaaDkO
/-! Devices: a disk of which the power can go; the program's and the reference's. -/
set_option linter.unusedVariables false
set_option linter.unusedSimpArgs false
set_option maxRecDepth 100000
namespace Go.Proofs.Ytdmnogmhnhjdgaa
open Go.RowKit Gw

/-- a device: its disk, is it off, what it is armed with, how many operations were made -/
structure Pv where
  m : Dm
  off : Bool
  ar : Int
  n : Nat
/-- is the next operation made? -/
def Pv.go (v : Pv) : Bool := !v.off && !(v.ar == 0)
/-- behind that -/
def Pv.md (v : Pv) : Pv := if v.off = true then v else if v.ar = 0 then ⟨v.m, true, -1, v.n⟩ else ⟨v.m, false, if 0 < v.ar then v.ar - 1 else v.ar, v.n + 1⟩
structure Pv.ok (v : Pv) : Prop where
  m : v.m.ok
  a1 : -1 ≤ v.ar
  a2 : v.ar ≤ 9223372036854775807
def Pv.cells (v : Pv) (q : Nat) : List Value := [.pointer (some ⟨q, 0, none⟩), .bool v.off, .int .i64 v.ar, .int .i64 (v.n : Nat)]
/-- a device in memory -/
structure Pd (w : World) (p q : Nat) (v : Pv) (L : List Nat) : Prop where
  b : Blk w p 55 (v.cells q)
  d : Dk w q v.m L
  ok : v.ok
  pl : p ∉ L
structure Pr (w : World) (p q : Nat) (v : Pv) (L : List Nat) : Prop where
  b : Blk w p 141 (v.cells q)
  d : Rk w q v.m L
  ok : v.ok
  pl : p ∉ L
section
variable {w w' : World} {p q : Nat} {v : Pv} {L M : List Nat}
theorem Pd.mod (h : Pd w p q v L) (hm : Mod M w w') (hp : p ∉ M) (hL : ∀ b ∈ L, b ∉ M) : Pd w' p q v L := ⟨h.b.mod hm hp, h.d.mod hm hL, h.ok, h.pl⟩
theorem Pd.ext (h : Pd w p q v L) (hm : Mod [] w w') : Pd w' p q v L := h.mod hm (by simp) (by simp)
theorem Pr.mod (h : Pr w p q v L) (hm : Mod M w w') (hp : p ∉ M) (hL : ∀ b ∈ L, b ∉ M) : Pr w' p q v L := ⟨h.b.mod hm hp, h.d.mod hm hL, h.ok, h.pl⟩
theorem Pr.ext (h : Pr w p q v L) (hm : Mod [] w w') : Pr w' p q v L := h.mod hm (by simp) (by simp)
end
/-- what a call that turns it leaves -/
def PdP (w : World) (p q : Nat) (v : Pv) (L : List Nat) (w' : World) : Prop := ∃ L', Pd w' p q v L' ∧ Mod (p :: L) w w' ∧ ∀ k ∈ L', k ∈ L ∨ w.heap.size ≤ k
def PrP (w : World) (p q : Nat) (v : Pv) (L : List Nat) (w' : World) : Prop := ∃ L', Pr w' p q v L' ∧ Mod (p :: L) w w' ∧ ∀ k ∈ L', k ∈ L ∨ w.heap.size ≤ k
/-- with another disk -/
def Pv.at (v : Pv) (m : Dm) : Pv := ⟨m, v.off, v.ar, v.n⟩
def wrM (m : Dm) (a : Int) (l : List UInt8) : Dm := if writeE m a l.length = 0 then m.write a.toNat l else m
/-- what a call tells, and makes of it -/
def Pv.e (v : Pv) (x : Int) : Int := if v.go = true then x else 60
def Pv.wr (v : Pv) (a : Int) (l : List UInt8) : Pv := if v.go = true then v.md.at (wrM v.m a l) else v.md
def Pv.sy (v : Pv) : Pv := if v.go = true then v.md.at v.m.sync else v.md
def Pv.rd (v : Pv) (a : Int) : List UInt8 := if v.go = true then oR a (some v.m) else []
def Pv.arm (v : Pv) (n : Int) : Pv := if v.off = true then v else ⟨v.m, v.off, max n (-1), v.n⟩
def Pv.re (v : Pv) (F : List (Int × Int)) : Pv := ⟨v.m.crash F, false, -1, 0⟩
theorem Pv.md_m (v : Pv) : v.md.m = v.m := by
  unfold Pv.md
  split
  · rfl
  · split <;> rfl
theorem Pv.at_md (v : Pv) : v.md.at v.m = v.md := by have := v.md_m; unfold Pv.at; rw [← this]
theorem Pv.md_ok {v : Pv} (h : v.ok) : v.md.ok := by
  have h1 := h.a1
  have h2 := h.a2
  unfold Pv.md
  split
  · exact h
  · split
    · exact ⟨h.m, by dsimp only; omega, by dsimp only; omega⟩
    · refine ⟨h.m, ?_, ?_⟩ <;> dsimp only <;> split <;> omega
theorem Pv.at_ok {v : Pv} (h : v.ok) {m : Dm} (hm : m.ok) : (v.at m).ok := ⟨hm, h.a1, h.a2⟩
theorem wrM_ok {m : Dm} (h : m.ok) (a : Int) (l : List UInt8) : (wrM m a l).ok := by
  unfold wrM
  split
  · rename_i h0
    obtain ⟨y1, y2, y3⟩ := writeE_zero h0
    exact h.write (by omega) y3
  · exact h
theorem Pv.go_cases (v : Pv) : (v.go = true ∧ v.off = false ∧ v.ar ≠ 0) ∨ (v.go = false) := by
  unfold Pv.go
  cases v.off with
  | true => simp
  | false =>
    by_cases h : v.ar = 0
    · simp [h]
    · simp [h]
end Go.Proofs.Ytdmnogmhnhjdgaa
