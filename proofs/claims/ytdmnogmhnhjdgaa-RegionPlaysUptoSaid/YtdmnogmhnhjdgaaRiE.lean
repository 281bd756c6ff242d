import Derived.Test.YtdmnogmhnhjdgaaRiA
import Derived.Test.YtdmnogmhnhjdgaaGRs
/-! RegionPlays: what a call leaves of a device's sizes. -/
set_option linter.unusedVariables false
set_option linter.unusedSimpArgs false
set_option maxRecDepth 100000
namespace Go.Proofs.Ytdmnogmhnhjdgaa
open Go.RowKit Gw

theorem rdG_sz (f z : Nat) : ∀ (k a e : Nat) (v : Pv) (acc : List UInt8), k = e - a → (rdG f z v a e acc).1.m = v.m ∧ (rdG f z v a e acc).1.n ≤ v.n + (e - a) := by
  intro k
  induction k using Nat.strongRecOn with
  | ind k ih =>
    intro a e v acc hk
    by_cases h : a < e ∧ 0 < z
    · have hm := md_n2 v
      cases hg : v.go with
      | true =>
        rw [rdG_go h.1 h.2 hg]
        have h3 := nxt_gt h.1 h.2
        have h4 := nxt_le (z := z) (Nat.le_of_lt h.1)
        obtain ⟨i1, i2⟩ := ih (e - nxt z a e) (by omega) (nxt z a e) e v.md _ rfl
        exact ⟨i1.trans v.md_m, by omega⟩
      | false =>
        rw [rdG_no h.1 h.2 hg]
        exact ⟨v.md_m, by dsimp only; omega⟩
    · rw [rdG, dif_neg h]
      exact ⟨rfl, by dsimp only; omega⟩
theorem wrG_sz (f z : Nat) : ∀ (k a e : Nat) (v : Pv) (b : List UInt8), k = e - a → (wrG f z v a e b).1.m.sz = v.m.sz ∧ (wrG f z v a e b).1.m.dur.length = v.m.dur.length ∧ (wrG f z v a e b).1.m.row.length ≤ v.m.row.length + (e - a) ∧ (wrG f z v a e b).1.n ≤ v.n + 2 * (e - a) := by
  intro k
  induction k using Nat.strongRecOn with
  | ind k ih =>
    intro a e v b hk
    by_cases h : a < e ∧ 0 < z
    · obtain ⟨g1, g2, g3, g4⟩ := wrC_sz v (f + a / z) (a % z) (toC z a e) z (b.take (toC z a e - a % z))
      by_cases h0 : (wrC v (f + a / z) (a % z) (toC z a e) z (b.take (toC z a e - a % z))).2 = 0
      · rw [wrG_ok h.1 h.2 h0]
        have h3 := nxt_gt h.1 h.2
        have h4 := nxt_le (z := z) (Nat.le_of_lt h.1)
        obtain ⟨i1, i2, i3, i4⟩ := ih (e - nxt z a e) (by omega) (nxt z a e) e (wrC v (f + a / z) (a % z) (toC z a e) z (b.take (toC z a e - a % z))).1 (b.drop (toC z a e - a % z)) rfl
        exact ⟨i1.trans g1, i2.trans g2, by omega, by omega⟩
      · rw [wrG_no h.1 h.2 h0]
        exact ⟨g1, g2, by omega, by omega⟩
    · rw [wrG, dif_neg h]
      exact ⟨rfl, rfl, by dsimp only; omega, by dsimp only; omega⟩
theorem hold_le {B : Nat} {a n : Int} (h : hold B a n = true) : a.toNat + n.toNat ≤ B := by
  obtain ⟨g1, g2, g3, g4⟩ := of_decide_eq_true h
  omega
theorem rdA_sz (f c z : Nat) (v : Pv) (a n : Int) : (rdA f c z v a n).1.m = v.m ∧ (rdA f c z v a n).1.n ≤ v.n + c * z := by
  unfold rdA
  split
  · rename_i h
    have := hold_le h
    obtain ⟨h1, h2⟩ := rdG_sz f z _ a.toNat (a.toNat + n.toNat) v [] rfl
    exact ⟨h1, by omega⟩
  · exact ⟨rfl, by dsimp only; omega⟩
theorem wrA_sz (f c z : Nat) (v : Pv) (a : Int) (b : List UInt8) : (wrA f c z v a b).1.m.sz = v.m.sz ∧ (wrA f c z v a b).1.m.dur.length = v.m.dur.length ∧ (wrA f c z v a b).1.m.row.length ≤ v.m.row.length + c * z ∧ (wrA f c z v a b).1.n ≤ v.n + 2 * (c * z) := by
  unfold wrA
  split
  · rename_i h
    have := hold_le h
    rw [Int.toNat_natCast] at this
    obtain ⟨h1, h2, h3, h4⟩ := wrG_sz f z _ a.toNat (a.toNat + b.length) v b rfl
    exact ⟨h1, h2, by omega, by omega⟩
  · exact ⟨rfl, rfl, by dsimp only; omega, by dsimp only; omega⟩
theorem sy_sz (v : Pv) : v.sy.m.sz = v.m.sz ∧ v.sy.m.dur.length = v.m.dur.length ∧ v.sy.m.row.length ≤ v.m.row.length ∧ v.sy.n ≤ v.n + 1 := by
  have h := md_n2 v
  unfold Pv.sy
  split
  · exact ⟨rfl, sync_len v.m, Nat.zero_le _, h⟩
  · rw [v.md_m]
    exact ⟨rfl, rfl, Nat.le_refl _, h⟩
theorem arm_sz (v : Pv) (n : Int) : (v.arm n).m = v.m ∧ (v.arm n).n = v.n := by
  unfold Pv.arm
  split <;> exact ⟨rfl, rfl⟩
theorem re_sz (v : Pv) (F : List (Int × Int)) : (v.re F).m.sz = v.m.sz ∧ (v.re F).m.dur.length = v.m.dur.length ∧ (v.re F).m.row = [] ∧ (v.re F).n = 0 := ⟨rfl, keep_len v.m F, rfl, rfl⟩
/-- what a step leaves -/
def PlayP (W : World) (x p q P Q z N n0 r0 : Nat) (e : Ending) (w' : World) : Prop :=
  ∃ v' L' M' o0' o1', e = .returned (.bool true) ∧ Wld W w' x p q P Q z N v' v' L' M' o0' o1' ∧ v'.n ≤ n0 + 2304 ∧ v'.m.row.length ≤ r0 + 1152
end Go.Proofs.Ytdmnogmhnhjdgaa
