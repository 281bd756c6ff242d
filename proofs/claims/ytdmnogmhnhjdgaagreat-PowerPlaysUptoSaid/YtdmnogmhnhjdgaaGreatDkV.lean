import Derived.Test.YtdmnogmhnhjdgaaGreatGDk
import Derived.Test.YtdmnogmhnhjdgaaGreatDkS
import Derived.Test.YtdmnogmhnhjdgaaGreatGOe
/-! Disks: awake. -/
set_option linter.unusedVariables false
set_option linter.unusedSimpArgs false
set_option maxRecDepth 100000
namespace Go.Proofs.YtdmnogmhnhjdgaaGreat
open Go.RowKit Gw

theorem stF : ST Tryz.prog 33 110 (.agg #[.int .i64 0, .int .i64 0]) 2 16 := ⟨Tryz.underlying33, by kernel_rfl, rfl, by decide⟩
/-- a disk that is one's own: it lies in new memory -/
def Own (w0 w : World) (p : Nat) (m : Dm) (L : List Nat) : Prop := Dk w p m L ∧ ∀ k ∈ L, w0.heap.size ≤ k
section
variable {w0 w w' : World} {p : Nat} {m : Dm} {L : List Nat}
theorem Own.ext (h : Own w0 w p m L) (hm : Mod [] w w') : Own w0 w' p m L := ⟨h.1.ext hm, h.2⟩
end
/-- what a call that turns one's own disk leaves -/
def OwnPost (w0 w : World) (p : Nat) (m' : Dm) (w' : World) (L : List Nat) : Prop := ∃ L', Own w0 w' p m' L' ∧ Mod L w w' ∧ ∀ k ∈ L', k ∈ L ∨ w.heap.size ≤ k
theorem DkPost.own {w0 w w' : World} {p : Nat} {m m' : Dm} {L : List Nat} (h : DkPost w p m' L w') (ho : Own w0 w p m L) (hs : w0.heap.size ≤ w.heap.size) : OwnPost w0 w p m' w' L := by
  obtain ⟨L', h1, h2, h3⟩ := h
  exact ⟨L', ⟨h1, fun k hk => (h3 k hk).elim (ho.2 k) (Nat.le_trans hs)⟩, h2, h3⟩
theorem Own.mod0 {w0 w w' : World} {p : Nat} {m : Dm} {L : List Nat} (h : Own w0 w p m L) (h0 : Mod [] w0 w) (hm : Mod L w w') : Mod [] w0 w' := h0.fresh hm h.2
theorem Mod.own {w0 w w' : World} {L : List Nat} (h0 : Mod [] w0 w) (hm : Mod L w w') (hL : ∀ k ∈ L, w0.heap.size ≤ k) : Mod [] w0 w' := h0.fresh hm hL
/-- bytes of one's own keep through what turns a disk that was there before -/
theorem Ob.keepL {w w1 w' : World} {v : Value} {l : List UInt8} {L : List Nat} (h : Ob w1 v l) (hm : Mod L w1 w') (hd : ∀ b ∈ blks v, b ∉ L) : Ob w' v l := Ow.mod h hm hd
theorem new_out {w : World} {v : Value} {L : List Nat} (hn : New w v) (hl : ∀ b ∈ L, b < w.heap.size) : ∀ b ∈ blks v, b ∉ L := fun b hb hL => by have := hn b hb; have := hl b hL; omega
theorem Ob.headn {w : World} {v : Value} {l : List UInt8} {n : Nat} (h : Ob w v l) (hl : l.length = n) (h0 : 0 < n) : ∃ g cap rest, v = .slice (some ⟨g, 0, none⟩) n cap ∧ Blk w g 5 (bv l ++ rest) ∧ n ≤ cap ∧ cap ≤ 9223372036854775807 ∧ (bv l ++ rest).length = cap := by
  subst hl
  exact h.head h0
/-- the tail of bytes -/
theorem Bs.tail {w : World} {g cap k : Nat} {l : List UInt8} (h : Bs w (.slice (some ⟨g, 0, none⟩) l.length cap) l) (hk : k < l.length) : Bs w (.slice (some ⟨g, k, none⟩) (l.length - k) (cap - k)) (l.drop k) := by
  have hc : l.length ≤ cap := by obtain ⟨_, _, hv, hc, _⟩ := h.form; injection hv with _ _ e; omega
  have := Sl.cut (lo := k) (hi := l.length) (m := cap) h (by omega) (by omega) hc (by omega)
  rw [if_neg (by omega)] at this
  simp only [Nat.mul_one, Addr.add, Option.map_some, Nat.zero_add] at this
  rw [show (if k = 0 then (⟨g, 0, none⟩ : Addr) else ⟨g, k, none⟩) = ⟨g, k, none⟩ by split <;> simp_all] at this
  unfold Bs
  rw [List.length_drop]
  have hb : bv (l.drop k) = (bv l).drop k := by simp [bv, List.map_drop]
  rw [hb]
  have e2 : ((bv l).drop k).take (l.length - k) = (bv l).drop k := List.take_of_length_le (by rw [List.length_drop, bv_length]; omega)
  rw [e2] at this
  exact this
theorem aw_read (a b : List UInt8) (ha : a.length = 64) (hb : b.length = 64) : ((((⟨64, List.replicate 2 (zeros 64), []⟩ : Dm).write 1 a).write 1 b).crash [(1, 0), (2, 3)]).read 1 = b.take 3 ++ a.drop 3 := by
  have e1 : tear 64 a (zeros 64) = a := by unfold tear; rw [List.take_of_length_le (by omega), List.drop_eq_nil_of_le (by simp [zeros])]; simp
  simp [Dm.crash, Dm.settle, settleD, Dm.write, stepD, Dm.read, fateK, clampN, List.zipIdx, e1]
  simp [List.replicate, e1, tear]

end Go.Proofs.YtdmnogmhnhjdgaaGreat
