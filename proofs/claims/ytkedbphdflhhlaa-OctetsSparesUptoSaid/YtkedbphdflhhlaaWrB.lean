import Derived.Test.YtkedbphdflhhlaaWrA
set_option linter.unusedVariables false
set_option linter.unusedSimpArgs false
set_option maxRecDepth 100000
namespace Go.Proofs.Ytkedbphdflhhlaa
open Go.RowKit Gw

theorem low_mod (n k : Nat) : low (n % 256 ^ k) k = low n k := by
  unfold low
  apply List.map_congr_left
  intro i hi
  have hik : i < k := by simpa using hi
  apply UInt8.toNat_inj.1
  rw [UInt8.toNat_ofNat', UInt8.toNat_ofNat']
  obtain ⟨d, rfl⟩ : ∃ d, k = i + 1 + d := ⟨k - (i + 1), by omega⟩
  rw [show (256 : Nat) ^ (i + 1 + d) = 256 ^ i * (256 * 256 ^ d) by rw [Nat.pow_add, Nat.pow_succ, Nat.mul_assoc]]
  rw [Nat.mod_mul_right_div_self, Nat.mod_mul_right_mod]

/-- a writer that has E, a list F of the law's own, other blocks B: apart from one another, all new since w -/
structure WS (w wr : World) (g : Nat) (v u : Value) (B : List Nat) (E F : List UInt8) : Prop where
  mod : Mod [] w wr
  wv : Wv wr g v E
  gs : w.heap.size ≤ g
  ow : Ob wr u F
  ou : New w u
  sep : E ≠ [] → ∀ k ∈ blks v, k ∉ blks u
  av : ∀ b ∈ B, b ≠ g ∧ b ∉ blks u ∧ (E ≠ [] → b ∉ blks v) ∧ b < wr.heap.size ∧ w.heap.size ≤ b

theorem bv_ne {l : List UInt8} (h : l ≠ []) : bv l ≠ [] := by
  intro h0
  exact h (List.eq_nil_of_length_eq_zero (by rw [← bv_length, h0]; rfl))
theorem ne_bv {l : List UInt8} (h : bv l ≠ []) : l ≠ [] := by rintro rfl; exact h rfl
theorem Bs.lt {w : World} {v : Value} {l : List UInt8} (h : Bs w v l) (hl : l ≠ []) : ∀ b ∈ blks v, b < w.heap.size := Sl.lt h (bv_ne hl)
theorem ne_types : 5 ≠ 25 := by decide

section
variable {w wr w' : World} {g : Nat} {v u : Value} {B : List Nat} {E F : List UInt8}
theorem WS.glt (h : WS w wr g v u B E F) : g < wr.heap.size := h.wv.1.lt
theorem WS.gu (h : WS w wr g v u B E F) : g ∉ blks u := Ow.ne h.ow h.wv.1 ne_types
theorem WS.ext (h : WS w wr g v u B E F) (hm : Mod [] wr w') : WS w w' g v u B E F :=
  { h with mod := h.mod.ext hm, wv := h.wv.ext hm, ow := h.ow.ext hm, av := fun b hb => ⟨(h.av b hb).1, (h.av b hb).2.1, (h.av b hb).2.2.1, Nat.lt_of_lt_of_le (h.av b hb).2.2.2.1 hm.size, (h.av b hb).2.2.2.2⟩ }
theorem WS.put {E' : List UInt8} {e : Ending} (h : WS w wr g v u B E F) (hp : PutV wr g v E E' e w') : ∃ v', WS w w' g v' u B E' F := by
  obtain ⟨_, v', hw', hl, hm⟩ := hp
  refine ⟨v', h.mod.fresh hm (by simpa using h.gs), hw', h.gs, Ow.mod h.ow hm (fun b hb hg => ?_), h.ou, fun hE k hk => ?_, fun b hb => ?_⟩
  · have : b = g := by simpa using hg
    exact h.gu (this ▸ hb)
  · rcases hl with ⟨h1, rfl⟩ | h1
    · exact h.sep hE k (h1 k hk)
    · intro hu
      have := Ow.lt h.ow k hu
      have := h1 k hk
      omega
  · obtain ⟨h1, h2, h3, h4, h5⟩ := h.av b hb
    refine ⟨h1, h2, fun hE hk => ?_, Nat.lt_of_lt_of_le h4 hm.size, h5⟩
    rcases hl with ⟨h6, rfl⟩ | h6
    · exact h3 hE (h6 b hk)
    · have := h6 b hk
      omega
theorem WS.app {u' : Value} {F' : List UInt8} (h : WS w wr g v u B E F) (ho : Ob w' u' F') (hm : Mod (blks u) wr w') (hn : ∀ k ∈ blks u', k ∈ blks u ∨ wr.heap.size ≤ k) : WS w w' g v u' B E F' := by
  refine ⟨h.mod.fresh hm h.ou, ⟨h.wv.1.mod hm h.gu, Sl.keep h.wv.2 fun b hb hx => hm.block b (Sl.lt h.wv.2 hx b hb) (h.sep (ne_bv hx) b hb)⟩, h.gs, ho, fun k hk => ?_, fun hE k hk hu => ?_, fun b hb => ?_⟩
  · rcases hn k hk with h1 | h1
    · exact h.ou k h1
    · exact Nat.le_trans h.mod.size h1
  · rcases hn k hu with h1 | h1
    · exact h.sep hE k hk h1
    · have := Bs.lt h.wv.2 hE k hk
      omega
  · obtain ⟨h1, h2, h3, h4, h5⟩ := h.av b hb
    refine ⟨h1, fun hu => ?_, h3, Nat.lt_of_lt_of_le h4 hm.size, h5⟩
    rcases hn b hu with h6 | h6
    · exact h2 h6
    · omega
/-- a block more -/
theorem WS.more {b : Nat} (h : WS w wr g v u B E F) (hm : Mod [] wr w') (hb : wr.heap.size ≤ b) (hb2 : b < w'.heap.size) : WS w w' g v u (b :: B) E F := by
  have h' := h.ext hm
  refine { h' with av := fun c hc => ?_ }
  rcases List.mem_cons.1 hc with rfl | hc
  · have := h.glt
    refine ⟨by omega, fun hu => ?_, fun hE hv => ?_, hb2, Nat.le_trans h.mod.size hb⟩
    · have := Ow.lt h.ow c hu; omega
    · have := Bs.lt h.wv.2 hE c hv; omega
  · exact h'.av c hc
/-- what one of those blocks holds is turned -/
theorem WS.over {b : Nat} (h : WS w wr g v u B E F) (hm : Mod [b] wr w') (hb : b ∈ B) : WS w w' g v u B E F := by
  obtain ⟨h1, h2, h3, h4, h5⟩ := h.av b hb
  refine { h with mod := h.mod.fresh hm (by simpa using h5), wv := ⟨h.wv.1.mod hm (by simpa using Ne.symm h1), Sl.keep h.wv.2 fun k hk hx => hm.block k (Sl.lt h.wv.2 hx k hk) fun hkb => h3 (ne_bv hx) ?_⟩, ow := Ow.mod h.ow hm fun k hk hkb => h2 ?_, av := fun c hc => ?_ }
  · have : k = b := by simpa using hkb
    exact this ▸ hk
  · have : k = b := by simpa using hkb
    exact this ▸ hk
  · obtain ⟨h1, h2, h3, h4, h5⟩ := h.av c hc
    exact ⟨h1, h2, h3, Nat.lt_of_lt_of_le h4 hm.size, h5⟩
theorem WS.none (h : WS w wr g v u B E F) : WS w wr g v u [] E F := { h with av := fun b hb => nomatch hb }
/-- the writer goes on as a copy of itself, and something is put into the elder one -/
theorem WS.twin {g2 : Nat} {w2 : World} {E' : List UInt8} {e : Ending} (h : WS w wr g v u B E F) (hm : Mod [] wr w') (hg : wr.heap.size ≤ g2) (hb : Blk w' g2 25 [v]) (hp : PutV w' g v E E' e w2) : WS w w2 g2 v u [] E F := by
  obtain ⟨_, v', hw', hl, hm2⟩ := hp
  have h' := h.ext hm
  have hne := h.glt
  obtain ⟨ao, cap, hv, _, _⟩ := Sl.form h.wv.2
  refine ⟨h'.mod.fresh hm2 (by simpa using h.gs), ⟨hb.mod hm2 (by simp; omega), h'.wv.2.keepAt h'.wv.1 (by rw [hv]; simp) hm2⟩, Nat.le_trans h.mod.size hg, Ow.mod h'.ow hm2 (fun b hb hgb => ?_), h.ou, h.sep, fun b hb => by cases hb⟩
  have : b = g := by simpa using hgb
  exact h'.gu (this ▸ hb)
end
end Go.Proofs.Ytkedbphdflhhlaa
