import Derived.Test.YtfepggdljhiemaaGreatDoorGWl
/-! WalNumbers. -/
set_option linter.unusedVariables false
set_option linter.unusedSimpArgs false
set_option maxRecDepth 100000
namespace Go.Proofs.YtfepggdljhiemaaGreatDoor
open Go.RowKit Gw

theorem appE_yes {s : Ls} {N : Nat} {l : List UInt8} (h1 : l.length ≤ 32) (h2 : s.t ≠ 18446744073709551615) (h3 : s.u + (22 + l.length) ≤ N) : s.appE N l = 0 := by
  unfold Ls.appE
  rw [if_neg (by omega), if_pos (show s.fits N l.length = true from decide_eq_true ⟨⟨by omega, by omega⟩, h2, by omega⟩)]
theorem appE_full {s : Ls} {N : Nat} {l : List UInt8} (h1 : l.length ≤ 32) (h2 : s.t = 18446744073709551615 ∨ N < s.u + (22 + l.length)) : s.appE N l = 6 := by
  unfold Ls.appE
  rw [if_neg (by omega), if_neg]
  intro hh
  obtain ⟨_, g2, g3⟩ := of_decide_eq_true hh
  omega
theorem appE_long {s : Ls} {N : Nat} {l : List UInt8} (h : 32 < l.length) : s.appE N l = 3 := if_pos h
theorem app_no {s : Ls} {N : Nat} {l : List UInt8} (h : s.appE N l ≠ 0) : s.app N l = s ∧ s.appN N l = 0 := ⟨if_neg h, if_neg h⟩
theorem app_yes {s : Ls} {N : Nat} {l : List UInt8} (h : s.appE N l = 0) : s.app N l = s.put l ∧ s.appN N l = s.t + 1 := ⟨if_pos h, if_pos h⟩
theorem Wg.toB {W w : World} {p q P Q : Nat} {v u : Pv} {L M : List Nat} {l r h c : Nat} {bw : Value} {s : Ls} {O : List (Nat × TypeId × List Value)} (H : Wg W w p q P Q v u L M l r h c bw s O) : Bw W w p q P Q v u L M (wO0 r h p P c) :=
  ⟨H.B.D, H.B.E, H.B.ap, fun x hx => H.B.O x (List.mem_append_left _ (List.mem_cons_of_mem _ hx)), H.B.m, H.B.dn, H.B.rn⟩
theorem Bw.old {W W1 w : World} {p q P Q : Nat} {v u : Pv} {L M : List Nat} {O : List (Nat × TypeId × List Value)} (h : Bw W1 w p q P Q v u L M O) (hm : Mod [] W W1) : Bw W w p q P Q v u L M O :=
  ⟨h.D, h.E, h.ap, fun x hx => ⟨Nat.le_trans hm.size (h.O x hx).1, (h.O x hx).2⟩, hm.ext h.m, fun k hk => Nat.le_trans hm.size (h.dn k hk), fun k hk => Nat.le_trans hm.size (h.rn k hk)⟩
theorem Lg.far {w w' : World} {l r N : Nat} {bw : Value} {s : Ls} {G : List Nat} (h : Lg w l r bw s) (hm : Mod G w w') (hG : ∀ g ∈ G, N ≤ g) (hN : l < N ∧ ∀ b ∈ blks bw, b < N) : Lg w' l r bw s :=
  h.mod hm (fun hh => by have := hG l hh; omega) (fun k hk hh => by have := hG k hh; have := hN.2 k hk; omega)
theorem Lg.old {w : World} {l r : Nat} {bw : Value} {s : Ls} (h : Lg w l r bw s) : l < w.heap.size ∧ ∀ b ∈ blks bw, b < w.heap.size := ⟨h.b.lt, Ow.lt h.o⟩
theorem NoLg.ext {w w' : World} {v : Value} (h : NoLg w v) (hm : Mod [] w w') : NoLg w' v := by
  rcases h with rfl | ⟨l, c0, c1, c2, c3, c5, rfl, hb⟩
  · exact .inl rfl
  · exact .inr ⟨l, c0, c1, c2, c3, c5, rfl, hb.ext hm⟩
end Go.Proofs.YtfepggdljhiemaaGreatDoor
