import Derived.Test.YtfepggdljhiemaaGreatDoorGWl
import Derived.Test.YtfepggdljhiemaaGreatDoorGDi
import Derived.Test.YtfepggdljhiemaaGreatDoorGFl
import Derived.Test.YtfepggdljhiemaaGreatDoorFrU
/-! WalNumbers. -/
set_option linter.unusedVariables false
set_option linter.unusedSimpArgs false
set_option maxRecDepth 100000
namespace Go.Proofs.YtfepggdljhiemaaGreatDoor
open Go.RowKit Gw

theorem Bw.old {W W1 w : World} {p q P Q : Nat} {v u : Pv} {L M : List Nat} {O : List (Nat × TypeId × List Value)} (h : Bw W1 w p q P Q v u L M O) (hm : Mod [] W W1) : Bw W w p q P Q v u L M O :=
  ⟨h.D, h.E, h.ap, fun x hx => ⟨Nat.le_trans hm.size (h.O x hx).1, (h.O x hx).2⟩, hm.ext h.m, fun k hk => Nat.le_trans hm.size (h.dn k hk), fun k hk => Nat.le_trans hm.size (h.rn k hk)⟩
theorem Lg.far {w w' : World} {l r N : Nat} {bw : Value} {s : Ls} {G : List Nat} (h : Lg w l r bw s) (hm : Mod G w w') (hG : ∀ g ∈ G, N ≤ g) (hN : l < N ∧ ∀ b ∈ blks bw, b < N) : Lg w' l r bw s :=
  h.mod hm (fun hh => by have := hG l hh; omega) (fun k hk hh => by have := hG k hh; have := hN.2 k hk; omega)
theorem Lg.old {w : World} {l r : Nat} {bw : Value} {s : Ls} (h : Lg w l r bw s) : l < w.heap.size ∧ ∀ b ∈ blks bw, b < w.heap.size := ⟨h.b.lt, Ow.lt h.o⟩
theorem NoLg.ext {w w' : World} {v : Value} (h : NoLg w v) (hm : Mod [] w w') : NoLg w' v := by
  rcases h with rfl | ⟨l, c0, c1, c2, c3, c5, rfl, hb⟩
  · exact .inl rfl
  · exact .inr ⟨l, c0, c1, c2, c3, c5, rfl, hb.ext hm⟩
end Go.Proofs.YtfepggdljhiemaaGreatDoor

/-! WalRoom. -/
namespace Go.Proofs.YtfepggdljhiemaaGreatDoor
open Go.RowKit Gw

def iw (l : List Int) : List Value := l.map (Value.int .i64)
end Go.Proofs.YtfepggdljhiemaaGreatDoor

/-! Wal: bodies that were appended, listed beside the log. -/
namespace Go.Proofs.YtfepggdljhiemaaGreatDoor
open Go.RowKit Gw

theorem RowsF.take {w : World} {ao : Option Addr} {n cap k : Nat} {L : List (Value × List UInt8)} (h : RowsF w (.slice ao n cap) L) (hn : n = L.length) (hk : k ≤ n) (hc : k ≤ cap) : RowsF w (.slice ao k cap) (L.take k) := by
  subst hn
  have h2 := Sl.cut (lo := 0) (hi := k) (m := cap) h.1 (Nat.zero_le _) hk hc (Nat.le_refl _)
  have hl : (L.take k).length = k := by rw [List.length_take]; omega
  refine ⟨?_, fun x hx => h.2 x (List.mem_of_mem_take hx)⟩
  rw [hl]
  have e : (L.take k).map (·.1) = ((L.map (·.1)).drop (0 * 1)).take ((k - 0) * 1) := by rw [Nat.zero_mul, List.drop_zero, Nat.sub_zero, Nat.mul_one, List.map_take]
  rw [e]
  have e2 : ao.map (·.add (0 * 1)) = ao := by cases ao <;> simp [Addr.add]
  rw [e2] at h2
  simpa using h2
section
variable {W w w' : World} {p q P Q : Nat} {v u v' u' : Pv} {L M L' M' G : List Nat} {l r h c : Nat} {bw bw' : Value} {s s' : Ls} {O : List (Nat × TypeId × List Value)} {iv iv' : Value} {ls : List (Value × List UInt8)}
theorem Wg.rows (H : Wg W w p q P Q v u L M l r h c bw s O) (hO : InsO iv (ls.map (·.1)) O) (hB : ∀ x ∈ ls, Bs W x.1 x.2) : RowsF w iv ls := by
  have h1 := (H.ins hO).sl
  rw [List.length_map] at h1
  exact ⟨h1, fun x hx => (hB x hx).ext H.B.m⟩
end
theorem Wg.drop {W w : World} {p q P Q : Nat} {v u : Pv} {L M : List Nat} {l r h c : Nat} {bw : Value} {s : Ls} {O : List (Nat × TypeId × List Value)} (H : Wg W w p q P Q v u L M l r h c bw s O) : Wg W w p q P Q v u L M l r h c bw s [] :=
  ⟨⟨H.B.D, H.B.E, H.B.ap, fun x hx => H.B.O x (by rw [List.append_nil] at hx; exact List.mem_append_left _ hx), H.B.m, H.B.dn, H.B.rn⟩, H.o, H.a, fun y hy => nomatch hy⟩
theorem Wg.one {W w w' : World} {p q P Q : Nat} {v u : Pv} {L M : List Nat} {l r h c g : Nat} {bw : Value} {s : Ls} {O : List (Nat × TypeId × List Value)} (H : Wg W w p q P Q v u L M l r h c bw s O) (hm : Mod [g] w w') (hg : W.heap.size ≤ g) (h1 : g ∉ p :: L) (h2 : g ∉ P :: M) (h3 : g ∉ blks bw) (h4 : ∀ y ∈ wO l r h p P c bw s ++ O, y.1 ≠ g) : Wg W w' p q P Q v u L M l r h c bw s O := by
  have hk : ∀ k ∈ [g], k = g := fun k hk => by simpa using hk
  exact ⟨⟨H.B.D.keep0 hm (fun k hk' hh => h1 (hk k hh ▸ hk')), H.B.E.keep1 hm (fun k hk' hh => h2 (hk k hh ▸ hk')), H.B.ap, fun x hx => ⟨(H.B.O x hx).1, (H.B.O x hx).2.1, (H.B.O x hx).2.2.1, (H.B.O x hx).2.2.2.mod hm (fun hh => h4 x hx (hk _ hh))⟩, H.B.m.fresh hm (fun k hk' => hk k hk' ▸ hg), H.B.dn, H.B.rn⟩, H.o.mod hm (fun k hk' hh => h3 (hk k hh ▸ hk')), H.a, H.nl⟩
theorem Wg.far {W w0 w w' : World} {p q P Q : Nat} {v0 u0 v u : Pv} {L M G : List Nat} {l r h c : Nat} {bw : Value} {s : Ls} {O : List (Nat × TypeId × List Value)} (H0 : Wg W w0 p q P Q v0 u0 L M l r h c bw s O) (H : Wg W w p q P Q v u L M l r h c bw s O) (hm : Mod G w w') (hG : ∀ k ∈ G, w0.heap.size ≤ k) : Wg W w' p q P Q v u L M l r h c bw s O :=
  ⟨⟨H.B.D.keep0 hm (fun k hk hh => by have := H0.B.D.lt0 k hk; have := hG k hh; omega), H.B.E.keep1 hm (fun k hk hh => by have := H0.B.E.lt1 k hk; have := hG k hh; omega), H.B.ap, fun x hx => ⟨(H.B.O x hx).1, (H.B.O x hx).2.1, (H.B.O x hx).2.2.1, (H.B.O x hx).2.2.2.mod hm (fun hh => by have := (H0.B.O x hx).2.2.2.lt; have := hG _ hh; omega)⟩, H.B.m.fresh hm (fun k hk => by have := hG k hk; have := H0.B.m.size; omega), H.B.dn, H.B.rn⟩, H.o.mod hm (fun k hk hh => by have := Ow.lt H0.o k hk; have := hG k hh; omega), H.a, H.nl⟩
end Go.Proofs.YtfepggdljhiemaaGreatDoor

/-! WalSpares. -/
namespace Go.Proofs.YtfepggdljhiemaaGreatDoor
open Go.RowKit Gw

theorem Lt.lt {w : World} {g cap : Nat} {l : List UInt8} (h : Lt w g cap l) : g < w.heap.size := by
  obtain ⟨r, h1, _⟩ := h
  exact h1.lt
/-- what a log that took a body looks at stands apart from what is lent -/
theorem Wg.over {W w w3 w4 w5 : World} {p q P Q : Nat} {v u : Pv} {L M : List Nat} {l r h c g : Nat} {bw bw4 : Value} {s s4 : Ls} {O : List (Nat × TypeId × List Value)} (H : Wg W w p q P Q v u L M l r h c bw s O) (hg1 : w.heap.size ≤ g) (hg2 : g < w3.heap.size) (H4 : Wg W w4 p q P Q v u L M l r h c bw4 s4 O) (hn : ∀ k ∈ blks bw4, k ∈ blks bw ∨ w3.heap.size ≤ k) (hm : Mod [g] w4 w5) : Wg W w5 p q P Q v u L M l r h c bw4 s4 O := by
  refine H4.one hm (Nat.le_trans H.B.m.size hg1) (fun hh => by have := H.B.D.lt0 g hh; omega) (fun hh => by have := H.B.E.lt1 g hh; omega) (fun hh => ?_) (fun y hy e => ?_)
  · rcases hn g hh with h1 | h1
    · have := Ow.lt H.o g h1; omega
    · omega
  · have hlt : y.1 < w.heap.size := by
      rcases List.mem_append.1 hy with hy | hy
      · simp only [wO, List.mem_cons, List.not_mem_nil, or_false] at hy
        rcases hy with rfl | rfl | rfl
        · exact H.lg.b.lt
        · exact Rgn.lt H.rg
        · exact Blk.lt H.rh
      · exact (H.B.O y (List.mem_append_right _ hy)).2.2.2.lt
    omega
end Go.Proofs.YtfepggdljhiemaaGreatDoor
