import Derived.Test.YtfepggdljhiemaaGreatDoorSwS
import Derived.Test.YtfepggdljhiemaaGreatDoorGRi
/-! Two devices side by side, the program's and the document's, and blocks that are known whole and stand apart from both. -/
set_option linter.unusedVariables false
set_option linter.unusedSimpArgs false
set_option maxRecDepth 100000
namespace Go.Proofs.YtfepggdljhiemaaGreatDoor
open Go.RowKit Gw

structure Bw (W w : World) (p q P Q : Nat) (v u : Pv) (L M : List Nat) (Os : List (Nat × TypeId × List Value)) : Prop where
  D : Pd w p q v L
  E : Pr w P Q u M
  ap : ∀ k ∈ p :: L, k ∉ P :: M
  O : ∀ x ∈ Os, W.heap.size ≤ x.1 ∧ x.1 ∉ p :: L ∧ x.1 ∉ P :: M ∧ Blk w x.1 x.2.1 x.2.2
  m : Mod [] W w
  dn : ∀ k ∈ p :: L, W.heap.size ≤ k
  rn : ∀ k ∈ P :: M, W.heap.size ≤ k
section
variable {W w w' : World} {p q P Q : Nat} {v u v' u' : Pv} {L M L' M' G : List Nat} {O : List (Nat × TypeId × List Value)} {g : Nat} {t : TypeId} {cs : List Value}
theorem Pr.lt1 (h : Pr w p q v L) : ∀ k ∈ p :: L, k < w.heap.size := fun k hk => (List.mem_cons.1 hk).elim (fun e => e ▸ h.b.lt) (h.d.lt k)
theorem Pr.keep1 (h : Pr w p q v L) (hm : Mod G w w') (hG : ∀ k ∈ p :: L, k ∉ G) : Pr w' p q v L := h.mod hm (hG p List.mem_cons_self) (fun b hb => hG b (List.mem_cons_of_mem _ hb))
theorem Bw.keep (h : Bw W w p q P Q v u L M O) (hm : Mod G w w') (hG : ∀ k ∈ G, w.heap.size ≤ k) : Bw W w' p q P Q v u L M O :=
  ⟨h.D.keep0 hm (fun k hk hh => by have := h.D.lt0 k hk; have := hG k hh; omega), h.E.keep1 hm (fun k hk hh => by have := h.E.lt1 k hk; have := hG k hh; omega), h.ap,
    fun x hx => ⟨(h.O x hx).1, (h.O x hx).2.1, (h.O x hx).2.2.1, (h.O x hx).2.2.2.mod hm (fun hh => by have := (h.O x hx).2.2.2.lt; have := hG _ hh; omega)⟩, h.m.fresh hm (fun k hk => Nat.le_trans h.m.size (hG k hk)), h.dn, h.rn⟩
theorem Bw.ext (h : Bw W w p q P Q v u L M O) (hm : Mod [] w w') : Bw W w' p q P Q v u L M O := h.keep hm (by simp)
theorem Bw.new (h : Bw W w p q P Q v u L M O) (hm : Mod [] w w') (h1 : w.heap.size ≤ g) (hB : Blk w' g t cs) : Bw W w' p q P Q v u L M ((g, t, cs) :: O) := by
  have h2 := h.ext hm
  refine ⟨h2.D, h2.E, h2.ap, fun x hx => ?_, h2.m, h2.dn, h2.rn⟩
  rcases List.mem_cons.1 hx with e | e
  · subst e
    exact ⟨Nat.le_trans h.m.size h1, fun hh => by have := h.D.lt0 g hh; omega, fun hh => by have := h.E.lt1 g hh; omega, hB⟩
  · exact h2.O x e
theorem Bw.blk (h : Bw W w p q P Q v u L M O) (i : Nat) (hi : O[i]? = some (g, t, cs)) : Blk w g t cs := (h.O _ (List.mem_of_getElem? hi)).2.2.2
theorem Bw.outD (h : Bw W w p q P Q v u L M O) (i : Nat) (hi : O[i]? = some (g, t, cs)) : g ∉ p :: L := (h.O _ (List.mem_of_getElem? hi)).2.1
theorem Bw.outE (h : Bw W w p q P Q v u L M O) (i : Nat) (hi : O[i]? = some (g, t, cs)) : g ∉ P :: M := (h.O _ (List.mem_of_getElem? hi)).2.2.1
/-- the program's device has turned -/
theorem Bw.dt (h : Bw W w p q P Q v u L M O) (hq : PdP w p q v' L w') : ∃ L2, Bw W w' p q P Q v' u L2 M O ∧ Mod (p :: L) w w' := by
  obtain ⟨L2, h1, h2, h3⟩ := hq
  have hL2 : ∀ k ∈ p :: L2, k ∈ p :: L ∨ w.heap.size ≤ k := fun k hk => (List.mem_cons.1 hk).elim (fun e => .inl (by simp [e])) (fun h1 => (h3 k h1).imp (fun h2 => List.mem_cons_of_mem _ h2) id)
  refine ⟨L2, ⟨h1, h.E.keep1 h2 (fun k hk hh => h.ap k hh hk), fun k hk hh => ?_, fun x hx => ⟨(h.O x hx).1, fun hh => ?_, (h.O x hx).2.2.1, (h.O x hx).2.2.2.mod h2 (h.O x hx).2.1⟩, h.m.fresh h2 h.dn, fun k hk => (hL2 k hk).elim (h.dn k) (fun h1 => by have := h.m.size; omega), h.rn⟩, h2⟩
  · rcases hL2 k hk with h1 | h1
    · exact h.ap k h1 hh
    · have := h.E.lt1 k hh; omega
  · rcases hL2 _ hh with h4 | h4
    · exact (h.O x hx).2.1 h4
    · have := (h.O x hx).2.2.2.lt; omega
theorem Bw.rd (h : Bw W w p q P Q v u L M O) (hP : Pd w' p q v' L) (hm : Mod [p] w w') : Bw W w' p q P Q v' u L M O :=
  ⟨hP, h.E.keep1 hm (fun k hk hh => by have e : k = p := (by simpa using hh); subst e; exact h.ap k List.mem_cons_self hk), h.ap, fun x hx => ⟨(h.O x hx).1, (h.O x hx).2.1, (h.O x hx).2.2.1, (h.O x hx).2.2.2.mod hm (fun hh => by have e : x.1 = p := (by simpa using hh); exact (h.O x hx).2.1 (e ▸ List.mem_cons_self))⟩, h.m.fresh hm (fun k hk => by have e : k = p := (by simpa using hk); exact e ▸ h.dn p List.mem_cons_self), h.dn, h.rn⟩
/-- the document's device has turned -/
theorem Bw.rt (h : Bw W w p q P Q v u L M O) (hq : PrP w P Q u' M w') : ∃ M2, Bw W w' p q P Q v u' L M2 O ∧ Mod (P :: M) w w' := by
  obtain ⟨M2, h1, h2, h3⟩ := hq
  have hM2 : ∀ k ∈ P :: M2, k ∈ P :: M ∨ w.heap.size ≤ k := fun k hk => (List.mem_cons.1 hk).elim (fun e => .inl (by simp [e])) (fun h1 => (h3 k h1).imp (fun h2 => List.mem_cons_of_mem _ h2) id)
  refine ⟨M2, ⟨h.D.keep0 h2 h.ap, h1, fun k hk hh => ?_, fun x hx => ⟨(h.O x hx).1, (h.O x hx).2.1, fun hh => ?_, (h.O x hx).2.2.2.mod h2 (h.O x hx).2.2.1⟩, h.m.fresh h2 h.rn, h.dn, fun k hk => (hM2 k hk).elim (h.rn k) (fun h1 => by have := h.m.size; omega)⟩, h2⟩
  · rcases hM2 k hh with h1 | h1
    · exact h.ap k hk h1
    · have := h.D.lt0 k hk; omega
  · rcases hM2 _ hh with h4 | h4
    · exact (h.O x hx).2.2.1 h4
    · have := (h.O x hx).2.2.2.lt; omega
theorem Bw.rr (h : Bw W w p q P Q v u L M O) (hP : Pr w' P Q u' M) (hm : Mod [P] w w') : Bw W w' p q P Q v u' L M O :=
  ⟨h.D.keep0 hm (fun k hk hh => by have e : k = P := (by simpa using hh); subst e; exact h.ap k hk List.mem_cons_self), hP, h.ap, fun x hx => ⟨(h.O x hx).1, (h.O x hx).2.1, (h.O x hx).2.2.1, (h.O x hx).2.2.2.mod hm (fun hh => by have e : x.1 = P := (by simpa using hh); exact (h.O x hx).2.2.1 (e ▸ List.mem_cons_self))⟩, h.m.fresh hm (fun k hk => by have e : k = P := (by simpa using hk); exact e ▸ h.rn P List.mem_cons_self), h.dn, h.rn⟩
end
end Go.Proofs.YtfepggdljhiemaaGreatDoor
