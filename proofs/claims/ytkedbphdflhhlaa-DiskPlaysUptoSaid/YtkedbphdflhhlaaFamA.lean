import Derived.Test.YtkedbphdflhhlaaOctC
/-! Slices of bytes that lie apart, as a list. -/
set_option linter.unusedVariables false
set_option linter.unusedSimpArgs false
set_option maxRecDepth 100000
namespace Go.Proofs.Ytkedbphdflhhlaa
open Go.RowKit Gw

/-- rows that lie apart, none of whose blocks was there below base -/
structure Fam (w : World) (base : Nat) (L : List (Value × List UInt8)) : Prop where
  ob : ∀ p ∈ L, Ob w p.1 p.2 ∧ ∀ b ∈ blks p.1, base ≤ b
  dj : L.Pairwise fun p q => ∀ b ∈ blks p.1, b ∉ blks q.1
section
variable {w w' : World} {base : Nat} {L A B : List (Value × List UInt8)} {v : Value} {l : List UInt8}
theorem Fam.nil (w : World) (base : Nat) : Fam w base [] := ⟨fun p hp => (nomatch hp), List.Pairwise.nil⟩
theorem Fam.mod {M : List Nat} (h : Fam w base L) (hm : Mod M w w') (hM : ∀ p ∈ L, ∀ b ∈ blks p.1, b ∉ M) : Fam w' base L :=
  ⟨fun p hp => ⟨Ow.mod (h.ob p hp).1 hm (hM p hp), (h.ob p hp).2⟩, h.dj⟩
theorem Fam.ext (h : Fam w base L) (hm : Mod [] w w') : Fam w' base L := h.mod hm fun _ _ _ _ h => nomatch h
/-- what is turned is a block of other cells -/
theorem Fam.at {g : Nat} {t : TypeId} {cs : List Value} (h : Fam w base L) (hm : Mod [g] w w') (hb : Blk w g t cs) (hne : 5 ≠ t) : Fam w' base L :=
  h.mod hm fun p hp b hb2 hg => Ow.ne (h.ob p hp).1 hb hne (by have : b = g := (by simpa using hg); exact this ▸ hb2)
/-- one more, in new memory, at any place of the list -/
theorem Fam.ins (h : Fam w base (A ++ B)) (hb : base ≤ w.heap.size) (hm : Mod [] w w') (ho : Ob w' v l) (hn : New w v) : Fam w' base (A ++ (v, l) :: B) := by
  have h' := h.ext hm
  have hlt : ∀ p ∈ A ++ B, ∀ b ∈ blks p.1, b < w.heap.size := fun p hp => Ow.lt (h.ob p hp).1
  refine ⟨fun p hp => ?_, ?_⟩
  · rw [List.mem_append, List.mem_cons] at hp
    rcases hp with hp | rfl | hp
    · exact h'.ob p (List.mem_append_left _ hp)
    · exact ⟨ho, fun b hb2 => Nat.le_trans hb (hn b hb2)⟩
    · exact h'.ob p (List.mem_append_right _ hp)
  · have hd := h.dj
    rw [List.pairwise_append] at hd ⊢
    refine ⟨hd.1, List.pairwise_cons.2 ⟨fun q hq b hb1 hb2 => ?_, hd.2.1⟩, fun p hp q hq b hb1 hb2 => ?_⟩
    · have h1 := hn b hb1
      have h2 := hlt q (List.mem_append_right _ hq) b hb2
      omega
    · rcases List.mem_cons.1 hq with rfl | hq
      · have h1 := hn b hb2
        have h2 := hlt p (List.mem_append_left _ hp) b hb1
        omega
      · exact hd.2.2 p hp q hq b hb1 hb2
/-- the same behind a call that turned more -/
theorem Fam.ins2 (h : Fam w base (A ++ B)) (h' : Fam w' base (A ++ B)) (hb : base ≤ w.heap.size) (ho : Ob w' v l) (hn : New w v) : Fam w' base (A ++ (v, l) :: B) := by
  have hlt : ∀ p ∈ A ++ B, ∀ b ∈ blks p.1, b < w.heap.size := fun p hp => Ow.lt (h.ob p hp).1
  refine ⟨fun p hp => ?_, ?_⟩
  · rw [List.mem_append, List.mem_cons] at hp
    rcases hp with hp | rfl | hp
    · exact h'.ob p (List.mem_append_left _ hp)
    · exact ⟨ho, fun b hb2 => Nat.le_trans hb (hn b hb2)⟩
    · exact h'.ob p (List.mem_append_right _ hp)
  · have hd := h.dj
    rw [List.pairwise_append] at hd ⊢
    refine ⟨hd.1, List.pairwise_cons.2 ⟨fun q hq b hb1 hb2 => ?_, hd.2.1⟩, fun p hp q hq b hb1 hb2 => ?_⟩
    · have h1 := hn b hb1
      have h2 := hlt q (List.mem_append_right _ hq) b hb2
      omega
    · rcases List.mem_cons.1 hq with rfl | hq
      · have h1 := hn b hb2
        have h2 := hlt p (List.mem_append_left _ hp) b hb1
        omega
      · exact hd.2.2 p hp q hq b hb1 hb2
theorem Fam.sub (h : Fam w base (A ++ B)) : Fam w base A := ⟨fun p hp => h.ob p (List.mem_append_left _ hp), (List.pairwise_append.1 h.dj).1⟩
end
end Go.Proofs.Ytkedbphdflhhlaa
