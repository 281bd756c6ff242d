import Derived.Test.YtkhnemnpadhgoaaApartA
/-! Slices of bytes that lie apart, as a list; ApartBytes of them. -/
set_option linter.unusedVariables false
set_option linter.unusedSimpArgs false
set_option maxRecDepth 100000
namespace Go.Proofs.Ytkhnemnpadhgoaa
open Go.RowKit Gw

/-- rows that lie apart, none of whose blocks was there below base -/
structure Fam (w : World) (base : Nat) (L : List (Value × List UInt8)) : Prop where
  ob : ∀ p ∈ L, Ob w p.1 p.2 ∧ ∀ b ∈ blks p.1, base ≤ b
  dj : L.Pairwise fun p q => ∀ b ∈ blks p.1, b ∉ blks q.1
section
variable {w w' : World} {base : Nat} {L A B : List (Value × List UInt8)} {v : Value} {l : List UInt8}
theorem Fam.nil (w : World) (base : Nat) : Fam w base [] := ⟨fun p hp => (nomatch hp), List.Pairwise.nil⟩
theorem Fam.mod {M : List Nat} (h : Fam w base L) (hm : Mod M w w') (hM : ∀ p ∈ L, ∀ b ∈ blks p.1, b ∉ M) : Fam w' base L :=
  ⟨fun p hp => ⟨Ow.mod (h.ob p hp).1 hm (hM p hp), (h.ob p hp).2⟩, h.dj⟩
theorem Fam.ext (h : Fam w base L) (hm : Mod [] w w') : Fam w' base L := h.mod hm fun _ _ _ _ h => nomatch h
/-- what is turned is a block of other cells -/
theorem Fam.at {g : Nat} {t : TypeId} {cs : List Value} (h : Fam w base L) (hm : Mod [g] w w') (hb : Blk w g t cs) (hne : 5 ≠ t) : Fam w' base L :=
  h.mod hm fun p hp b hb2 hg => Ow.ne (h.ob p hp).1 hb hne (by have : b = g := (by simpa using hg); exact this ▸ hb2)
/-- one more, in new memory, at any place of the list -/
theorem Fam.ins (h : Fam w base (A ++ B)) (hb : base ≤ w.heap.size) (hm : Mod [] w w') (ho : Ob w' v l) (hn : New w v) : Fam w' base (A ++ (v, l) :: B) := by
  have h' := h.ext hm
  have hlt : ∀ p ∈ A ++ B, ∀ b ∈ blks p.1, b < w.heap.size := fun p hp => Ow.lt (h.ob p hp).1
  refine ⟨fun p hp => ?_, ?_⟩
  · rw [List.mem_append, List.mem_cons] at hp
    rcases hp with hp | rfl | hp
    · exact h'.ob p (List.mem_append_left _ hp)
    · exact ⟨ho, fun b hb2 => Nat.le_trans hb (hn b hb2)⟩
    · exact h'.ob p (List.mem_append_right _ hp)
  · have hd := h.dj
    rw [List.pairwise_append] at hd ⊢
    refine ⟨hd.1, List.pairwise_cons.2 ⟨fun q hq b hb1 hb2 => ?_, hd.2.1⟩, fun p hp q hq b hb1 hb2 => ?_⟩
    · have h1 := hn b hb1
      have h2 := hlt q (List.mem_append_right _ hq) b hb2
      omega
    · rcases List.mem_cons.1 hq with rfl | hq
      · have h1 := hn b hb2
        have h2 := hlt p (List.mem_append_left _ hp) b hb1
        omega
      · exact hd.2.2 p hp q hq b hb1 hb2
/-- the same behind a call that turned more -/
theorem Fam.ins2 (h : Fam w base (A ++ B)) (h' : Fam w' base (A ++ B)) (hb : base ≤ w.heap.size) (ho : Ob w' v l) (hn : New w v) : Fam w' base (A ++ (v, l) :: B) := by
  have hlt : ∀ p ∈ A ++ B, ∀ b ∈ blks p.1, b < w.heap.size := fun p hp => Ow.lt (h.ob p hp).1
  refine ⟨fun p hp => ?_, ?_⟩
  · rw [List.mem_append, List.mem_cons] at hp
    rcases hp with hp | rfl | hp
    · exact h'.ob p (List.mem_append_left _ hp)
    · exact ⟨ho, fun b hb2 => Nat.le_trans hb (hn b hb2)⟩
    · exact h'.ob p (List.mem_append_right _ hp)
  · have hd := h.dj
    rw [List.pairwise_append] at hd ⊢
    refine ⟨hd.1, List.pairwise_cons.2 ⟨fun q hq b hb1 hb2 => ?_, hd.2.1⟩, fun p hp q hq b hb1 hb2 => ?_⟩
    · have h1 := hn b hb1
      have h2 := hlt q (List.mem_append_right _ hq) b hb2
      omega
    · rcases List.mem_cons.1 hq with rfl | hq
      · have h1 := hn b hb2
        have h2 := hlt p (List.mem_append_left _ hp) b hb1
        omega
      · exact hd.2.2 p hp q hq b hb1 hb2
theorem Fam.sub (h : Fam w base (A ++ B)) : Fam w base A := ⟨fun p hp => h.ob p (List.mem_append_left _ hp), (List.pairwise_append.1 h.dj).1⟩
theorem getD_mem {α : Type} (d : α) (l : List α) (a : Nat) (h : a < l.length) : l.getD a d ∈ l := by
  rw [List.getD_eq_getElem?_getD, List.getElem?_eq_getElem h]
  exact List.getElem_mem h
theorem Fam.dj' (h : Fam w base L) (d : Value × List UInt8) : Dj L.length fun a => (L.getD a d).1 := by
  have hp := List.pairwise_iff_getElem.1 h.dj
  intro a b ha hb hab k hk hk2
  have ea : L.getD a d = L[a] := by rw [List.getD_eq_getElem?_getD, List.getElem?_eq_getElem ha]; rfl
  have eb : L.getD b d = L[b] := by rw [List.getD_eq_getElem?_getD, List.getElem?_eq_getElem hb]; rfl
  dsimp only at hk hk2
  rw [ea] at hk
  rw [eb] at hk2
  rcases Nat.lt_or_gt_of_ne hab with h1 | h1
  · exact hp a b ha hb h1 k hk hk2
  · exact hp b a hb ha h1 k hk2 hk
theorem rc_getD (d : Value × List UInt8) (L : List (Value × List UInt8)) : rc (fun a => (L.getD a d).1) L.length = L.map (·.1) := by
  apply List.ext_getElem?
  intro i
  by_cases hi : i < L.length
  · rw [rc_at _ hi, List.getElem?_map, List.getElem?_eq_getElem hi, List.getD_eq_getElem?_getD, List.getElem?_eq_getElem hi]
    rfl
  · rw [List.getElem?_eq_none (by rw [rc_length]; omega), List.getElem?_eq_none (by simp; omega)]
end

theorem apart_fam (L : List (Value × List UInt8)) (base N : Nat) (lv : Value) (w : World) (hN0 : L.length = N) (hl : Sl w 1 lv N (L.map (·.1))) (hf : Fam w base L) (hN : N ≤ 1048576) (hb : ∀ p ∈ L, p.2.length ≤ 140737488355000) :
    Calls Try.prog 18 #[lv] w fun e w' => e = .returned (.bool true) ∧ ∃ M, Mod M w w' ∧ ∀ b ∈ M, ∃ p ∈ L, b ∈ blks p.1 := by
  subst hN0
  let d : Value × List UInt8 := (.slice none 0 0, [])
  refine (apartBytes_any (fun a => (L.getD a d).1) (fun a => (L.getD a d).2) (fun a => (L.getD a d).2.length) L.length lv w (by rw [rc_getD]; exact hl) (fun a ha => (hf.ob _ (getD_mem d L a ha)).1) (hf.dj' d) hN (fun _ => rfl) (fun a ha => hb _ (getD_mem d L a ha))).mono fun e w' ⟨h1, h2⟩ => ⟨h1, _, h2, fun b hb2 => ?_⟩
  obtain ⟨a, ha, hb3⟩ := of_LB hb2
  exact ⟨_, getD_mem d L a ha, hb3⟩

/-- the walk of Pick -/
def pick (x n : Int) : Int := if n < 1 then 0 else if x.tmod n < 0 then x.tmod n + n else x.tmod n
theorem pick_ge (x n : Int) : 0 ≤ pick x n := by
  unfold pick
  split
  · exact Int.le_refl _
  · rename_i h
    have := Int.lt_tmod_of_pos x (show 0 < n by omega)
    split <;> omega
theorem pick_lt (x n : Int) (h : 1 ≤ n) : pick x n < n := by
  unfold pick
  rw [if_neg (by omega)]
  have := Int.tmod_lt_of_pos x (show 0 < n by omega)
  split <;> omega
end Go.Proofs.Ytkhnemnpadhgoaa
