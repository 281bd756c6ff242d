import Derived.Test.YtkedbphdflhhlaaDkC
/-! The reference's disks: how they lie in memory, and what a step makes of one. -/
set_option linter.unusedVariables false
set_option linter.unusedSimpArgs false
set_option maxRecDepth 100000
namespace Go.Proofs.Ytkedbphdflhhlaa
open Go.RowKit Gw

theorem stKW : ST Try.prog 104 150 (.agg #[.int .i64 0, .slice none 0 0]) 2 32 := ⟨Try.underlying104, by kernel_rfl, rfl, by decide⟩
structure RkB (w : World) (p : Nat) (D R : Value) (dp : List (Value × List UInt8)) (rp : List (Nat × Value × List UInt8)) : Prop where
  blk : Blk w p 106 [D, R]
  dur : Ow w 23 1 D dp.length (dp.map (·.1))
  row : Ow w 150 2 R rp.length (wcells rp)
  fam : Fam w 0 (dp ++ rp.map (·.2))
def fpR (p : Nat) (D R : Value) (dp : List (Value × List UInt8)) (rp : List (Nat × Value × List UInt8)) : List Nat := p :: (blks D ++ blks R ++ (dp ++ rp.map (·.2)).flatMap fun x => blks x.1)
section
variable {w w' : World} {p : Nat} {D R : Value} {dp : List (Value × List UInt8)} {rp : List (Nat × Value × List UInt8)} {L : List Nat}
theorem RkB.mod (h : RkB w p D R dp rp) (hm : Mod L w w') (hL : ∀ b ∈ fpR p D R dp rp, b ∉ L) : RkB w' p D R dp rp := by
  unfold fpR at hL
  exact ⟨h.blk.mod hm (hL p (by simp)), h.dur.mod hm (fun b hb => hL b (by simp [hb])), h.row.mod hm (fun b hb => hL b (by simp [hb])),
    h.fam.mod hm fun q hq b hb => hL b (List.mem_cons_of_mem _ (List.mem_append_right _ (List.mem_flatMap.2 ⟨q, hq, hb⟩)))⟩
theorem RkB.ext (h : RkB w p D R dp rp) (hm : Mod [] w w') : RkB w' p D R dp rp := h.mod hm (by simp)
theorem RkB.lt (h : RkB w p D R dp rp) : ∀ b ∈ fpR p D R dp rp, b < w.heap.size := by
  intro b hb
  unfold fpR at hb
  rcases List.mem_cons.1 hb with rfl | hb
  · exact h.blk.lt
  rcases List.mem_append.1 hb with hb | hb
  · rcases List.mem_append.1 hb with hb | hb
    · exact h.dur.lt b hb
    · exact h.row.lt b hb
  · obtain ⟨q, hq, hb⟩ := List.mem_flatMap.1 hb
    exact Ow.lt (h.fam.ob q hq).1 b hb
end
/-- a disk of the reference, in the blocks L -/
def Rk (w : World) (p : Nat) (m : Dm) (L : List Nat) : Prop := ∃ D R dp rp, RkB w p D R dp rp ∧ m = Dm.of m.sz dp rp ∧ L = fpR p D R dp rp
section
variable {w w' : World} {p : Nat} {m : Dm} {L L2 : List Nat}
theorem Rk.mod (h : Rk w p m L) (hm : Mod L2 w w') (hL : ∀ b ∈ L, b ∉ L2) : Rk w' p m L := by
  obtain ⟨D, R, dp, rp, h1, h2, h3⟩ := h
  exact ⟨D, R, dp, rp, h1.mod hm (h3 ▸ hL), h2, h3⟩
theorem Rk.ext (h : Rk w p m L) (hm : Mod [] w w') : Rk w' p m L := h.mod hm (by simp)
theorem Rk.lt (h : Rk w p m L) : ∀ b ∈ L, b < w.heap.size := by
  obtain ⟨D, R, dp, rp, h1, h2, rfl⟩ := h
  exact h1.lt
theorem Rk.blk (h : Rk w p m L) : ∃ D R, Blk w p 106 [D, R] ∧ (∃ ao cap, D = .slice ao m.dur.length cap ∧ m.dur.length ≤ cap) ∧ ∃ ao cap, R = .slice ao m.row.length cap ∧ m.row.length ≤ cap := by
  obtain ⟨D, R, dp, rp, h1, h2, h3⟩ := h
  obtain ⟨ao, cap, hD, hc, _⟩ := h1.dur.sl.form
  obtain ⟨ao', cap', hR, hc', _⟩ := h1.row.sl.form
  have e1 : m.dur.length = dp.length := by rw [h2]; simp [Dm.of]
  have e2 : m.row.length = rp.length := by rw [h2]; simp [Dm.of]
  refine ⟨D, R, h1.blk, ⟨ao, cap, by rw [e1]; exact hD, by omega⟩, ⟨ao', cap', by rw [e2]; exact hR, by omega⟩⟩
end
def RkPost (w : World) (p : Nat) (m' : Dm) (L : List Nat) (w' : World) : Prop := ∃ L', Rk w' p m' L' ∧ Mod L w w' ∧ ∀ k ∈ L', k ∈ L ∨ w.heap.size ≤ k
section
variable {w0 w3 w4 w5 : World} {p : Nat} {D R v : Value} {dp : List (Value × List UInt8)} {rp : List (Nat × Value × List UInt8)} {l : List UInt8}
theorem RkB.sector {D' : Value} (h : RkB w0 p D R dp rp) (hm3 : Mod [] w0 w3) (ho : Ob w3 v l) (hn : New w0 v) (hD : Ow w4 23 1 D' (dp.length + 1) (dp.map (·.1) ++ [v])) (hm4 : Mod (blks D) w3 w4) (hb4 : ∀ k ∈ blks D', k ∈ blks D ∨ w3.heap.size ≤ k)
    (hm5 : Mod [p] w4 w5) (hB : Blk w5 p 106 [D', R]) :
    RkB w5 p D' R (dp ++ [(v, l)]) rp ∧ (∀ k ∈ fpR p D' R (dp ++ [(v, l)]) rp, k ∈ fpR p D R dp rp ∨ w0.heap.size ≤ k) ∧ Mod (fpR p D R dp rp) w0 w5 := by
  have h3 := h.ext hm3
  have hp4 : Blk w4 p 106 _ := h3.blk.mod hm4 (Ow.ne h3.dur h3.blk (by decide))
  have hf3 : Fam w3 0 (dp ++ (v, l) :: rp.map (·.2)) := Fam.ins h.fam (Nat.zero_le _) hm3 ho hn
  have hf4 := hf3.atOw h3.dur hm4 (by decide)
  have hr4 : Ow w4 150 2 R rp.length (wcells rp) := h3.row.mod hm4 (Ow.disj h3.row h3.dur (by decide))
  refine ⟨⟨hB, ?_, hr4.mod hm5 (fun b hb hg => Ow.ne hr4 hp4 (by decide) (by have : b = p := (by simpa using hg); exact this ▸ hb)), ?_⟩, ?_, ?_⟩
  · have := hD.mod hm5 (fun b hb hg => Ow.ne hD hp4 (by decide) (by have : b = p := (by simpa using hg); exact this ▸ hb))
    simpa using this
  · have := hf4.at hm5 hp4 (by decide)
    simpa using this
  · intro k hk
    unfold fpR at hk ⊢
    simp only [List.mem_cons, List.mem_append, List.mem_flatMap] at hk ⊢
    rcases hk with hk | (hk | hk) | ⟨x, hx, hk⟩
    · exact .inl (.inl hk)
    · rcases hb4 k hk with hk | hk
      · exact .inl (.inr (.inl (.inl hk)))
      · exact .inr (Nat.le_trans hm3.size hk)
    · exact .inl (.inr (.inl (.inr hk)))
    · rcases hx with (hx | hx | hx) | hx
      · exact .inl (.inr (.inr ⟨x, .inl hx, hk⟩))
      · subst hx; exact .inr (hn k hk)
      · cases hx
      · exact .inl (.inr (.inr ⟨x, .inr hx, hk⟩))
  · exact ((hm3.weak (by simp)).then hm4 (fun g hg => .inl (by simp [fpR, hg]))).then hm5 (fun g hg => .inl (by have : g = p := (by simpa using hg); simp [fpR, this]))
theorem RkB.wait {R' : Value} {at_ : Nat} (h : RkB w0 p D R dp rp) (hm3 : Mod [] w0 w3) (ho : Ob w3 v l) (hn : New w0 v) (hR : Ow w4 150 2 R' (rp.length + 1) (wcells rp ++ [.int .i64 (at_ : Nat), v])) (hm4 : Mod (blks R) w3 w4) (hb4 : ∀ k ∈ blks R', k ∈ blks R ∨ w3.heap.size ≤ k)
    (hm5 : Mod [p] w4 w5) (hB : Blk w5 p 106 [D, R']) :
    RkB w5 p D R' dp (rp ++ [(at_, v, l)]) ∧ (∀ k ∈ fpR p D R' dp (rp ++ [(at_, v, l)]), k ∈ fpR p D R dp rp ∨ w0.heap.size ≤ k) ∧ Mod (fpR p D R dp rp) w0 w5 := by
  have h3 := h.ext hm3
  have hp4 : Blk w4 p 106 _ := h3.blk.mod hm4 (Ow.ne h3.row h3.blk (by decide))
  have hf3 : Fam w3 0 ((dp ++ rp.map (·.2)) ++ (v, l) :: []) := Fam.ins (by simpa using h.fam) (Nat.zero_le _) hm3 ho hn
  have hf4 := hf3.atOw h3.row hm4 (by decide)
  have hf5 := hf4.at hm5 hp4 (by decide)
  have hd4 : Ow w4 23 1 D dp.length (dp.map (·.1)) := h3.dur.mod hm4 (Ow.disj h3.dur h3.row (by decide))
  have hd5 := hd4.mod hm5 (fun b hb hg => Ow.ne hd4 hp4 (by decide) (by have : b = p := (by simpa using hg); exact this ▸ hb))
  have hR5 := hR.mod hm5 (fun b hb hg => Ow.ne hR hp4 (by decide) (by have : b = p := (by simpa using hg); exact this ▸ hb))
  refine ⟨⟨hB, hd5, ?_, ?_⟩, ?_, ?_⟩
  · rw [wcells_app]
    simpa [wcells] using hR5
  · simpa using hf5
  · intro k hk
    unfold fpR at hk ⊢
    simp only [List.mem_cons, List.mem_append, List.mem_flatMap, List.map_append, List.map_cons, List.map_nil] at hk ⊢
    rcases hk with hk | (hk | hk) | ⟨x, hx, hk⟩
    · exact .inl (.inl hk)
    · exact .inl (.inr (.inl (.inl hk)))
    · rcases hb4 k hk with hk | hk
      · exact .inl (.inr (.inl (.inr hk)))
      · exact .inr (Nat.le_trans hm3.size hk)
    · rcases hx with hx | hx | hx | hx
      · exact .inl (.inr (.inr ⟨x, .inl hx, hk⟩))
      · exact .inl (.inr (.inr ⟨x, .inr hx, hk⟩))
      · subst hx; exact .inr (hn k hk)
      · cases hx
  · exact ((hm3.weak (by simp)).then hm4 (fun g hg => .inl (by simp [fpR, hg]))).then hm5 (fun g hg => .inl (by have : g = p := (by simpa using hg); simp [fpR, this]))
theorem RkB.turn {w w' : World} {i : Nat} {l' : List UInt8} (h : RkB w p D R dp rp) (hi : i < dp.length) (hm : Mod (blks dp[i].1) w w') (ho : Ob w' dp[i].1 l') :
    RkB w' p D R (dp.set i (dp[i].1, l')) rp ∧ fpR p D R (dp.set i (dp[i].1, l')) rp = fpR p D R dp rp ∧ Mod (fpR p D R dp rp) w w' := by
  have e1 : dp = dp.take i ++ (dp[i].1, dp[i].2) :: dp.drop (i + 1) := by
    have := List.take_append_drop i dp
    rw [List.drop_eq_getElem_cons hi] at this
    exact this.symm
  have e2 : dp.set i (dp[i].1, l') = dp.take i ++ (dp[i].1, l') :: dp.drop (i + 1) := by
    rw [List.set_eq_take_append_cons_drop, if_pos hi]
  have hob : Ob w dp[i].1 dp[i].2 := (h.fam.ob dp[i] (List.mem_append_left _ (List.getElem_mem hi))).1
  have hf : Fam w 0 (dp.take i ++ (dp[i].1, dp[i].2) :: (dp.drop (i + 1) ++ rp.map (·.2))) := by
    have := h.fam
    rw [e1] at this
    simpa using this
  have hf' := hf.upd hm ho
  have hmap : (dp.set i (dp[i].1, l')).map (·.1) = dp.map (·.1) := by
    rw [List.map_set]
    apply List.ext_getElem?
    intro j
    rw [List.getElem?_set]
    split
    · subst_vars; simp [hi]
    · rfl
  have hfl : (dp.set i (dp[i].1, l') ++ rp.map (·.2)).flatMap (fun x => blks x.1) = (dp ++ rp.map (·.2)).flatMap (fun x => blks x.1) := by
    rw [List.flatMap_append, List.flatMap_append]
    congr 1
    rw [List.flatMap_def, List.flatMap_def]
    congr 1
    have := congrArg (List.map blks) hmap
    simpa [Function.comp_def] using this
  refine ⟨⟨h.blk.mod hm (Ow.ne hob h.blk (by decide)), ?_, h.row.mod hm (fun b hb hb2 => Ow.disj h.row hob (by decide) b hb hb2), ?_⟩, ?_, ?_⟩
  · rw [hmap, List.length_set]
    exact h.dur.mod hm (fun b hb hb2 => Ow.disj h.dur hob (by decide) b hb hb2)
  · rw [e2]
    simpa using hf'
  · unfold fpR; rw [hfl]
  · exact hm.weak fun g hg => .inl (by
      unfold fpR
      refine List.mem_cons_of_mem _ (List.mem_append_right _ (List.mem_flatMap.2 ⟨dp[i], List.mem_append_left _ (List.getElem_mem hi), hg⟩)))
theorem RkB.clear {w w1 : World} (h : RkB w p D R dp rp) (hm1 : Mod [p] w w1) (hB : Blk w1 p 106 [D, .slice none 0 0]) :
    RkB w1 p D (.slice none 0 0) dp [] ∧ (∀ k ∈ fpR p D (.slice none 0 0) dp [], k ∈ fpR p D R dp rp) ∧ Mod (fpR p D R dp rp) w w1 := by
  have hf : Fam w 0 dp := h.fam.sub
  have hf1 := hf.at hm1 h.blk (by decide)
  have hd1 := h.dur.mod hm1 (fun b hb hg => Ow.ne h.dur h.blk (by decide) (by have : b = p := (by simpa using hg); exact this ▸ hb))
  refine ⟨⟨hB, hd1, Ow.nil _ _ _, by simpa using hf1⟩, ?_, ?_⟩
  · intro k hk
    unfold fpR at hk ⊢
    simp only [List.mem_cons, List.mem_append, List.mem_flatMap, List.map_nil, List.append_nil] at hk ⊢
    rcases hk with hk | (hk | hk) | ⟨x, hx, hk⟩
    · exact .inl hk
    · exact .inr (.inl (.inl hk))
    · simp [blks] at hk
    · exact .inr (.inr ⟨x, .inl hx, hk⟩)
  · exact hm1.weak (fun g hg => .inl (by have : g = p := (by simpa using hg); simp [fpR, this]))
end
end Go.Proofs.Ytkedbphdflhhlaa
