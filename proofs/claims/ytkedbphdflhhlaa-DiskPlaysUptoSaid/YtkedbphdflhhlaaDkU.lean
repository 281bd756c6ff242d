import Derived.Test.YtkedbphdflhhlaaDkA
/-! Disks: what a step makes of one in memory. -/
set_option linter.unusedVariables false
set_option linter.unusedSimpArgs false
set_option maxRecDepth 100000
namespace Go.Proofs.Ytkedbphdflhhlaa
open Go.RowKit Gw

section
variable {w w' : World} {e e' : TypeId} {sz sz' n n' : Nat} {v v' : Value} {xs xs' : List Value} {L : List (Value × List UInt8)} {base : Nat}
/-- slices of two kinds of elements lie apart -/
theorem Ow.disj (h : Ow w e sz v n xs) (h' : Ow w e' sz' v' n' xs') (hne : e ≠ e') : ∀ b ∈ blks v, b ∉ blks v' := by
  intro b hb
  rcases h'.blk with ⟨rfl, _⟩ | ⟨g, cap, rest, rfl, hb', _⟩
  · simp [blks]
  · intro hg
    have : b = g := by simpa [blks] using hg
    subst this
    exact Ow.ne h hb' hne hb
theorem Fam.atOw (h : Fam w base L) (hv : Ow w e sz v n xs) (hm : Mod (blks v) w w') (hne : 5 ≠ e) : Fam w' base L :=
  h.mod hm fun p hp b hb hb2 => Ow.disj (h.ob p hp).1 hv hne b hb hb2
theorem Mp.atOw {M : Nat} {f : Int → Option Value} (h : Mp w M f) (hv : Ow w e sz v n xs) (hm : Mod (blks v) w w') : Mp w' M f :=
  h.mod hm fun hb => by
    rcases hv.blk with ⟨rfl, _⟩ | ⟨g, cap, rest, rfl, hb', _⟩
    · simp [blks] at hb
    · have : M = g := by simpa [blks] using hb
      exact h.ne hb' this
theorem Fam.disj (h : Fam w base L) (hv : Ow w e sz v n xs) (hne : 5 ≠ e) : ∀ p ∈ L, ∀ b ∈ blks p.1, b ∉ blks v := fun p hp b hb => Ow.disj (h.ob p hp).1 hv hne b hb
end
section
variable {w0 w3 w4 w5 w6 w7 : World} {p sz M : Nat} {D R v : Value} {dp : List (Value × List UInt8)} {rp : List (Nat × Value × List UInt8)} {l : List UInt8}
/-- one more sector -/
theorem DkB.sector {D' : Value} (h : DkB w0 p sz D R M dp rp) (hm3 : Mod [] w0 w3) (ho : Ob w3 v l) (hn : New w0 v) (hD : Ow w4 23 1 D' (dp.length + 1) (dp.map (·.1) ++ [v])) (hm4 : Mod (blks D) w3 w4) (hb4 : ∀ k ∈ blks D', k ∈ blks D ∨ w3.heap.size ≤ k)
    (hm5 : Mod [p] w4 w5) (hB : Blk w5 p 110 [.int .i64 (sz : Nat), D', R, .map (some M)]) :
    DkB w5 p sz D' R M (dp ++ [(v, l)]) rp ∧ (∀ k ∈ fpD p D' R M (dp ++ [(v, l)]) rp, k ∈ fpD p D R M dp rp ∨ w0.heap.size ≤ k) ∧ Mod (fpD p D R M dp rp) w0 w5 := by
  have h3 := h.ext hm3
  have hp4 : Blk w4 p 110 _ := h3.blk.mod hm4 (Ow.ne h3.dur h3.blk (by decide))
  have hf3 : Fam w3 0 (dp ++ (v, l) :: rp.map (·.2)) := Fam.ins h.fam (Nat.zero_le _) hm3 ho hn
  have hf4 := hf3.atOw h3.dur hm4 (by decide)
  have hr4 : Ow w4 143 2 R rp.length (wcells rp) := h3.row.mod hm4 (Ow.disj h3.row h3.dur (by decide))
  have hM4 := Mp.atOw h3.map h3.dur hm4
  refine ⟨⟨hB, ?_, hr4.mod hm5 (fun b hb hg => Ow.ne hr4 hp4 (by decide) (by have : b = p := (by simpa using hg); exact this ▸ hb)), hM4.mod hm5 (by simpa using hM4.ne hp4), ?_⟩, ?_, ?_⟩
  · have := hD.mod hm5 (fun b hb hg => Ow.ne hD hp4 (by decide) (by have : b = p := (by simpa using hg); exact this ▸ hb))
    simpa using this
  · have := hf4.at hm5 hp4 (by decide)
    simpa using this
  · intro k hk
    unfold fpD at hk ⊢
    simp only [List.mem_cons, List.mem_append, List.mem_flatMap] at hk ⊢
    rcases hk with hk | hk | (hk | hk) | ⟨x, hx, hk⟩
    · exact .inl (.inl hk)
    · exact .inl (.inr (.inl hk))
    · rcases hb4 k hk with hk | hk
      · exact .inl (.inr (.inr (.inl (.inl hk))))
      · exact .inr (Nat.le_trans hm3.size hk)
    · exact .inl (.inr (.inr (.inl (.inr hk))))
    · rcases hx with (hx | hx | hx) | hx
      · exact .inl (.inr (.inr (.inr ⟨x, .inl hx, hk⟩)))
      · subst hx; exact .inr (hn k hk)
      · cases hx
      · exact .inl (.inr (.inr (.inr ⟨x, .inr hx, hk⟩)))
  · exact ((hm3.weak (by simp)).then hm4 (fun g hg => .inl (by simp [fpD, hg]))).then hm5 (fun g hg => .inl (by have : g = p := (by simpa using hg); simp [fpD, this]))
/-- one more write that waits -/
theorem DkB.wait {R' : Value} {at_ : Nat} {st : Int} (h : DkB w0 p sz D R M dp rp) (hm3 : Mod [] w0 w3) (ho : Ob w3 v l) (hn : New w0 v) (hv1 : v.oneCell' = true) (hR : Ow w4 143 2 R' (rp.length + 1) (wcells rp ++ [.int .i64 (at_ : Nat), v])) (hm4 : Mod (blks R) w3 w4) (hb4 : ∀ k ∈ blks R', k ∈ blks R ∨ w3.heap.size ≤ k)
    (hm5 : Mod [p] w4 w5) (hB : Blk w5 p 110 [.int .i64 (sz : Nat), D, R', .map (some M)]) (hm6 : Mod [M] w5 w6) (hm7 : Mod [M] w6 w7) (hM : Mp w7 M (fun x => if x = (at_ : Int) then some v else newest rp x)) :
    DkB w7 p sz D R' M dp (rp ++ [(at_, v, l)]) ∧ (∀ k ∈ fpD p D R' M dp (rp ++ [(at_, v, l)]), k ∈ fpD p D R M dp rp ∨ w0.heap.size ≤ k) ∧ Mod (fpD p D R M dp rp) w0 w7 := by
  have h3 := h.ext hm3
  have hp4 : Blk w4 p 110 _ := h3.blk.mod hm4 (Ow.ne h3.row h3.blk (by decide))
  have hf3 : Fam w3 0 ((dp ++ rp.map (·.2)) ++ (v, l) :: []) := Fam.ins (by simpa using h.fam) (Nat.zero_le _) hm3 ho hn
  have hf4 := hf3.atOw h3.row hm4 (by decide)
  have hf5 := hf4.at hm5 hp4 (by decide)
  have hd4 : Ow w4 23 1 D dp.length (dp.map (·.1)) := h3.dur.mod hm4 (Ow.disj h3.dur h3.row (by decide))
  have hd5 := hd4.mod hm5 (fun b hb hg => Ow.ne hd4 hp4 (by decide) (by have : b = p := (by simpa using hg); exact this ▸ hb))
  have hR5 := hR.mod hm5 (fun b hb hg => Ow.ne hR hp4 (by decide) (by have : b = p := (by simpa using hg); exact this ▸ hb))
  have hM4 := Mp.atOw h3.map h3.row hm4
  have hM5 := hM4.mod hm5 (by simpa using hM4.ne hp4)
  have hm57 : Mod [M] w5 w7 := hm6.trans hm7
  have nO : ∀ {e : TypeId} {z n : Nat} {u : Value} {xs : List Value}, Ow w5 e z u n xs → ∀ b ∈ blks u, b ∉ [M] := fun {e z n u xs} hu b hb hg => by
    have : b = M := by simpa using hg
    subst this
    rcases hu.blk with ⟨rfl, _⟩ | ⟨g, cap, rest, rfl, hb', _⟩
    · simp [blks] at hb
    · have : b = g := by simpa [blks] using hb
      exact hM5.ne hb' this
  refine ⟨⟨hB.mod hm57 (by simpa using (hM5.ne hB).symm), hd5.mod hm57 (nO hd5), ?_, hM.congr (fun k => by rw [newest_snoc]), ?_⟩, ?_, ?_⟩
  · have := hR5.mod hm57 (nO hR5)
    rw [wcells_app]
    simpa [wcells] using this
  · have := hf5.mod hm57 (fun q hq b hb => nO (hf5.ob q hq).1 b hb)
    simpa using this
  · intro k hk
    unfold fpD at hk ⊢
    simp only [List.mem_cons, List.mem_append, List.mem_flatMap, List.map_append, List.map_cons, List.map_nil] at hk ⊢
    rcases hk with hk | hk | (hk | hk) | ⟨x, hx, hk⟩
    · exact .inl (.inl hk)
    · exact .inl (.inr (.inl hk))
    · exact .inl (.inr (.inr (.inl (.inl hk))))
    · rcases hb4 k hk with hk | hk
      · exact .inl (.inr (.inr (.inl (.inr hk))))
      · exact .inr (Nat.le_trans hm3.size hk)
    · rcases hx with hx | hx | hx | hx
      · exact .inl (.inr (.inr (.inr ⟨x, .inl hx, hk⟩)))
      · exact .inl (.inr (.inr (.inr ⟨x, .inr hx, hk⟩)))
      · subst hx; exact .inr (hn k hk)
      · cases hx
  · exact (((hm3.weak (by simp)).then hm4 (fun g hg => .inl (by simp [fpD, hg]))).then hm5 (fun g hg => .inl (by have : g = p := (by simpa using hg); simp [fpD, this]))).then hm57 (fun g hg => .inl (by have : g = M := (by simpa using hg); simp [fpD, this]))
theorem Fam.upd {w w' : World} {base : Nat} {A B : List (Value × List UInt8)} {l' : List UInt8} (h : Fam w base (A ++ (v, l) :: B)) (hm : Mod (blks v) w w') (ho : Ob w' v l') : Fam w' base (A ++ (v, l') :: B) := by
  have hd := h.dj
  rw [List.pairwise_append, List.pairwise_cons] at hd
  refine ⟨fun p hp => ?_, ?_⟩
  · rw [List.mem_append, List.mem_cons] at hp
    rcases hp with hp | rfl | hp
    · have := h.ob p (List.mem_append_left _ hp)
      exact ⟨Ow.mod this.1 hm (fun b hb => hd.2.2 p hp (v, l) (List.mem_cons_self ..) b hb), this.2⟩
    · exact ⟨ho, (h.ob (v, l) (List.mem_append_right _ (List.mem_cons_self ..))).2⟩
    · have := h.ob p (List.mem_append_right _ (List.mem_cons_of_mem _ hp))
      exact ⟨Ow.mod this.1 hm (fun b hb hb2 => hd.2.1.1 p hp b hb2 hb), this.2⟩
  · rw [List.pairwise_append, List.pairwise_cons]
    exact ⟨hd.1, ⟨fun q hq b hb => hd.2.1.1 q hq b hb, hd.2.1.2⟩, fun p hp q hq b hb => by
      rcases List.mem_cons.1 hq with rfl | hq
      · exact hd.2.2 p hp (v, l) (List.mem_cons_self ..) b hb
      · exact hd.2.2 p hp q (List.mem_cons_of_mem _ hq) b hb⟩
/-- a sector whose bytes have turned -/
theorem DkB.turn {w w' : World} {i : Nat} {l' : List UInt8} (h : DkB w p sz D R M dp rp) (hi : i < dp.length) (hm : Mod (blks dp[i].1) w w') (ho : Ob w' dp[i].1 l') :
    DkB w' p sz D R M (dp.set i (dp[i].1, l')) rp ∧ fpD p D R M (dp.set i (dp[i].1, l')) rp = fpD p D R M dp rp ∧ Mod (fpD p D R M dp rp) w w' := by
  have e1 : dp = dp.take i ++ (dp[i].1, dp[i].2) :: dp.drop (i + 1) := by
    have := List.take_append_drop i dp
    rw [List.drop_eq_getElem_cons hi] at this
    exact this.symm
  have e2 : dp.set i (dp[i].1, l') = dp.take i ++ (dp[i].1, l') :: dp.drop (i + 1) := by
    rw [List.set_eq_take_append_cons_drop, if_pos hi]
  have hob : Ob w dp[i].1 dp[i].2 := (h.fam.ob dp[i] (List.mem_append_left _ (List.getElem_mem hi))).1
  have hf : Fam w 0 (dp.take i ++ (dp[i].1, dp[i].2) :: (dp.drop (i + 1) ++ rp.map (·.2))) := by
    have := h.fam
    rw [e1] at this
    simpa using this
  have hf' := hf.upd hm ho
  have hmap : (dp.set i (dp[i].1, l')).map (·.1) = dp.map (·.1) := by
    rw [List.map_set]
    apply List.ext_getElem?
    intro j
    rw [List.getElem?_set]
    split
    · subst_vars; simp [hi]
    · rfl
  have hfl : (dp.set i (dp[i].1, l') ++ rp.map (·.2)).flatMap (fun x => blks x.1) = (dp ++ rp.map (·.2)).flatMap (fun x => blks x.1) := by
    rw [List.flatMap_append, List.flatMap_append]
    congr 1
    rw [List.flatMap_def, List.flatMap_def]
    congr 1
    have := congrArg (List.map blks) hmap
    simpa [Function.comp_def] using this
  refine ⟨⟨h.blk.mod hm (Ow.ne hob h.blk (by decide)), ?_, h.row.mod hm (fun b hb hb2 => Ow.disj h.row hob (by decide) b hb hb2), Mp.atOw h.map hob hm, ?_⟩, ?_, ?_⟩
  · rw [hmap, List.length_set]
    exact h.dur.mod hm (fun b hb hb2 => Ow.disj h.dur hob (by decide) b hb hb2)
  · rw [e2]
    simpa using hf'
  · unfold fpD; rw [hfl]
  · exact hm.weak fun g hg => .inl (by
      unfold fpD
      refine List.mem_cons_of_mem _ (List.mem_cons_of_mem _ (List.mem_append_right _ (List.mem_flatMap.2 ⟨dp[i], List.mem_append_left _ (List.getElem_mem hi), hg⟩))))
/-- nothing waits any more -/
theorem DkB.clear {w w1 w2 : World} (h : DkB w p sz D R M dp rp) (hm1 : Mod [p] w w1) (hB : Blk w1 p 110 [.int .i64 (sz : Nat), D, .slice none 0 0, .map (some M)]) (hm2 : Mod [M] w1 w2) (hM : Mp w2 M (fun _ => none)) :
    DkB w2 p sz D (.slice none 0 0) M dp [] ∧ (∀ k ∈ fpD p D (.slice none 0 0) M dp [], k ∈ fpD p D R M dp rp) ∧ Mod (fpD p D R M dp rp) w w2 := by
  have hf : Fam w 0 dp := h.fam.sub
  have hf1 := hf.at hm1 h.blk (by decide)
  have hd1 := h.dur.mod hm1 (fun b hb hg => Ow.ne h.dur h.blk (by decide) (by have : b = p := (by simpa using hg); exact this ▸ hb))
  have hM1 := h.map.mod hm1 (by simpa using h.map.ne h.blk)
  have nO : ∀ {e : TypeId} {z n : Nat} {u : Value} {xs : List Value}, Ow w1 e z u n xs → ∀ b ∈ blks u, b ∉ [M] := fun {e z n u xs} hu b hb hg => by
    have : b = M := by simpa using hg
    subst this
    rcases hu.blk with ⟨rfl, _⟩ | ⟨g, cap, rest, rfl, hb', _⟩
    · simp [blks] at hb
    · have : b = g := by simpa [blks] using hb
      exact hM1.ne hb' this
  refine ⟨⟨hB.mod hm2 (by simpa using (hM1.ne hB).symm), hd1.mod hm2 (nO hd1), Ow.nil _ _ _, hM.congr (fun k => rfl), ?_⟩, ?_, ?_⟩
  · have := hf1.mod hm2 (fun q hq b hb => nO (hf1.ob q hq).1 b hb)
    simpa using this
  · intro k hk
    unfold fpD at hk ⊢
    simp only [List.mem_cons, List.mem_append, List.mem_flatMap, List.map_nil, List.append_nil, blks] at hk ⊢
    rcases hk with hk | hk | hk | ⟨x, hx, hk⟩
    · exact .inl hk
    · exact .inr (.inl hk)
    · exact .inr (.inr (.inl (.inl hk)))
    · exact .inr (.inr (.inr ⟨x, .inl hx, hk⟩))
  · exact (hm1.weak (fun g hg => .inl (by have : g = p := (by simpa using hg); simp [fpD, this]))).then hm2 (fun g hg => .inl (by have : g = M := (by simpa using hg); simp [fpD, this]))
end
end Go.Proofs.Ytkedbphdflhhlaa
