import Derived.Test.YtfepggdljhiemaaGreatDoorGDi
/-! The reference's disks: how they lie in memory, and what a step makes of one. -/
set_option linter.unusedVariables false
set_option linter.unusedSimpArgs false
set_option maxRecDepth 100000
namespace Go.Proofs.YtfepggdljhiemaaGreatDoor
open Go.RowKit Gw

theorem stKW : ST Tryz.prog 143 189 (.agg #[.int .i64 0, .slice none 0 0]) 2 32 := ⟨Tryz.underlying143, by kernel_rfl, rfl, by decide⟩
structure RkB (w : World) (p : Nat) (D R : Value) (dp : List (Value × List UInt8)) (rp : List (Nat × Value × List UInt8)) : Prop where
  blk : Blk w p 145 [D, R]
  dur : Ow w 33 1 D dp.length (dp.map (·.1))
  row : Ow w 189 2 R rp.length (wcells rp)
  fam : Fam w 0 (dp ++ rp.map (·.2))
def fpR (p : Nat) (D R : Value) (dp : List (Value × List UInt8)) (rp : List (Nat × Value × List UInt8)) : List Nat := p :: (blks D ++ blks R ++ (dp ++ rp.map (·.2)).flatMap fun x => blks x.1)
section
variable {w w' : World} {p : Nat} {D R : Value} {dp : List (Value × List UInt8)} {rp : List (Nat × Value × List UInt8)} {L : List Nat}
theorem RkB.mod (h : RkB w p D R dp rp) (hm : Mod L w w') (hL : ∀ b ∈ fpR p D R dp rp, b ∉ L) : RkB w' p D R dp rp := by
  unfold fpR at hL
  exact ⟨h.blk.mod hm (hL p (by simp)), h.dur.mod hm (fun b hb => hL b (by simp [hb])), h.row.mod hm (fun b hb => hL b (by simp [hb])),
    h.fam.mod hm fun q hq b hb => hL b (List.mem_cons_of_mem _ (List.mem_append_right _ (List.mem_flatMap.2 ⟨q, hq, hb⟩)))⟩
theorem RkB.ext (h : RkB w p D R dp rp) (hm : Mod [] w w') : RkB w' p D R dp rp := h.mod hm (by simp)
theorem RkB.lt (h : RkB w p D R dp rp) : ∀ b ∈ fpR p D R dp rp, b < w.heap.size := by
  intro b hb
  unfold fpR at hb
  rcases List.mem_cons.1 hb with rfl | hb
  · exact h.blk.lt
  rcases List.mem_append.1 hb with hb | hb
  · rcases List.mem_append.1 hb with hb | hb
    · exact h.dur.lt b hb
    · exact h.row.lt b hb
  · obtain ⟨q, hq, hb⟩ := List.mem_flatMap.1 hb
    exact Ow.lt (h.fam.ob q hq).1 b hb
end
/-- a disk of the reference, in the blocks L -/
def Rk (w : World) (p : Nat) (m : Dm) (L : List Nat) : Prop := ∃ D R dp rp, RkB w p D R dp rp ∧ m = Dm.of m.sz dp rp ∧ L = fpR p D R dp rp
section
variable {w w' : World} {p : Nat} {m : Dm} {L L2 : List Nat}
theorem Rk.mod (h : Rk w p m L) (hm : Mod L2 w w') (hL : ∀ b ∈ L, b ∉ L2) : Rk w' p m L := by
  obtain ⟨D, R, dp, rp, h1, h2, h3⟩ := h
  exact ⟨D, R, dp, rp, h1.mod hm (h3 ▸ hL), h2, h3⟩
theorem Rk.ext (h : Rk w p m L) (hm : Mod [] w w') : Rk w' p m L := h.mod hm (by simp)
theorem Rk.lt (h : Rk w p m L) : ∀ b ∈ L, b < w.heap.size := by
  obtain ⟨D, R, dp, rp, h1, h2, rfl⟩ := h
  exact h1.lt
theorem Rk.blk (h : Rk w p m L) : ∃ D R, Blk w p 145 [D, R] ∧ (∃ ao cap, D = .slice ao m.dur.length cap ∧ m.dur.length ≤ cap) ∧ ∃ ao cap, R = .slice ao m.row.length cap ∧ m.row.length ≤ cap := by
  obtain ⟨D, R, dp, rp, h1, h2, h3⟩ := h
  obtain ⟨ao, cap, hD, hc, _⟩ := h1.dur.sl.form
  obtain ⟨ao', cap', hR, hc', _⟩ := h1.row.sl.form
  have e1 : m.dur.length = dp.length := by rw [h2]; simp [Dm.of]
  have e2 : m.row.length = rp.length := by rw [h2]; simp [Dm.of]
  refine ⟨D, R, h1.blk, ⟨ao, cap, by rw [e1]; exact hD, by omega⟩, ⟨ao', cap', by rw [e2]; exact hR, by omega⟩⟩
end
def RkPost (w : World) (p : Nat) (m' : Dm) (L : List Nat) (w' : World) : Prop := ∃ L', Rk w' p m' L' ∧ Mod L w w' ∧ ∀ k ∈ L', k ∈ L ∨ w.heap.size ≤ k
section
variable {w0 w3 w4 w5 : World} {p : Nat} {D R v : Value} {dp : List (Value × List UInt8)} {rp : List (Nat × Value × List UInt8)} {l : List UInt8}
theorem RkB.sector {D' : Value} (h : RkB w0 p D R dp rp) (hm3 : Mod [] w0 w3) (ho : Ob w3 v l) (hn : New w0 v) (hD : Ow w4 33 1 D' (dp.length + 1) (dp.map (·.1) ++ [v])) (hm4 : Mod (blks D) w3 w4) (hb4 : ∀ k ∈ blks D', k ∈ blks D ∨ w3.heap.size ≤ k)
    (hm5 : Mod [p] w4 w5) (hB : Blk w5 p 145 [D', R]) :
    RkB w5 p D' R (dp ++ [(v, l)]) rp ∧ (∀ k ∈ fpR p D' R (dp ++ [(v, l)]) rp, k ∈ fpR p D R dp rp ∨ w0.heap.size ≤ k) ∧ Mod (fpR p D R dp rp) w0 w5 := by
  have h3 := h.ext hm3
  have hp4 : Blk w4 p 145 _ := h3.blk.mod hm4 (Ow.ne h3.dur h3.blk (by decide))
  have hf3 : Fam w3 0 (dp ++ (v, l) :: rp.map (·.2)) := Fam.ins h.fam (Nat.zero_le _) hm3 ho hn
  have hf4 := hf3.atOw h3.dur hm4 (by decide)
  have hr4 : Ow w4 189 2 R rp.length (wcells rp) := h3.row.mod hm4 (Ow.disj h3.row h3.dur (by decide))
  refine ⟨⟨hB, ?_, hr4.mod hm5 (fun b hb hg => Ow.ne hr4 hp4 (by decide) (by have : b = p := (by simpa using hg); exact this ▸ hb)), ?_⟩, ?_, ?_⟩
  · have := hD.mod hm5 (fun b hb hg => Ow.ne hD hp4 (by decide) (by have : b = p := (by simpa using hg); exact this ▸ hb))
    simpa using this
  · have := hf4.at hm5 hp4 (by decide)
    simpa using this
  · intro k hk
    unfold fpR at hk ⊢
    simp only [List.mem_cons, List.mem_append, List.mem_flatMap] at hk ⊢
    rcases hk with hk | (hk | hk) | ⟨x, hx, hk⟩
    · exact .inl (.inl hk)
    · rcases hb4 k hk with hk | hk
      · exact .inl (.inr (.inl (.inl hk)))
      · exact .inr (Nat.le_trans hm3.size hk)
    · exact .inl (.inr (.inl (.inr hk)))
    · rcases hx with (hx | hx | hx) | hx
      · exact .inl (.inr (.inr ⟨x, .inl hx, hk⟩))
      · subst hx; exact .inr (hn k hk)
      · cases hx
      · exact .inl (.inr (.inr ⟨x, .inr hx, hk⟩))
  · exact ((hm3.weak (by simp)).then hm4 (fun g hg => .inl (by simp [fpR, hg]))).then hm5 (fun g hg => .inl (by have : g = p := (by simpa using hg); simp [fpR, this]))
theorem RkB.wait {R' : Value} {at_ : Nat} (h : RkB w0 p D R dp rp) (hm3 : Mod [] w0 w3) (ho : Ob w3 v l) (hn : New w0 v) (hR : Ow w4 189 2 R' (rp.length + 1) (wcells rp ++ [.int .i64 (at_ : Nat), v])) (hm4 : Mod (blks R) w3 w4) (hb4 : ∀ k ∈ blks R', k ∈ blks R ∨ w3.heap.size ≤ k)
    (hm5 : Mod [p] w4 w5) (hB : Blk w5 p 145 [D, R']) :
    RkB w5 p D R' dp (rp ++ [(at_, v, l)]) ∧ (∀ k ∈ fpR p D R' dp (rp ++ [(at_, v, l)]), k ∈ fpR p D R dp rp ∨ w0.heap.size ≤ k) ∧ Mod (fpR p D R dp rp) w0 w5 := by
  have h3 := h.ext hm3
  have hp4 : Blk w4 p 145 _ := h3.blk.mod hm4 (Ow.ne h3.row h3.blk (by decide))
  have hf3 : Fam w3 0 ((dp ++ rp.map (·.2)) ++ (v, l) :: []) := Fam.ins (by simpa using h.fam) (Nat.zero_le _) hm3 ho hn
  have hf4 := hf3.atOw h3.row hm4 (by decide)
  have hf5 := hf4.at hm5 hp4 (by decide)
  have hd4 : Ow w4 33 1 D dp.length (dp.map (·.1)) := h3.dur.mod hm4 (Ow.disj h3.dur h3.row (by decide))
  have hd5 := hd4.mod hm5 (fun b hb hg => Ow.ne hd4 hp4 (by decide) (by have : b = p := (by simpa using hg); exact this ▸ hb))
  have hR5 := hR.mod hm5 (fun b hb hg => Ow.ne hR hp4 (by decide) (by have : b = p := (by simpa using hg); exact this ▸ hb))
  refine ⟨⟨hB, hd5, ?_, ?_⟩, ?_, ?_⟩
  · rw [wcells_app]
    simpa [wcells] using hR5
  · simpa using hf5
  · intro k hk
    unfold fpR at hk ⊢
    simp only [List.mem_cons, List.mem_append, List.mem_flatMap, List.map_append, List.map_cons, List.map_nil] at hk ⊢
    rcases hk with hk | (hk | hk) | ⟨x, hx, hk⟩
    · exact .inl (.inl hk)
    · exact .inl (.inr (.inl (.inl hk)))
    · rcases hb4 k hk with hk | hk
      · exact .inl (.inr (.inl (.inr hk)))
      · exact .inr (Nat.le_trans hm3.size hk)
    · rcases hx with hx | hx | hx | hx
      · exact .inl (.inr (.inr ⟨x, .inl hx, hk⟩))
      · exact .inl (.inr (.inr ⟨x, .inr hx, hk⟩))
      · subst hx; exact .inr (hn k hk)
      · cases hx
  · exact ((hm3.weak (by simp)).then hm4 (fun g hg => .inl (by simp [fpR, hg]))).then hm5 (fun g hg => .inl (by have : g = p := (by simpa using hg); simp [fpR, this]))
theorem RkB.turn {w w' : World} {i : Nat} {l' : List UInt8} (h : RkB w p D R dp rp) (hi : i < dp.length) (hm : Mod (blks dp[i].1) w w') (ho : Ob w' dp[i].1 l') :
    RkB w' p D R (dp.set i (dp[i].1, l')) rp ∧ fpR p D R (dp.set i (dp[i].1, l')) rp = fpR p D R dp rp ∧ Mod (fpR p D R dp rp) w w' := by
  have e1 : dp = dp.take i ++ (dp[i].1, dp[i].2) :: dp.drop (i + 1) := by
    have := List.take_append_drop i dp
    rw [List.drop_eq_getElem_cons hi] at this
    exact this.symm
  have e2 : dp.set i (dp[i].1, l') = dp.take i ++ (dp[i].1, l') :: dp.drop (i + 1) := by
    rw [List.set_eq_take_append_cons_drop, if_pos hi]
  have hob : Ob w dp[i].1 dp[i].2 := (h.fam.ob dp[i] (List.mem_append_left _ (List.getElem_mem hi))).1
  have hf : Fam w 0 (dp.take i ++ (dp[i].1, dp[i].2) :: (dp.drop (i + 1) ++ rp.map (·.2))) := by
    have := h.fam
    rw [e1] at this
    simpa using this
  have hf' := hf.upd hm ho
  have hmap : (dp.set i (dp[i].1, l')).map (·.1) = dp.map (·.1) := by
    rw [List.map_set]
    apply List.ext_getElem?
    intro j
    rw [List.getElem?_set]
    split
    · subst_vars; simp [hi]
    · rfl
  have hfl : (dp.set i (dp[i].1, l') ++ rp.map (·.2)).flatMap (fun x => blks x.1) = (dp ++ rp.map (·.2)).flatMap (fun x => blks x.1) := by
    rw [List.flatMap_append, List.flatMap_append]
    congr 1
    rw [List.flatMap_def, List.flatMap_def]
    congr 1
    have := congrArg (List.map blks) hmap
    simpa [Function.comp_def] using this
  refine ⟨⟨h.blk.mod hm (Ow.ne hob h.blk (by decide)), ?_, h.row.mod hm (fun b hb hb2 => Ow.disj h.row hob (by decide) b hb hb2), ?_⟩, ?_, ?_⟩
  · rw [hmap, List.length_set]
    exact h.dur.mod hm (fun b hb hb2 => Ow.disj h.dur hob (by decide) b hb hb2)
  · rw [e2]
    simpa using hf'
  · unfold fpR; rw [hfl]
  · exact hm.weak fun g hg => .inl (by
      unfold fpR
      refine List.mem_cons_of_mem _ (List.mem_append_right _ (List.mem_flatMap.2 ⟨dp[i], List.mem_append_left _ (List.getElem_mem hi), hg⟩)))
theorem RkB.clear {w w1 : World} (h : RkB w p D R dp rp) (hm1 : Mod [p] w w1) (hB : Blk w1 p 145 [D, .slice none 0 0]) :
    RkB w1 p D (.slice none 0 0) dp [] ∧ (∀ k ∈ fpR p D (.slice none 0 0) dp [], k ∈ fpR p D R dp rp) ∧ Mod (fpR p D R dp rp) w w1 := by
  have hf : Fam w 0 dp := h.fam.sub
  have hf1 := hf.at hm1 h.blk (by decide)
  have hd1 := h.dur.mod hm1 (fun b hb hg => Ow.ne h.dur h.blk (by decide) (by have : b = p := (by simpa using hg); exact this ▸ hb))
  refine ⟨⟨hB, hd1, Ow.nil _ _ _, by simpa using hf1⟩, ?_, ?_⟩
  · intro k hk
    unfold fpR at hk ⊢
    simp only [List.mem_cons, List.mem_append, List.mem_flatMap, List.map_nil, List.append_nil] at hk ⊢
    rcases hk with hk | (hk | hk) | ⟨x, hx, hk⟩
    · exact .inl hk
    · exact .inr (.inl (.inl hk))
    · simp [blks] at hk
    · exact .inr (.inr ⟨x, .inl hx, hk⟩)
  · exact hm1.weak (fun g hg => .inl (by have : g = p := (by simpa using hg); simp [fpR, this]))
end
end Go.Proofs.YtfepggdljhiemaaGreatDoor

/-! The reference's disks: May, twin, New, Sectors, Size, wrong, Waiting. -/
namespace Go.Proofs.YtfepggdljhiemaaGreatDoor
open Go.RowKit Gw

set_option maxHeartbeats 4000000 in
theorem rmay_any (s z : Int) (c : Bool) (w : World) (hc : mayD s z = c) : Calls Tryz.prog 81 #[.int .i64 s, .int .i64 z] w fun e w' => e = .returned (.bool c) ∧ w = w' := by
  unfold mayD at hc
  by_cases h1 : 64 ≤ z
  · have eh1 : decide (64 ≤ z) = true := decide_eq_true h1
    by_cases h2 : z ≤ 4096
    · have eh2 : decide (z ≤ 4096) = true := decide_eq_true h2
      cases h3 : (bits .and .i64 z (z - 1) == 0) with
      | true =>
        by_cases h4 : 1 ≤ s
        · have eh4 : decide (1 ≤ s) = true := decide_eq_true h4
          by_cases h5 : s ≤ 65536
          · have eh5 : decide (s ≤ 65536) = true := decide_eq_true h5
            have hmb := mul_bound h4 h5 h1 h2
            have q1 := hmb.1
            have q2 := hmb.2
            clear hmb
            have hc' : decide (s * z ≤ 67108864) = c := by simpa [h1, h2, h4, h5, h3] using hc
            clear hc
            go_enter Tryz.func81, Tryz.ntmps81
            go_wp2
            go_ret
            exact ⟨rfl, rfl⟩
          · have eh5 : decide (s ≤ 65536) = false := decide_eq_false h5
            obtain rfl : c = false := by rw [← hc, eh5]; simp
            clear hc
            go_enter Tryz.func81, Tryz.ntmps81
            go_wp2
            go_ret
            exact ⟨rfl, rfl⟩
        · have eh4 : decide (1 ≤ s) = false := decide_eq_false h4
          obtain rfl : c = false := by rw [← hc, eh4]; simp
          clear hc
          go_enter Tryz.func81, Tryz.ntmps81
          go_wp2
          go_ret
          exact ⟨rfl, rfl⟩
      | false =>
        obtain rfl : c = false := by rw [← hc, h3]; simp
        clear hc
        go_enter Tryz.func81, Tryz.ntmps81
        go_wp2
        go_ret
        exact ⟨rfl, rfl⟩
    · have eh2 : decide (z ≤ 4096) = false := decide_eq_false h2
      obtain rfl : c = false := by rw [← hc, eh2]; simp
      clear hc
      go_enter Tryz.func81, Tryz.ntmps81
      go_wp2
      go_ret
      exact ⟨rfl, rfl⟩
  · have eh1 : decide (64 ≤ z) = false := decide_eq_false h1
    obtain rfl : c = false := by rw [← hc, eh1]; simp
    clear hc
    go_enter Tryz.func81, Tryz.ntmps81
    go_wp2
    go_ret
    exact ⟨rfl, rfl⟩
set_option maxHeartbeats 400000 in
theorem twin_any (l : List UInt8) (v : Value) (w : World) (hv : Bs w v l) (hl : l.length ≤ 140737488355328) :
    Calls Tryz.prog 134 #[v] w fun e w' => ∃ v', e = .returned v' ∧ Ob w' v' l ∧ New w v' ∧ Mod [] w w' := by
  obtain ⟨ao, cap, rfl, hc1, hc2⟩ := hv.form
  go_enter Tryz.func134, Tryz.ntmps134
  go_wp2_with (with_reducible refine st_bslice ?_)
  refine StopOp.go rfl fun K hK => ?_
  refine wp_bslice stB [] rfl (by decide) (by rfl) (by simp) ?_
  intro p w1 hp1 hp2 hm1 hB1
  simp only [put_some, List.set_cons_succ, List.set_cons_zero]
  refine hK _ _ ?_
  clear hK K
  have ho1 : Ow w1 5 1 (.slice (some ⟨p, 0, none⟩) 0 0) 0 [] := Ow.of_blk (rest := []) hB1 (by omega) (by omega) (by simp) (by simp)
  go_wp2_with (with_reducible refine st_append ?_)
  refine StopOp.go rfl fun K hK => ?_
  refine wp_append_ow stB (by rfl) (by rfl) ho1 (hv.ext hm1) (bv_one l) (by omega) (by omega) ?_
  intro v2 w2 ho2 hm2 hb2
  simp only [put_some, List.set_cons_succ, List.set_cons_zero]
  refine hK _ _ ?_
  clear hK K
  rw [List.nil_append, Nat.zero_add] at ho2
  obtain ⟨ao2, cap2, rfl, _, _⟩ := ho2.sl.form
  go_wp2_with fail
  go_ret
  exact ⟨_, rfl, ho2, fun k hk => (hb2 k hk).elim (fun h => by rw [show k = p by simpa [blks] using h]; exact hp1) (fun h => Nat.le_trans hm1.size h), hm1.fresh hm2 (by simpa [blks] using hp1)⟩
/-- a disk of the reference that is none -/
def NoRk (w : World) (v : Value) : Prop := ∃ p, v = .pointer (some ⟨p, 0, none⟩) ∧ Blk w p 145 [.slice none 0 0, .slice none 0 0]
theorem NoRk.ext {w w' : World} {v : Value} (h : NoRk w v) (hm : Mod [] w w') : NoRk w' v := by
  obtain ⟨p, h1, h2⟩ := h
  exact ⟨p, h1, h2.ext hm⟩
def OwnR (w0 w : World) (p : Nat) (m : Dm) (L : List Nat) : Prop := Rk w p m L ∧ ∀ k ∈ L, w0.heap.size ≤ k
theorem OwnR.ext {w0 w w' : World} {p : Nat} {m : Dm} {L : List Nat} (h : OwnR w0 w p m L) (hm : Mod [] w w') : OwnR w0 w' p m L := ⟨h.1.ext hm, h.2⟩
def NewR (s z : Nat) (w : World) (e : Ending) (w' : World) : Prop := ∃ p L, e = .returned (.tuple #[.pointer (some ⟨p, 0, none⟩), .int .i64 0]) ∧ OwnR w w' p ⟨z, List.replicate s (zeros z), []⟩ L ∧ Mod [] w w'
set_option maxRecDepth 1000000 in
set_option maxHeartbeats 4000000 in
theorem rnew_yes (s z : Nat) (w : World) (h : mayD s z = true) : Calls Tryz.prog 30 #[.int .i64 (s : Nat), .int .i64 (z : Nat)] w (NewR s z w) := by
  have M := fun w => rmay_any s z true w h
  obtain ⟨h1, h2, h3, h4⟩ := mayD_parts h
  clear h
  go_enter Tryz.func30, Tryz.ntmps30
  go_wp2_with (with_reducible refine st_box ?_)
  refine StopOp.go rfl fun K hK => ?_
  refine wp_box (v := .agg #[.slice none 0 0, .slice none 0 0]) (by rfl) ?_
  intro p w2 hp1 hp2 hmp hB2
  simp only [put_some, List.set_cons_succ, List.set_cons_zero]
  refine hK _ _ ?_
  clear hK K
  have hDk : RkB w2 p (.slice none 0 0) (.slice none 0 0) [] [] := ⟨hB2, Ow.nil _ _ _, Ow.nil _ _ _, Fam.nil _ _⟩
  have hfp : ∀ k ∈ fpR p (.slice none 0 0) (.slice none 0 0) [] [], w.heap.size ≤ k := by
    intro k hk
    simp [fpR, blks] at hk
    omega
  clear hB2
  go_wp2_with (go_at_call 81; (with_reducible refine (M _).mono ?_); rintro e w3 ⟨rfl, rfl⟩)
  go_loopw [7] (fun i wr => ∃ (k : Nat) (D : Value) (dp : List (Value × List UInt8)), k ≤ s ∧ i = .int .i64 k ∧ RkB wr p D (.slice none 0 0) dp [] ∧ dp.map (·.2) = List.replicate k (zeros z) ∧ (∀ k ∈ fpR p D (.slice none 0 0) dp [], w.heap.size ≤ k) ∧ Mod [] w wr) (fun i _ => s - (intOf i).toNat)
  case atStart => exact ⟨0, _, [], by omega, rfl, hDk, rfl, hfp, hmp⟩
  case round =>
    obtain ⟨k, D, dp, hk, rfl, hB, hdp, hf, hMr⟩ := hrel
    by_cases hlt : k < s
    · obtain ⟨aoD, capD, rfl, hcD, _⟩ := hB.dur.sl.form
      have hdl : dp.length = k := by have := congrArg List.length hdp; simpa using this
      have y0 : (k : Int) < s := by omega
      have y1 : (z : Int) ≤ 4096 := h4
      have HDP := Lib.hid hdp
      have HDL := Lib.hid hdl
      clear hdp hdl
      go_wp2_with fail
      refine wp_region_T [⟨0, true, []⟩, ⟨1, true, []⟩, ⟨2, true, []⟩, ⟨3, true, []⟩, ⟨4, true, []⟩, ⟨5, true, []⟩, ⟨6, false, [2, 4]⟩, ⟨7, false, [2, 4]⟩, ⟨8, false, []⟩, ⟨9, true, []⟩, ⟨10, true, []⟩, ⟨11, false, []⟩] (by kernel_rfl) (by kernel_rfl) ?_
      have hm0 : Mod [] wr wr.drew := Mod.drew [] _
      have hB0 := hB.ext hm0
      obtain ⟨w0, hw0⟩ : ∃ x, x = wr.drew := ⟨_, rfl⟩
      rw [← hw0] at hB0 hm0 ⊢
      clear hw0
      have c1 := hB0.blk.cell' (i := 0) rfl
      iterate 6 (refine wpT_n rfl rfl (fun K hK => ?_); go_wp2_with fail)
      refine wpT_e rfl rfl (fun K hK => ?_)
      refine wp_make (nl := z) (nc := z) stB (by rfl) (by rfl) rfl rfl (Nat.le_refl _) (by omega) (by omega) ?_
      intro g x1 hg1 hg2 hmx1 hBx1
      simp only [put_some, List.set_cons_succ, List.set_cons_zero]
      refine hK _ _ ⟨agains_cons rfl (again_const (fun _ => rfl)) (agains_cons rfl (again_load rfl rfl (hmx1.block p hB0.blk.lt (by simp)) hB0.blk.kinds) agains_nil), ?_⟩
      clear hK K
      have hob1 := Ob.made hBx1 (by omega)
      have hn1 : New w0 (.slice (some ⟨g, 0, none⟩) z z) := fun q hq => by rw [show q = g by simpa [blks] using hq]; exact hg1
      refine wpT_e rfl rfl (fun K hK => ?_)
      refine wp_bslice stDR [.slice (some ⟨g, 0, none⟩) z z] rfl (by decide) (by rfl) (by simp [Value.cells]) ?_
      intro q x2 hq1 hq2 hmx2 hBx2
      simp only [put_some, List.set_cons_succ, List.set_cons_zero]
      have hB1 := hB0.ext hmx1
      refine hK _ _ ⟨agains_cons rfl (again_const (fun _ => rfl)) (agains_cons rfl (again_load rfl rfl (hmx2.block p hB1.blk.lt (by simp)) hB1.blk.kinds) agains_nil), ?_⟩
      clear hK K
      have hS2 : Sl x2 1 (.slice (some ⟨q, 0, none⟩) 1 1) 1 [.slice (some ⟨g, 0, none⟩) z z] := (Ow.of_blk (rest := []) hBx2 (Nat.le_refl _) (by omega) rfl rfl : Ow x2 33 1 (.slice (some ⟨q, 0, none⟩) 1 1) 1 [.slice (some ⟨g, 0, none⟩) z z]).sl
      have hB2 := hB1.ext hmx2
      refine wpT_e0 rfl rfl (fun K hK => ?_)
      refine wp_append_ow stDR (by rfl) (by rfl) hB2.dur hS2 (by simp [Value.oneCell']) (by have := HDL.out; omega) (by have := HDL.out; omega) ?_
      intro D4 x4 hD4 hmx4 hb4
      simp only [put_some, List.set_cons_succ, List.set_cons_zero]
      refine hK _ _ ?_
      clear hK K
      have hp4 : Blk x4 p 145 _ := hB2.blk.mod hmx4 (Ow.ne hB2.dur hB2.blk (by decide))
      iterate 2 (refine wpT_n rfl rfl (fun K hK => ?_); go_wp2_with fail)
      refine wpT_e0 rfl rfl (fun K hK => ?_)
      refine wp_store1 (by kernel_rfl) (by rfl) (by rfl) hD4.sl.one hp4 (by simp) ?_
      intro x5 hmx5 hBx5
      refine hK _ _ ?_
      clear hK K
      have hfin := hB0.sector (hmx1.ext hmx2) (hob1.ext hmx2) hn1 hD4 hmx4 hb4 hmx5 (by simpa using hBx5)
      have hs0 := hMr.size
      have hs1 := hm0.size
      have hM5 : Mod [] w x5 := (hMr.ext hm0).fresh hfin.2.2 hf
      refine wpT_nil ?_
      go_wp2_with fail
      go_roundw
      case rel => exact ⟨k + 1, D4, _, by omega, by go_num, hfin.1, by rw [List.map_append, HDP.out, List.replicate_succ']; rfl, fun q hq => (hfin.2.1 q hq).elim (hf q) (fun h => by omega), hM5⟩
      case measure => simp [intOf]; omega
    · obtain rfl : k = s := by omega
      go_wp2_with fail
      go_ret2
      exact ⟨p, _, rfl, ⟨⟨_, _, _, _, hB, by unfold Dm.of; rw [hdp]; rfl, rfl⟩, hf⟩, hMr⟩
theorem rSectors_any (p : Nat) (m : Dm) (L : List Nat) (w : World) (h : Rk w p m L) : Calls Tryz.prog 138 #[.pointer (some ⟨p, 0, none⟩)] w fun e w' => e = .returned (.int .i64 (m.dur.length : Nat)) ∧ w = w' := by
  obtain ⟨D, R, hB, ⟨ao, cap, rfl, _⟩, ao', cap', rfl, _⟩ := h.blk
  have c0 := hB.cell' (i := 0) rfl
  clear h
  go_enter Tryz.func138, Tryz.ntmps138
  go_wp2
  go_ret
  exact ⟨rfl, rfl⟩
theorem rSectors_no (v : Value) (w : World) (h : NoRk w v) : Calls Tryz.prog 138 #[v] w fun e w' => e = .returned (.int .i64 0) ∧ w = w' := by
  obtain ⟨p, rfl, hB⟩ := h
  have c0 := hB.cell' (i := 0) rfl
  clear hB
  go_enter Tryz.func138, Tryz.ntmps138
  go_wp2
  go_ret
  exact ⟨rfl, rfl⟩
theorem rWaiting_any (p : Nat) (m : Dm) (L : List Nat) (w : World) (h : Rk w p m L) : Calls Tryz.prog 128 #[.pointer (some ⟨p, 0, none⟩)] w fun e w' => e = .returned (.int .i64 (m.row.length : Nat)) ∧ w = w' := by
  obtain ⟨D, R, hB, ⟨ao, cap, rfl, _⟩, ao', cap', rfl, _⟩ := h.blk
  have c0 := hB.cell' (i := 1) rfl
  clear h
  go_enter Tryz.func128, Tryz.ntmps128
  go_wp2
  go_ret
  exact ⟨rfl, rfl⟩
theorem rWaiting_no (v : Value) (w : World) (h : NoRk w v) : Calls Tryz.prog 128 #[v] w fun e w' => e = .returned (.int .i64 0) ∧ w = w' := by
  obtain ⟨p, rfl, hB⟩ := h
  have c0 := hB.cell' (i := 1) rfl
  clear hB
  go_enter Tryz.func128, Tryz.ntmps128
  go_wp2
  go_ret
  exact ⟨rfl, rfl⟩
theorem rSize_any (p : Nat) (m : Dm) (L : List Nat) (w : World) (h : Rk w p m L) (hok : m.ok) : Calls Tryz.prog 174 #[.pointer (some ⟨p, 0, none⟩)] w fun e w' => e = .returned (.int .i64 (m.sz : Nat)) ∧ w = w' := by
  obtain ⟨D, R, dp, rp, hB, hm, hL⟩ := h
  have e1 : m.dur = dp.map (·.2) := by rw [hm]; rfl
  have h1 := hok.n1
  rw [e1, List.length_map] at h1
  have hz : dp[0].2.length = m.sz := hok.d _ (by rw [e1]; exact List.mem_map.2 ⟨dp[0], List.getElem_mem h1, rfl⟩)
  obtain ⟨aoD, capD, rfl, hcD, _⟩ := hB.dur.sl.form
  obtain ⟨b0, o0, rfl, hc⟩ := sl_at hB.dur.sl (i := 0) (by simp; omega)
  have hv := (hB.fam.ob dp[0] (List.mem_append_left _ (List.getElem_mem h1))).1
  rw [List.getElem_map] at hc
  obtain ⟨aov, capv, hvv, _, _⟩ := Bs.form (Ob.bs hv)
  rw [hvv, hz, Nat.add_zero] at hc
  have c0 := hB.blk.cell' (i := 0) rfl
  obtain ⟨n, hn⟩ : ∃ n, n = dp.length := ⟨_, rfl⟩
  rw [← hn] at c0 h1
  have y0 : (0 : Int) < n := by omega
  have y1 : (n == 0) = false := by rw [beq_eq_false_iff_ne]; omega
  have y2 : ((n : Int) == 0) = false := by rw [beq_eq_false_iff_ne]; omega
  clear hB hm hL e1 hz hv hvv hok hcD hn
  go_enter Tryz.func174, Tryz.ntmps174
  go_wp2
  go_ret
  exact ⟨rfl, rfl⟩
theorem rSize_no (v : Value) (w : World) (h : NoRk w v) : Calls Tryz.prog 174 #[v] w fun e w' => e = .returned (.int .i64 0) ∧ w = w' := by
  obtain ⟨p, rfl, hB⟩ := h
  have c0 := hB.cell' (i := 0) rfl
  clear hB
  go_enter Tryz.func174, Tryz.ntmps174
  go_wp2
  go_ret
  exact ⟨rfl, rfl⟩
theorem rwrong_no (v : Value) (at_ : Int) (w : World) (h : NoRk w v) : Calls Tryz.prog 198 #[v, .int .i64 at_] w fun e w' => e = .returned (.int .i64 1) ∧ w = w' := by
  obtain ⟨p, rfl, hB⟩ := h
  have c0 := hB.cell' (i := 0) rfl
  clear hB
  go_enter Tryz.func198, Tryz.ntmps198
  go_wp2
  go_ret
  exact ⟨rfl, rfl⟩
theorem rwrong_any (p n cap : Nat) (ao : Option Addr) (R : Value) (at_ E : Int) (w : World) (hB : Blk w p 145 [.slice ao n cap, R]) (h : 1 ≤ n) (hE : noneE n at_ = E) :
    Calls Tryz.prog 198 #[.pointer (some ⟨p, 0, none⟩), .int .i64 at_] w fun e w' => e = .returned (.int .i64 E) ∧ w = w' := by
  have c0 := hB.cell' (i := 0) rfl
  have y1 : (n == 0) = false := by simp; omega
  have y2 : ((n : Int) == 0) = false := by simp; omega
  clear hB
  by_cases h1 : at_ < 0
  · have hE' : E = 50 := by rw [← hE]; unfold noneE; rw [if_pos (.inl h1)]
    subst hE'
    clear hE
    have e1 : decide (at_ < 0) = true := decide_eq_true h1
    go_enter Tryz.func198, Tryz.ntmps198
    go_wp2
    go_ret
    exact ⟨rfl, rfl⟩
  · have e1 : decide (at_ < 0) = false := decide_eq_false h1
    by_cases h2 : (n : Int) ≤ at_
    · have hE' : E = 50 := by rw [← hE]; unfold noneE; rw [if_pos (.inr h2)]
      subst hE'
      clear hE
      have e2 : decide ((n : Int) ≤ at_) = true := decide_eq_true h2
      go_enter Tryz.func198, Tryz.ntmps198
      go_wp2
      go_ret
      exact ⟨rfl, rfl⟩
    · have hE' : E = 0 := by rw [← hE]; unfold noneE; rw [if_neg (by omega)]
      subst hE'
      clear hE
      have e2 : decide ((n : Int) ≤ at_) = false := decide_eq_false h2
      go_enter Tryz.func198, Tryz.ntmps198
      go_wp2
      go_ret
      exact ⟨rfl, rfl⟩
end Go.Proofs.YtfepggdljhiemaaGreatDoor

/-! The reference's disks: Write, Read, Image. -/
namespace Go.Proofs.YtfepggdljhiemaaGreatDoor
open Go.RowKit Gw

theorem rwrite_no (v bvv : Value) (at_ : Int) (w : World) (h : NoRk w v) : Calls Tryz.prog 190 #[v, .int .i64 at_, bvv] w fun e w' => e = .returned (.int .i64 1) ∧ w = w' := by
  have T := fun w h => rwrong_no v at_ w h
  go_enter Tryz.func190, Tryz.ntmps190
  go_wp2_with (go_at_call 198; (with_reducible refine (T _ h).mono ?_); rintro e w1 ⟨rfl, rfl⟩)
  go_ret
  exact ⟨rfl, rfl⟩
theorem rwrite_bad (p : Nat) (m : Dm) (L : List Nat) (at_ E : Int) (l : List UInt8) (bvv : Value) (w : World) (h : Rk w p m L) (hok : m.ok) (hb : Bs w bvv l) (hE : writeE m at_ l.length = E) (hE0 : E ≠ 0) :
    Calls Tryz.prog 190 #[.pointer (some ⟨p, 0, none⟩), .int .i64 at_, bvv] w fun e w' => e = .returned (.int .i64 E) ∧ w = w' := by
  obtain ⟨ao0, cap0, rfl, hnc0, hcap0⟩ := hb.form
  have SZ := fun w h => rSize_any p m L w h hok
  obtain ⟨D, R, hB, ⟨ao, cap, rfl, _⟩, ao', cap', rfl, _⟩ := h.blk
  obtain ⟨F, hF⟩ : ∃ F, noneE m.dur.length at_ = F := ⟨_, rfl⟩
  have T := fun w h => rwrong_any p m.dur.length cap ao (.slice ao' m.row.length cap') at_ F w h hok.n1 hF
  unfold writeE at hE
  rw [hF] at hE
  clear hF hok
  by_cases h0 : F = 0
  · subst h0
    rw [if_pos rfl] at hE
    have hn : l.length ≠ m.sz := fun hh => hE0 (by rw [← hE, if_pos hh])
    rw [if_neg hn] at hE
    subst hE
    have e1 : (l.length == m.sz) = false := by simpa using hn
    have e2 : ((l.length : Int) == m.sz) = false := by simp; omega
    have e3 : (l.length != m.sz) = true := by simpa using hn
    have e4 : ((l.length : Int) != m.sz) = true := by simp; omega
    clear hn hE0
    go_enter Tryz.func190, Tryz.ntmps190
    go_wp2_with (first
                  | (go_at_call 198; (with_reducible refine (T _ hB).mono ?_); rintro e w1 ⟨rfl, rfl⟩)
                  | (go_at_call 174; (with_reducible refine (SZ _ h).mono ?_); rintro e w2 ⟨rfl, rfl⟩))
    go_ret
    exact ⟨rfl, rfl⟩
  · rw [if_neg h0] at hE
    subst hE
    have e1 : (F != 0) = true := by simpa using h0
    clear hE0
    go_enter Tryz.func190, Tryz.ntmps190
    go_wp2_with (go_at_call 198; (with_reducible refine (T _ hB).mono ?_); rintro e w1 ⟨rfl, rfl⟩)
    go_ret
    exact ⟨rfl, rfl⟩
set_option maxRecDepth 1000000 in
set_option maxHeartbeats 4000000 in
theorem rwrite_ok (p : Nat) (m : Dm) (L : List Nat) (a : Nat) (l : List UInt8) (bvv : Value) (w : World) (h : Rk w p m L) (hok : m.ok) (hb : Bs w bvv l) (ha : a < m.dur.length) (hl : l.length = m.sz) (hr : m.row.length ≤ 1000000000) :
    Calls Tryz.prog 190 #[.pointer (some ⟨p, 0, none⟩), .int .i64 (a : Nat), bvv] w fun e w' => e = .returned (.int .i64 0) ∧ RkPost w p (m.write a l) L w' := by
  have SZ := fun w h => rSize_any p m L w h hok
  have hRk := h
  obtain ⟨ao0, cap0, rfl, hnc0, hcap0⟩ := hb.form
  obtain ⟨D, R, dp, rp, hB, hm, hL⟩ := h
  obtain ⟨aoD, capD, rfl, hcD, _⟩ := hB.dur.sl.form
  obtain ⟨aoR, capR, rfl, hcR, _⟩ := hB.row.sl.form
  have e1 : m.dur.length = dp.length := by rw [hm]; simp [Dm.of]
  have hF : noneE dp.length (a : Nat) = 0 := by unfold noneE; rw [if_neg (by omega)]
  have hrl : rp.length ≤ 1000000000 := by
    have : m.row.length = rp.length := by rw [hm]; simp [Dm.of]
    omega
  have hs1 := hok.s1
  have hs2 := hok.s2
  have T := fun w h => rwrong_any p dp.length capD aoD (.slice aoR rp.length capR) (a : Nat) 0 w h (by have := hok.n1; omega) hF
  have TW := fun v w hv => twin_any l v w hv (by omega)
  rw [hl] at hnc0 ⊢
  obtain ⟨sz, hsz⟩ : ∃ sz, sz = m.sz := ⟨_, rfl⟩
  rw [← hsz] at SZ hl hs1 hs2 hnc0 ⊢
  have H := Lib.hid (And.intro hm (And.intro hL hl))
  rw [hl] at hb
  clear hm hL hok hF ha hr hl e1 hsz
  go_enter Tryz.func190, Tryz.ntmps190
  go_wp2_with (first
                | (go_at_call 198; (with_reducible refine (T _ hB.blk).mono ?_); rintro e w1 ⟨rfl, rfl⟩)
                | (go_at_call 174; (with_reducible refine (SZ _ hRk).mono ?_); rintro e w2 ⟨rfl, rfl⟩))
  refine wp_region_T [⟨0, true, []⟩, ⟨1, true, []⟩, ⟨2, true, []⟩, ⟨3, true, []⟩, ⟨4, true, []⟩, ⟨5, true, []⟩, ⟨6, true, []⟩, ⟨7, false, [2, 4]⟩, ⟨8, true, []⟩, ⟨9, false, [2, 4]⟩, ⟨10, false, []⟩, ⟨11, true, []⟩, ⟨12, true, []⟩, ⟨13, false, []⟩] (by kernel_rfl) (by kernel_rfl) ?_
  have hm05 : Mod [] w w.drew := Mod.drew [] _
  have hB5 := hB.ext hm05
  have hb5 : Bs w.drew (.slice ao0 sz cap0) l := hb.ext hm05
  obtain ⟨w5, hw5⟩ : ∃ x, x = w.drew := ⟨_, rfl⟩
  rw [← hw5] at hm05 hB5 hb5 ⊢
  clear hw5 hb hRk T SZ
  have c1 := hB5.blk.cell' (i := 1) rfl
  iterate 7 (refine wpT_n rfl rfl (fun K hK => ?_); go_wp2_with fail)
  refine wpT_callh rfl rfl (fun K hK => ?_)
  go_wp2_with (go_at_call 134; refine (TW _ _ hb5).mono ?_; rintro e w6 ⟨v6, rfl, ho6, hn6, hm6⟩)
  refine ⟨agains_cons rfl (again_const (fun _ => rfl)) (agains_cons rfl (again_load rfl rfl (hm6.block p hB5.blk.lt (by simp)) hB5.blk.kinds) agains_nil), ?_⟩
  obtain ⟨ao2, cap2, rfl, hc2, _⟩ := Ob.n ho6 H.out.2.2
  have hB6 := hB5.ext hm6
  refine wpT_n rfl rfl (fun K hK => ?_)
  go_wp2_with fail
  refine wpT_e rfl rfl (fun K hK => ?_)
  refine wp_bslice stKW [.agg #[.int .i64 (a : Nat), .slice ao2 sz cap2]] rfl (by decide) (by rfl) (by simp [Value.cells]) ?_
  intro g x1 hg1 hg2 hmx1 hBx1
  simp only [put_some, List.set_cons_succ, List.set_cons_zero]
  refine hK _ _ ⟨agains_cons rfl (again_const (fun _ => rfl)) (agains_cons rfl (again_load rfl rfl (hmx1.block p hB6.blk.lt (by simp)) hB6.blk.kinds) agains_nil), ?_⟩
  clear hK K
  have hB7 := hB6.ext hmx1
  have hS6 : Sl x1 2 (.slice (some ⟨g, 0, none⟩) 1 1) 1 [.int .i64 (a : Nat), .slice ao2 sz cap2] := (Ow.of_blk (rest := []) hBx1 (Nat.le_refl _) (by omega) rfl rfl : Ow x1 189 2 (.slice (some ⟨g, 0, none⟩) 1 1) 1 [.int .i64 (a : Nat), .slice ao2 sz cap2]).sl
  refine wpT_e0 rfl rfl (fun K hK => ?_)
  refine wp_append_ow stKW (by rfl) (by rfl) hB7.row hS6 (by simp [Value.oneCell']) (by omega) (by omega) ?_
  intro R7 x2 hR7 hmx2 hb7
  simp only [put_some, List.set_cons_succ, List.set_cons_zero]
  refine hK _ _ ?_
  clear hK K
  have hp4 : Blk x2 p 145 _ := hB7.blk.mod hmx2 (Ow.ne hB7.row hB7.blk (by decide))
  iterate 2 (refine wpT_n rfl rfl (fun K hK => ?_); go_wp2_with fail)
  refine wpT_e0 rfl rfl (fun K hK => ?_)
  refine wp_store1 (by kernel_rfl) (by rfl) (by rfl) hR7.sl.one hp4 (by simp) ?_
  intro x3 hmx3 hBx3
  refine hK _ _ ?_
  clear hK K
  have hfin := hB5.wait (at_ := a) (l := l) (v := .slice ao2 sz cap2) (hm6.ext hmx1) (ho6.ext hmx1) hn6 hR7 hmx2 hb7 hmx3 (by simpa using hBx3)
  have hs5 := hm05.size
  refine wpT_nil ?_
  go_wp2_with fail
  go_ret
  refine ⟨rfl, _, ⟨_, _, _, _, hfin.1, ?_, rfl⟩, ?_, ?_⟩
  · rw [H.out.1]
    simp [Dm.write, Dm.of]
  · rw [H.out.2.1]; exact (hm05.weak (by simp)).trans hfin.2.2
  · rw [H.out.2.1]; exact fun k hk => (hfin.2.1 k hk).imp id fun h => by omega
end Go.Proofs.YtfepggdljhiemaaGreatDoor

/-! The reference's disks: Read, Image, kept. -/
namespace Go.Proofs.YtfepggdljhiemaaGreatDoor
open Go.RowKit Gw

theorem find_last {α : Type} (P : α → Bool) (l : List α) (k : Nat) (hk : k < l.length) (hp : P l[k] = true) (hne : ∀ j (hj : j < l.length), k < j → P l[j] = false) : l.reverse.find? P = some l[k] := by
  have e : l = l.take k ++ l[k] :: l.drop (k + 1) := by
    have := List.take_append_drop k l
    rw [List.drop_eq_getElem_cons hk] at this
    exact this.symm
  have hd : (l.drop (k + 1)).reverse.find? P = none := by
    rw [List.find?_eq_none]
    intro x hx
    obtain ⟨i, hi, rfl⟩ := List.getElem_of_mem (List.mem_reverse.1 hx)
    rw [List.getElem_drop]
    simp at hi
    simp [hne (k + 1 + i) (by omega) (by omega)]
  have : l.reverse = (l.drop (k + 1)).reverse ++ l[k] :: (l.take k).reverse := by
    conv => lhs; rw [e]
    simp
  rw [this, List.find?_append, hd, List.find?_cons, hp]
  rfl
theorem read_last {sz : Nat} {dp : List (Value × List UInt8)} {rp : List (Nat × Value × List UInt8)} {a k : Nat} (hk : k < rp.length) (he : rp[k].1 = a) (hne : ∀ j (hj : j < rp.length), k < j → rp[j].1 ≠ a) : (Dm.of sz dp rp).read a = rp[k].2.2 := by
  unfold Dm.read Dm.of
  dsimp only
  have := find_last (fun x : Nat × List UInt8 => decide (x.1 = a)) (rp.map fun x => (x.1, x.2.2)) k (by simpa using hk) (by simp [he]) (fun j hj hkj => by
    have := hne j (by simpa using hj) hkj
    simpa using this)
  rw [this]
  simp
theorem read_none {sz : Nat} {dp : List (Value × List UInt8)} {rp : List (Nat × Value × List UInt8)} {a : Nat} (hne : ∀ j (hj : j < rp.length), rp[j].1 ≠ a) (ha : a < dp.length) : (Dm.of sz dp rp).read a = dp[a].2 := by
  unfold Dm.read Dm.of
  dsimp only
  have : (rp.map fun x => (x.1, x.2.2)).reverse.find? (fun x => decide (x.1 = a)) = none := by
    rw [List.find?_eq_none]
    intro x hx
    obtain ⟨y, hy, rfl⟩ := List.mem_map.1 (List.mem_reverse.1 hx)
    obtain ⟨i, hi, rfl⟩ := List.getElem_of_mem hy
    simpa using hne i hi
  rw [this]
  simp [List.getElem?_eq_getElem ha]
theorem rread_no (v : Value) (at_ : Int) (w : World) (h : NoRk w v) : Calls Tryz.prog 189 #[v, .int .i64 at_] w fun e w' => e = .returned (.tuple #[.slice none 0 0, .int .i64 1]) ∧ w = w' := by
  have T := fun w h => rwrong_no v at_ w h
  go_enter Tryz.func189, Tryz.ntmps189
  go_wp2_with (go_at_call 198; (with_reducible refine (T _ h).mono ?_); rintro e w1 ⟨rfl, rfl⟩)
  go_ret2
  exact ⟨rfl, rfl⟩
theorem rread_bad (p : Nat) (m : Dm) (L : List Nat) (at_ E : Int) (w : World) (h : Rk w p m L) (hok : m.ok) (hE : noneE m.dur.length at_ = E) (hE0 : E ≠ 0) :
    Calls Tryz.prog 189 #[.pointer (some ⟨p, 0, none⟩), .int .i64 at_] w fun e w' => e = .returned (.tuple #[.slice none 0 0, .int .i64 E]) ∧ w = w' := by
  obtain ⟨D, R, hB, ⟨ao, cap, rfl, _⟩, ao', cap', rfl, _⟩ := h.blk
  have T := fun w h => rwrong_any p m.dur.length cap ao (.slice ao' m.row.length cap') at_ E w h hok.n1 hE
  have e1 : (E != 0) = true := by simpa using hE0
  clear h hE hE0
  go_enter Tryz.func189, Tryz.ntmps189
  go_wp2_with (go_at_call 198; (with_reducible refine (T _ hB).mono ?_); rintro e w1 ⟨rfl, rfl⟩)
  go_ret2
  exact ⟨rfl, rfl⟩
set_option maxRecDepth 1000000 in
set_option maxHeartbeats 4000000 in
theorem rread_ok (p : Nat) (m : Dm) (L : List Nat) (a : Nat) (w : World) (h : Rk w p m L) (hok : m.ok) (ha : a < m.dur.length) :
    Calls Tryz.prog 189 #[.pointer (some ⟨p, 0, none⟩), .int .i64 (a : Nat)] w fun e w' => ∃ v, e = .returned (.tuple #[v, .int .i64 0]) ∧ Ob w' v (m.read a) ∧ New w v ∧ Mod [] w w' := by
  have hrl := hok.read ha
  have hs2 := hok.s2
  obtain ⟨D, R, dp, rp, hB, hm, hL⟩ := h
  obtain ⟨aoD, capD, rfl, hcD, _⟩ := hB.dur.sl.form
  obtain ⟨aoR, capR, rfl, hcR, _⟩ := hB.row.sl.form
  have had : a < dp.length := by rw [hm] at ha; simpa [Dm.of] using ha
  have hF : noneE dp.length (a : Nat) = 0 := by unfold noneE; rw [if_neg (by omega)]
  have T := fun w h => rwrong_any p dp.length capD aoD (.slice aoR rp.length capR) (a : Nat) 0 w h (by omega) hF
  have hN1 := fun k hk he hne => (read_last (sz := m.sz) (dp := dp) (rp := rp) (a := a) (k := k) hk he hne)
  have hN2 := fun hne => (read_none (sz := m.sz) (dp := dp) (rp := rp) (a := a) hne had)
  rw [← hm] at hN1 hN2
  obtain ⟨B, hBr⟩ : ∃ B, B = m.read a := ⟨_, rfl⟩
  rw [← hBr] at hrl hN1 hN2 ⊢
  have l2 : B.length ≤ 140737488355328 := by omega
  have HN1 := Lib.hid hN1
  have HN2 := Lib.hid hN2
  clear hm hL hok hF ha hBr hrl hN1 hN2
  have c1 := hB.blk.cell' (i := 1) rfl
  have c0 := hB.blk.cell' (i := 0) rfl
  have hrn := hB.row.sl.small
  go_enter Tryz.func189, Tryz.ntmps189
  go_wp2_with (go_at_call 198; (with_reducible refine (T _ hB.blk).mono ?_); rintro e w1 ⟨rfl, rfl⟩)
  go_loopw [7] (fun i wr => w = wr ∧ ∃ k : Nat, k ≤ rp.length ∧ i = .int .i64 ((k : Int) - 1) ∧ ∀ j (hj : j < rp.length), k ≤ j → rp[j].1 ≠ a) (fun i _ => (intOf i + 1).toNat)
  case atStart => exact ⟨rfl, rp.length, by omega, rfl, fun j hj h => by omega⟩
  case round =>
    obtain ⟨rfl, k, hk, hi, hne⟩ := hrel
    rcases k with _ | k
    · obtain rfl : _ = Value.int .i64 (-1) := hi
      have hr := HN2.out fun j hj => hne j hj (by omega)
      have HNE := Lib.hid hne
      obtain ⟨b0, o0, rfl, hc⟩ := sl_at hB.dur.sl (i := a) (by simpa using had)
      have hv := (hB.fam.ob dp[a] (List.mem_append_left _ (List.getElem_mem had))).1
      rw [List.getElem_map] at hc
      rw [← hr] at hv
      obtain ⟨v, hvv⟩ : ∃ v, v = dp[a].1 := ⟨_, rfl⟩
      rw [← hvv] at hv hc
      obtain ⟨aov, capv, rfl, _, _⟩ := Bs.form (Ob.bs hv)
      have y1 : (0 : Int) ≤ a := by omega
      have y2 : (a : Int) < dp.length := by omega
      clear hr hvv hne
      go_wp2_with (go_at_call 134; refine (twin_any B _ _ (Ob.bs hv) l2).mono ?_; rintro e w2 ⟨v2, rfl, ho2, hn2, hm2⟩)
      go_ret2
      exact ⟨_, rfl, ho2, hn2, hm2⟩
    · rw [show (((k + 1 : Nat) : Int) - 1) = (k : Int) by omega] at hi
      obtain rfl := hi
      have hlt : k < rp.length := by omega
      obtain ⟨gR, hgR, restR, hRb⟩ : ∃ g, aoR = some ⟨g, 0, none⟩ ∧ ∃ rest, Blk w g 189 (wcells rp ++ rest) := by
        rcases hB.row.blk with ⟨_, h0, _⟩ | ⟨g, cap, rest, h1, h2, _⟩
        · omega
        · injection h1 with h1
          exact ⟨g, h1, rest, h2⟩
      subst hgR
      obtain ⟨hw0, hw1⟩ := wcells_at rp k hlt
      have hwl : 2 * k + 1 < (wcells rp).length := by rw [wcells_len]; omega
      have r0 := hRb.cell' (i := k * 2) (by rw [List.getElem?_append_left (by omega), Nat.mul_comm]; exact hw0)
      have r1 := hRb.cell' (i := k * 2 + 1) (by rw [List.getElem?_append_left (by omega), Nat.mul_comm]; exact hw1)
      have hbo := (hB.fam.ob rp[k].2 (List.mem_append_right _ (List.mem_map.2 ⟨rp[k], List.getElem_mem hlt, rfl⟩))).1
      have y1 : (0 : Int) ≤ k := by omega
      have y2 : (k : Int) < rp.length := by omega
      obtain ⟨b, hbe⟩ : ∃ a, a = rp[k].1 := ⟨_, rfl⟩
      obtain ⟨l, hle⟩ : ∃ b, b = rp[k].2.2 := ⟨_, rfl⟩
      obtain ⟨vb, hvb⟩ : ∃ b, b = rp[k].2.1 := ⟨_, rfl⟩
      rw [← hvb] at r1 hbo
      rw [← hle] at hbo
      rw [← hbe] at r0
      obtain ⟨aob, capb, rfl, hcb, _⟩ := Bs.form (Ob.bs hbo)
      by_cases hba : b = a
      · have hr := HN1.out k hlt (hbe.symm.trans hba) fun j hj hkj => hne j hj (by omega)
        rw [← hle] at hr
        subst hr
        have e1 : (b == a) = true := by simpa using hba
        have e2 : ((b : Int) == a) = true := by simp [hba]
        have HNE := Lib.hid hne
        clear hbe hle hvb hw0 hw1 hwl hne hba hRb
        go_wp2_with (go_at_call 134; refine (twin_any B _ _ (Ob.bs hbo) l2).mono ?_; rintro e w2 ⟨v2, rfl, ho2, hn2, hm2⟩)
        go_ret2
        exact ⟨_, rfl, ho2, hn2, hm2⟩
      · have e1 : (b == a) = false := by simpa using hba
        have e2 : ((b : Int) == a) = false := by simp; omega
        have HNE := Lib.hid (show ∀ j (hj : j < rp.length), k ≤ j → rp[j].1 ≠ a from fun j hj hkj => by
          by_cases hkj2 : k = j
          · subst hkj2; rw [← hbe]; exact hba
          · exact hne j hj (by omega))
        clear hbe hle hvb hw0 hw1 hwl hne hba hRb
        go_wp2_with fail
        go_roundw
        case rel => exact ⟨trivial, k, by omega, by go_num, HNE.out⟩
        case measure => simp [intOf]
set_option maxHeartbeats 2000000 in
theorem rimage_any (p : Nat) (m : Dm) (L : List Nat) (w : World) (h : Rk w p m L) (hok : m.ok) : Calls Tryz.prog 75 #[.pointer (some ⟨p, 0, none⟩)] w (ImgPost w m.dur) := by
  have hs2 := hok.s2
  have hn2 := hok.n2
  have hd := hok.d
  obtain ⟨D, R, dp, rp, hB, hm, hL⟩ := h
  have e1 : m.dur = dp.map (·.2) := by rw [hm]; rfl
  rw [e1] at hd hn2 ⊢
  have hdl : ∀ (j : Nat) (hj : j < dp.length), dp[j].2.length = m.sz := fun j hj => hd _ (List.mem_map.2 ⟨dp[j], List.getElem_mem hj, rfl⟩)
  rw [List.length_map] at hn2
  obtain ⟨aoD, capD, rfl, hcD, _⟩ := hB.dur.sl.form
  obtain ⟨sz, hsz⟩ : ∃ sz, sz = m.sz := ⟨_, rfl⟩
  rw [← hsz] at hdl hs2
  clear hm hL hok hd e1 hsz
  go_enter Tryz.func75, Tryz.ntmps75
  go_wp2_with fail
  go_loopw [3, 4] (fun o i wr => ∃ (k : Nat) (dq : List (Value × List UInt8)), k ≤ dp.length ∧ i = .int .i64 k ∧ RowsO wr w.heap.size o dq ∧ dq.map (·.2) = (dp.map (·.2)).take k ∧ Mod [] w wr) (fun _ i _ => dp.length - (intOf i).toNat)
  case atStart => exact ⟨0, [], by omega, rfl, RowsO.nil _ _, by simp, Mod.refl _ _⟩
  case round =>
    obtain ⟨k, dq, hk, rfl, hR, hdq, hmr⟩ := hrel
    have hBr := hB.ext hmr
    have c0 := hBr.blk.cell' (i := 0) rfl
    obtain ⟨aoo, capo, rfl, hco, _⟩ := hR.ow.sl.form
    by_cases hlt : k < dp.length
    · have y0 : (k : Int) < dp.length := by omega
      obtain ⟨b0, o0, rfl, hc⟩ := sl_at hBr.dur.sl (i := k) (by simpa using hlt)
      have hv := (hBr.fam.ob dp[k] (List.mem_append_left _ (List.getElem_mem hlt))).1
      rw [List.getElem_map] at hc
      have hql : dq.length = k := by have := congrArg List.length hdq; simp at this; omega
      have hl1 := hdl k hlt
      have hsn : (dp.map (·.2)).take (k + 1) = (dp.map (·.2)).take k ++ [dp[k].2] := by
        rw [List.take_succ_eq_append_getElem (by simpa using hlt), List.getElem_map]
      rw [← hdq] at hsn
      obtain ⟨v, hvv⟩ : ∃ v, v = dp[k].1 := ⟨_, rfl⟩
      obtain ⟨l, hll⟩ : ∃ v, v = dp[k].2 := ⟨_, rfl⟩
      rw [← hvv] at hv hc
      rw [← hll] at hv hl1 hsn
      obtain ⟨aov, capv, rfl, _, _⟩ := Bs.form (Ob.bs hv)
      have HSN := Lib.hid hsn
      have HQL := Lib.hid hql
      have hl2 : l.length ≤ 4096 := by omega
      have hl3 : 0 < l.length ∨ sz = 0 := by omega
      clear hvv hll hBr hdq hsn hql hl1
      go_wp2_with (first
                    | (with_reducible refine st_bslice ?_)
                    | (go_at_call 134; refine (twin_any l _ _ (Ob.bs hv) (by omega)).mono ?_; rintro e w2 ⟨v2, rfl, ho2, hn2, hm2⟩))
      refine StopOp.go rfl fun K hK => ?_
      refine wp_bslice stDR [v2] rfl (by decide) (by rfl) (by obtain ⟨_, _, rfl, _⟩ := Bs.form (Ob.bs ho2); simp [Value.cells]) ?_
      intro g w3 hg1 hg2 hm3 hB3
      simp only [put_some, List.set_cons_succ, List.set_cons_zero]
      refine hK _ _ ?_
      clear hK K
      have hS3 : Sl w3 1 (.slice (some ⟨g, 0, none⟩) 1 1) 1 [v2] := by
        obtain ⟨_, _, rfl, _⟩ := Bs.form (Ob.bs ho2)
        exact (Ow.of_blk (rest := []) hB3 (Nat.le_refl _) (by omega) rfl rfl : Ow w3 33 1 (.slice (some ⟨g, 0, none⟩) 1 1) 1 [_]).sl
      go_wp2_with (with_reducible refine st_append ?_)
      refine StopOp.go rfl fun K hK => ?_
      refine wp_append_ow stDR (by rfl) (by rfl) (hR.ext (hm2.ext hm3)).ow hS3 (by obtain ⟨_, _, rfl, _⟩ := Bs.form (Ob.bs ho2); simp [Value.oneCell']) (by have := HQL.out; omega) (by have := HQL.out; omega) ?_
      intro v4 w4 ho4 hm4 hb4
      simp only [put_some, List.set_cons_succ, List.set_cons_zero]
      refine hK _ _ ?_
      clear hK K
      have hR4 := hR.snoc hmr.size hm2 ho2 hn2 hm3 ho4 hm4 hb4
      have hM4 : Mod [] w w4 := (hmr.ext (hm2.ext hm3)).fresh hm4 hR.nw
      obtain ⟨ao4, cap4, rfl, _, _⟩ := ho4.sl.form
      go_wp2_with fail
      go_roundw
      case rel => exact ⟨k + 1, _, by omega, by go_num, hR4, by rw [List.map_append, HSN.out]; rfl, hM4⟩
      case measure => simp [intOf]; omega
    · obtain rfl : k = dp.length := by omega
      rw [List.take_of_length_le (by simp)] at hdq
      go_wp2_with fail
      go_ret
      exact ⟨_, dq, rfl, hR, hdq, hmr⟩
theorem rimage_no (v : Value) (w : World) (h : NoRk w v) : Calls Tryz.prog 75 #[v] w fun e w' => e = .returned (.slice none 0 0) ∧ w = w' := by
  obtain ⟨p, rfl, hB⟩ := h
  have c0 := hB.cell' (i := 0) rfl
  clear hB
  go_enter Tryz.func75, Tryz.ntmps75
  go_wp2_with fail
  go_loopw [3, 4] (fun o i wr => w = wr ∧ o = .slice none 0 0 ∧ i = .int .i64 0) (fun _ i _ => 0)
  case atStart => exact ⟨rfl, rfl, rfl⟩
  case round =>
    obtain ⟨rfl, rfl, rfl⟩ := hrel
    go_wp2_with fail
    go_ret
    exact ⟨rfl, rfl⟩
/-- how much of a write becomes durable -/
def keptN (sz : Nat) (k a : Int) : Nat := clampN (if k = 1 then sz else if k = 2 then a else 0) sz
set_option maxHeartbeats 2000000 in
theorem rkept_any (p : Nat) (m : Dm) (L : List Nat) (k a : Int) (w : World) (h : Rk w p m L) (hok : m.ok) :
    Calls Tryz.prog 131 #[.pointer (some ⟨p, 0, none⟩), .agg #[.int .i64 k, .int .i64 a]] w fun e w' => e = .returned (.int .i64 (keptN m.sz k a : Nat)) ∧ Mod [] w w' := by
  have hs2 := hok.s2
  have SZ := fun w' hm => rSize_any p m L w' (h.ext hm) hok
  obtain ⟨K0, hK0⟩ : ∃ K, K = keptN m.sz k a := ⟨_, rfl⟩
  rw [← hK0]
  obtain ⟨sz, hsz⟩ : ∃ sz, sz = m.sz := ⟨_, rfl⟩
  rw [← hsz] at SZ hs2 hK0
  have HK0 := Lib.hid hK0
  clear h hok hsz hK0
  go_enter Tryz.func131, Tryz.ntmps131
  go_wp2_with (with_reducible refine st_box ?_)
  refine StopOp.go rfl fun K hK => ?_
  refine wp_box (v := .agg #[.int .i64 k, .int .i64 a]) (by rfl) ?_
  intro q w1 hq1 hq2 hm1 hQ0
  simp only [put_some, List.set_cons_succ, List.set_cons_zero]
  refine hK _ _ ?_
  clear hK K
  have hQ : Blk w1 q 186 [.int .i64 k, .int .i64 a] := hQ0
  have q0 := hQ.cell' (i := 0) rfl
  clear hQ0
  by_cases k1 : k = 1
  · subst k1
    obtain rfl : K0 = sz := by rw [HK0.out]; unfold keptN clampN; simp
    go_wp2_with (go_at_call 174; (with_reducible refine (SZ _ hm1).mono ?_); rintro e w2 ⟨rfl, rfl⟩)
    go_ret
    exact ⟨rfl, hm1⟩
  · have e1 : (k == 1) = false := by simpa using k1
    by_cases k2 : k = 2
    · subst k2
      have hk : K0 = clampN a sz := by rw [HK0.out]; unfold keptN; simp
      have HKK := Lib.hid hk
      clear hk HK0
      go_wp2_with fail
      refine wp_region_T [⟨0, true, []⟩, ⟨1, true, []⟩, ⟨2, true, []⟩, ⟨3, true, []⟩, ⟨4, false, [1, 2]⟩, ⟨5, true, []⟩, ⟨6, true, []⟩] (by kernel_rfl) (by kernel_rfl) ?_
      have hm2 := hm1.ext (Mod.drew [] _)
      have hQ2 := hQ.ext (Mod.drew [] w1)
      obtain ⟨w2, hw2⟩ : ∃ x, x = w1.drew := ⟨_, rfl⟩
      rw [← hw2] at hm2 hQ2 ⊢
      clear hw2 hQ hm1 q0
      have q1 := hQ2.cell' (i := 1) rfl
      by_cases a1 : a < 0
      · obtain rfl : K0 = 0 := by rw [HKK.out]; unfold clampN; omega
        have b1 : (0 : Int) < sz ∨ (0 : Int) = sz := by omega
        iterate 4 (refine wpT_n rfl rfl (fun K hK => ?_); go_wp2_with fail)
        refine wpT_callh rfl rfl (fun K hK => ?_)
        go_wp2_with (go_at_call 174; (with_reducible refine (SZ _ hm2).mono ?_); rintro e w3 ⟨rfl, rfl⟩)
        refine ⟨agains_same, ?_⟩
        have b2 : ¬ ((sz : Int) < 0) := by omega
        iterate 2 (refine wpT_n rfl rfl (fun K hK => ?_); go_wp2_with fail)
        refine wpT_nil ?_
        go_wp2_with fail
        go_ret
        exact ⟨rfl, hm2⟩
      · obtain ⟨b, rfl⟩ := Int.eq_ofNat_of_zero_le (show 0 ≤ a by omega)
        by_cases a2 : b ≤ sz
        · obtain rfl : K0 = b := by rw [HKK.out]; unfold clampN; simp; omega
          have b2 : ¬ ((sz : Int) < K0) := by omega
          iterate 4 (refine wpT_n rfl rfl (fun K hK => ?_); go_wp2_with fail)
          refine wpT_callh rfl rfl (fun K hK => ?_)
          go_wp2_with (go_at_call 174; (with_reducible refine (SZ _ hm2).mono ?_); rintro e w3 ⟨rfl, rfl⟩)
          refine ⟨agains_same, ?_⟩
          iterate 2 (refine wpT_n rfl rfl (fun K hK => ?_); go_wp2_with fail)
          refine wpT_nil ?_
          go_wp2_with fail
          go_ret
          exact ⟨rfl, hm2⟩
        · obtain rfl : K0 = sz := by rw [HKK.out]; unfold clampN; simp; omega
          have b2 : (K0 : Int) < b := by omega
          iterate 4 (refine wpT_n rfl rfl (fun K hK => ?_); go_wp2_with fail)
          refine wpT_callh rfl rfl (fun K hK => ?_)
          go_wp2_with (go_at_call 174; (with_reducible refine (SZ _ hm2).mono ?_); rintro e w3 ⟨rfl, rfl⟩)
          refine ⟨agains_same, ?_⟩
          iterate 2 (refine wpT_n rfl rfl (fun K hK => ?_); go_wp2_with fail)
          refine wpT_nil ?_
          go_wp2_with fail
          go_ret
          exact ⟨rfl, hm2⟩
    · have e2 : (k == 2) = false := by simpa using k2
      obtain rfl : K0 = 0 := by rw [HK0.out]; unfold keptN clampN; simp [k1, k2]
      go_wp2_with fail
      go_ret
      exact ⟨rfl, hm1⟩
end Go.Proofs.YtfepggdljhiemaaGreatDoor

/-! The reference's disks: Crash, Sync. -/
namespace Go.Proofs.YtfepggdljhiemaaGreatDoor
open Go.RowKit Gw

theorem tear_at {k n i : Nat} {b old : List UInt8} (hb : b.length = n) (ho : old.length = n) (hk : k ≤ n) : (tear k b old)[i]? = if i < k then b[i]? else old[i]? := by
  unfold tear
  split
  · rename_i h
    rw [List.getElem?_append_left (by rw [List.length_take]; omega), List.getElem?_take_of_lt h]
  · rename_i h
    rw [List.getElem?_append_right (by rw [List.length_take]; omega), List.getElem?_drop, List.length_take]
    congr 1
    omega
theorem tear_succ {k n : Nat} {b old : List UInt8} (hb : b.length = n) (ho : old.length = n) (hk : k < n) : (tear k b old).set k (b[k]'(by omega)) = tear (k + 1) b old := by
  apply List.ext_getElem?
  intro i
  rw [tear_at hb ho (by omega), List.getElem?_set, tear_len hb ho, tear_at hb ho (by omega)]
  by_cases hin : k = i
  · subst hin
    rw [if_pos rfl, if_pos (by omega), if_pos (by omega), List.getElem?_eq_getElem]
  · rw [if_neg hin]
    by_cases h1 : i < k
    · rw [if_pos h1, if_pos (by omega)]
    · rw [if_neg h1, if_neg (by omega)]
theorem tear_zero (b old : List UInt8) : tear 0 b old = old := by simp [tear]
theorem settleD_congr {g g' : Nat → Nat} {row : List (Nat × List UInt8)} (h : ∀ i, i < row.length → g i = g' i) (d : List (List UInt8)) : settleD g row d = settleD g' row d := by
  unfold settleD
  have key : ∀ (l : List ((Nat × List UInt8) × Nat)) (d : List (List UInt8)), (∀ x ∈ l, x.2 < row.length) → l.foldl (stepD g) d = l.foldl (stepD g') d := by
    intro l
    induction l with
    | nil => intro d _; rfl
    | cons x l ih =>
      intro d hx
      rw [List.foldl_cons, List.foldl_cons]
      have : stepD g d x = stepD g' d x := by unfold stepD; rw [h _ (hx x (List.mem_cons_self ..))]
      rw [this]
      exact ih _ fun y hy => hx y (List.mem_cons_of_mem _ hy)
  refine key _ _ fun x hx => ?_
  have := List.snd_lt_of_mem_zipIdx hx
  simpa using this
theorem rcrash_no (v fv : Value) (w : World) (h : NoRk w v) : Calls Tryz.prog 73 #[v, fv] w fun e w' => e = .returned (.int .i64 1) ∧ w = w' := by
  obtain ⟨p, rfl, hB⟩ := h
  have c0 := hB.cell' (i := 0) rfl
  clear hB
  go_enter Tryz.func73, Tryz.ntmps73
  go_wp2
  go_ret
  exact ⟨rfl, rfl⟩
theorem ow_head {w : World} {e : TypeId} {sz n cap : Nat} {ao : Option Addr} {xs : List Value} (h : Ow w e sz (.slice ao n cap) n xs) (hn : 0 < n) : ∃ g, ao = some ⟨g, 0, none⟩ ∧ ∃ rest, Blk w g e (xs ++ rest) := by
  rcases h.blk with ⟨_, h0, _⟩ | ⟨g, cap, rest, h1, h2, _⟩
  · omega
  · injection h1 with h1
    exact ⟨g, h1, rest, h2⟩
theorem Ow.head' {w : World} {e : TypeId} {sz n g cap : Nat} {xs : List Value} (h : Ow w e sz (.slice (some ⟨g, 0, none⟩) n cap) n xs) : ∃ rest, Blk w g e (xs ++ rest) := by
  rcases h.blk with ⟨h0, _⟩ | ⟨g, cap, rest, h1, h2, _⟩
  · cases h0
  · injection h1 with h1
    injection h1 with h1
    injection h1 with h1
    subst h1
    exact ⟨rest, h2⟩
set_option maxRecDepth 1000000 in
set_option maxHeartbeats 8000000 in
theorem rcrash_any (p : Nat) (m : Dm) (L : List Nat) (F : List (Int × Int)) (fv : Value) (w : World) (h : Rk w p m L) (hok : m.ok) (hr : m.row.length ≤ 1000000000) (hF : Fs w fv F) (hFL : F ≠ [] → ∀ b ∈ blks fv, b ∉ L) :
    Calls Tryz.prog 73 #[.pointer (some ⟨p, 0, none⟩), fv] w fun e w' => e = .returned (.int .i64 0) ∧ RkPost w p (m.crash F) L w' := by
  have hs1 := hok.s1
  have hs2 := hok.s2
  have hd := hok.d
  have hrr := hok.r
  obtain ⟨D, R, dp, rp, hB, hm, hL⟩ := h
  have e1 : m.dur.length = dp.length := by rw [hm]; simp [Dm.of]
  have e2 : m.row.length = rp.length := by rw [hm]; simp [Dm.of]
  have e3 : ∀ (j : Nat) (hj : j < rp.length), rp[j].1 < dp.length ∧ rp[j].2.2.length = m.sz := fun j hj => by
    rw [← e1]
    exact hrr (rp[j].1, rp[j].2.2) (by rw [hm]; exact List.mem_map.2 ⟨rp[j], List.getElem_mem hj, rfl⟩)
  have e4 : m.dur = dp.map (·.2) := by rw [hm]; rfl
  have e5 : m.row = rp.map fun x => (x.1, x.2.2) := by rw [hm]; rfl
  have hn1 : 0 < dp.length := by have := hok.n1; omega
  -- the sizes hold of whatever has these rows
  have KP : ∀ (dq : List (Value × List UInt8)) (k a : Int) (L' : List Nat) (w : World), (∀ b ∈ dq.map (·.2), b.length = m.sz) → dq.length = dp.length → RkB w p D R dq rp → Calls Tryz.prog 131 #[.pointer (some ⟨p, 0, none⟩), .agg #[.int .i64 k, .int .i64 a]] w fun e w' => e = .returned (.int .i64 (keptN m.sz k a : Nat)) ∧ Mod [] w w' := fun dq k a L' w hall hlen hb =>
    rkept_any p ⟨m.sz, dq.map (·.2), m.row⟩ (fpR p D R dq rp) k a w ⟨_, _, _, _, hb, by unfold Dm.of; rw [e5], rfl⟩ ⟨hs1, hs2, by simp only [List.length_map]; omega, by simp only [List.length_map]; have := hok.n2; omega, hall, fun x hx => by simp only [List.length_map]; have := hrr x hx; rw [hlen, ← e1]; exact this⟩
  rw [e2] at hr
  obtain ⟨aoD, capD, rfl, hcD, _⟩ := hB.dur.sl.form
  obtain ⟨gD, hgD, _⟩ := ow_head hB.dur hn1
  subst hgD
  obtain ⟨aoR, capR, rfl, hcR, _⟩ := hB.row.sl.form
  obtain ⟨aof, capf, rfl, hcf, _⟩ := hF.form
  obtain ⟨sz, hsz⟩ : ∃ sz, sz = m.sz := ⟨_, rfl⟩
  have hdl : ∀ b ∈ m.dur, b.length = sz := by rw [hsz]; exact hd
  rw [← hsz] at KP hs1 hs2 e3
  obtain ⟨G, hG⟩ : ∃ G : Nat → Nat, G = fun i => clampN (fateK sz F i) sz := ⟨_, rfl⟩
  have hGk : ∀ j (hj : j < F.length), G j = keptN sz F[j].1 F[j].2 := fun j hj => by rw [hG]; unfold fateK keptN; simp only [List.getElem?_eq_getElem hj]
  have hGn : ∀ j, F.length ≤ j → G j = 0 := fun j hj => by rw [hG]; unfold fateK clampN; simp only [List.getElem?_eq_none hj]; simp
  have hGl : ∀ j, G j ≤ sz := fun j => by rw [hG]; exact clampN_le _ _
  rw [show m.crash F = ⟨sz, settleD G m.row m.dur, []⟩ by rw [hG, hsz]; rfl]
  rw [e4] at hdl
  have hfin : ∀ dq : List (Value × List UInt8), dq.map (·.2) = settleD G (rp.map fun x => (x.1, x.2.2)) (dp.map (·.2)) → (⟨sz, settleD G m.row m.dur, []⟩ : Dm) = Dm.of sz dq [] := fun dq h => by rw [e5, e4, ← h]; rfl
  have HFIN := Lib.hid hfin
  have HGK := Lib.hid hGk
  have HGN := Lib.hid hGn
  obtain ⟨FP, hFP⟩ : ∃ F, F = L := ⟨_, rfl⟩
  rw [← hFP] at hFL ⊢
  have HL := Lib.hid (hFP.trans hL)
  have hszg : sz ≤ 4096 := hs2
  have y9 : (dp.length == 0) = false := by rw [beq_eq_false_iff_ne]; omega
  clear hm hL hok hd hrr e1 e2 e4 e5 hsz hfin hFP hn1 hG hGk hGn
  have c0 := hB.blk.cell' (i := 0) rfl
  go_enter Tryz.func73, Tryz.ntmps73
  go_wp2_with fail
  clear c0 y9
  go_loopw [5] (fun i wr => ∃ (j : Nat) (dq : List (Value × List UInt8)), j ≤ rp.length ∧ i = .int .i64 j ∧ RkB wr p (.slice (some ⟨gD, 0, none⟩) dp.length capD) (.slice aoR rp.length capR) dq rp ∧ dq.map (·.1) = dp.map (·.1) ∧ dq.map (·.2) = settleD G ((rp.map fun x => (x.1, x.2.2)).take j) (dp.map (·.2)) ∧ fpR p (.slice (some ⟨gD, 0, none⟩) dp.length capD) (.slice aoR rp.length capR) dq rp = FP ∧ Mod FP w wr) (fun i _ => rp.length - (intOf i).toNat)
  case atStart => exact ⟨0, dp, by omega, rfl, hB, rfl, rfl, HL.out.symm, Mod.refl _ _⟩
  case round =>
    obtain ⟨j, dq, hj, rfl, hBr, hq1, hq2, hq3, hMr⟩ := hrel
    have c1 := hBr.blk.cell' (i := 1) rfl
    by_cases hj2 : j < rp.length
    · have y0 : (j : Int) < rp.length := by omega
      have y1 : (0 : Int) ≤ j := by omega
      have hql : dq.length = dp.length := by simpa using congrArg List.length hq1
      obtain ⟨ha, hbl⟩ := e3 j hj2
      have hall : ∀ b ∈ dq.map (·.2), b.length = sz := by
        intro b hb
        rw [hq2] at hb
        refine settleD_all _ hdl ?_ _ hb
        intro x hx
        obtain ⟨y, hy, rfl⟩ := List.mem_map.1 (List.mem_of_mem_take hx)
        obtain ⟨q, hq, rfl⟩ := List.getElem_of_mem hy
        have := e3 q hq
        exact ⟨by simpa using this.1, this.2⟩
      have KPj := fun k a w h => KP dq k a [] w hall hql h
      obtain ⟨N, hN⟩ : ∃ N, N = G j := ⟨_, rfl⟩
      have hNl : N ≤ sz := by rw [hN]; exact hGl j
      have HN := Lib.hid hN
      have HQ := Lib.hid (And.intro hq1 (And.intro hq2 (And.intro hq3 hql)))
      have HALL := Lib.hid hall
      clear hN hq1 hq2 hq3 hql hall
      go_upto_if 26 with fail
      go_cut [6] (fun u wx => u = .int .i64 (N : Nat) ∧ Mod [] wr wx)
      case first =>
        by_cases hjF : j < F.length
        · have hFr : Fs wr (.slice aof F.length capf) F := Fs.far hF hMr hFL
          obtain ⟨bf, of, cf, hv, _, _, hcell⟩ := hFr.at (by intro h; have := congrArg List.length h; rw [fcells_len] at this; simp only [List.length_nil] at this; omega)
          injection hv with e1 e2 e3'
          subst e1 e3'
          have f0 := hcell _ _ (fcells_at F j hjF).1
          have f1 := hcell _ _ (fcells_at F j hjF).2
          rw [← Nat.add_assoc] at f1
          have hNk : N = keptN sz F[j].1 F[j].2 := HN.out.trans (HGK.out j hjF)
          obtain ⟨k, hkk⟩ : ∃ k, k = F[j].1 := ⟨_, rfl⟩
          obtain ⟨a, haa⟩ : ∃ k, k = F[j].2 := ⟨_, rfl⟩
          rw [← hkk] at f0 hNk
          rw [← haa] at f1 hNk
          have KK := fun w h => KPj k a w h
          rw [← hNk] at KK
          have z1 : (j : Int) < F.length := by omega
          clear hkk haa hcell hNk KPj KP hFr
          go_wp2_with (go_at_call 131; (with_reducible refine (KK _ hBr).mono ?_); rintro e w2 ⟨rfl, hm2⟩)
          go_meet
          exact ⟨rfl, hm2⟩
        · obtain rfl : N = 0 := HN.out.trans (HGN.out j (by omega))
          have z1 : (F.length : Int) ≤ j := by omega
          go_wp2_with fail
          go_meet
          exact ⟨rfl, Mod.refl _ _⟩
      case rest =>
      obtain ⟨rfl, hmc⟩ := hcut
      have hBc := hBr.ext hmc
      have hMc := hMr.ext hmc
      obtain ⟨hq1, hq2, hq3, hql⟩ := HQ.out
      have haq : rp[j].1 < dq.length := by omega
      have hsl : dq[rp[j].1].2.length = sz := HALL.out _ (List.mem_map.2 ⟨dq[rp[j].1], List.getElem_mem haq, rfl⟩)
      have hrj : (rp.map fun x => (x.1, x.2.2))[j]? = some (rp[j].1, rp[j].2.2) := by rw [List.getElem?_map, List.getElem?_eq_getElem hj2]; rfl
      obtain ⟨a, hae⟩ : ∃ a, a = rp[j].1 := ⟨_, rfl⟩
      obtain ⟨b, hbe⟩ : ∃ b, b = rp[j].2.2 := ⟨_, rfl⟩
      have hRB : ∀ (dr : List (Value × List UInt8)) (w : World), RkB w p (.slice (some ⟨gD, 0, none⟩) dp.length capD) (.slice aoR rp.length capR) dr rp → ∃ gR gb cb, aoR = some ⟨gR, 0, none⟩ ∧ rp[j].2.1 = .slice (some ⟨gb, 0, none⟩) sz cb ∧ sz ≤ cb ∧ w.cell? ⟨gR, j * 2, none⟩ = some (.int .i64 (a : Nat)) ∧ w.cell? ⟨gR, j * 2 + 1, none⟩ = some rp[j].2.1 ∧ ∀ (k : Nat) (hk : k < b.length), w.cell? ⟨gb, k, none⟩ = some (.int .u8 (b[k].toNat : Nat)) := fun dr w hb => by
        obtain ⟨gR, hgR, restR, hRb⟩ := ow_head hb.row (by omega)
        obtain ⟨hw0, hw1⟩ := wcells_at rp j hj2
        have hwl : 2 * j + 1 < (wcells rp).length := by rw [wcells_len]; omega
        have hbo := (hb.fam.ob rp[j].2 (List.mem_append_right _ (List.mem_map.2 ⟨rp[j], List.getElem_mem hj2, rfl⟩))).1
        obtain ⟨gb, cb, restb, hvb, hbb, hcb, _⟩ := Ob.headn hbo hbl (by omega)
        refine ⟨gR, gb, cb, hgR, hvb, hcb, ?_, ?_, fun k hk => ?_⟩
        · rw [hae]; exact hRb.cell' (i := j * 2) (by rw [List.getElem?_append_left (by omega), Nat.mul_comm]; exact hw0)
        · exact hRb.cell' (i := j * 2 + 1) (by rw [List.getElem?_append_left (by omega), Nat.mul_comm]; exact hw1)
        · subst hbe
          exact cell_u8 hbb hk
      obtain ⟨va, hva⟩ : ∃ v, v = dq[rp[j].1].1 := ⟨_, rfl⟩
      obtain ⟨old, hold⟩ : ∃ v, v = dq[rp[j].1].2 := ⟨_, rfl⟩
      rw [← hold] at hsl
      have hset0 : dq.set a (va, tear 0 b old) = dq := by
        rw [tear_zero, hva, hold]
        subst hae
        exact List.set_getElem_self _
      have hDA : ∀ (k : Nat) (w : World), RkB w p (.slice (some ⟨gD, 0, none⟩) dp.length capD) (.slice aoR rp.length capR) (dq.set a (va, tear k b old)) rp → ∃ g cap rest, va = .slice (some ⟨g, 0, none⟩) sz cap ∧ sz ≤ cap ∧ w.cell? ⟨gD, a, none⟩ = some va ∧ Blk w g 5 (bv (tear k b old) ++ rest) ∧ cap ≤ 9223372036854775807 ∧ (bv (tear k b old) ++ rest).length = cap := fun k w hb => by
        have hai : a < (dq.set a (va, tear k b old)).length := by rw [List.length_set, hae]; exact haq
        have hag : (dq.set a (va, tear k b old))[a] = (va, tear k b old) := by simp
        have hso := (hb.fam.ob _ (List.mem_append_left _ (List.getElem_mem hai))).1
        rw [hag] at hso
        obtain ⟨g, cap, rest, h1, h2, h3, h4, h5⟩ := Ob.headn hso (tear_len (by rw [hbe]; exact hbl) hsl) (by omega)
        obtain ⟨restD, hDb⟩ := Ow.head' (g := gD) (by have := hb.dur; rwa [List.length_set, hql] at this)
        refine ⟨g, cap, rest, h1, h3, hDb.cell' ?_, h2, h4, h5⟩
        rw [List.getElem?_append_left (by simpa using hai), List.getElem?_map, List.getElem?_eq_getElem hai, hag]
        rfl
      have lb : b.length = sz := by rw [hbe]; exact hbl
      have hab : a < dp.length := by rw [hae]; exact ha
      have haq' : a < dq.length := by rw [hae]; exact haq
      have hvab : va = dq[a].1 := by rw [hva]; subst hae; rfl
      have hold2 : old = dq[a].2 := by rw [hold]; subst hae; rfl
      have HB := Lib.hid (And.intro hrj (And.intro hae (And.intro hbe (And.intro hsl (And.intro lb (And.intro hset0 (And.intro hvab (And.intro hold2 (And.intro hq1 (And.intro hq2 hq3))))))))))
      have HHL := Lib.hid hql
      clear hrj hbe hsl hset0 hvab hold2 hold hae hq1 hq2 hq3 hql hva haq hbl ha c1 KPj KP
      go_wp2_with fail
      go_loopw [7] (fun i wx => ∃ k : Nat, k ≤ N ∧ i = .int .i64 k ∧ RkB wx p (.slice (some ⟨gD, 0, none⟩) dp.length capD) (.slice aoR rp.length capR) (dq.set a (va, tear k b old)) rp ∧ fpR p (.slice (some ⟨gD, 0, none⟩) dp.length capD) (.slice aoR rp.length capR) (dq.set a (va, tear k b old)) rp = FP ∧ Mod FP w wx) (fun i _ => N - (intOf i).toNat)
      case atStart =>
        obtain ⟨_, _, _, _, _, hset0, _, _, _, _, hq3⟩ := HB.out
        exact ⟨0, by omega, rfl, by rw [hset0]; exact hBc, by rw [hset0]; exact hq3, hMc⟩
      case round =>
        obtain ⟨k, hk, rfl, hBk, hfk, hMk⟩ := hrel
        by_cases hlt : k < N
        · have z0 : (k : Int) < N := by omega
          go_wp2_with fail
          refine wp_region_T [⟨0, true, []⟩, ⟨1, true, []⟩, ⟨2, true, []⟩, ⟨3, true, []⟩, ⟨4, true, []⟩, ⟨5, true, []⟩, ⟨6, true, []⟩, ⟨7, true, []⟩, ⟨8, true, []⟩, ⟨9, true, []⟩, ⟨10, true, []⟩, ⟨11, true, []⟩, ⟨12, true, []⟩, ⟨13, true, []⟩, ⟨14, true, []⟩, ⟨15, true, []⟩, ⟨16, true, []⟩, ⟨17, true, []⟩, ⟨18, true, []⟩, ⟨19, true, []⟩, ⟨20, true, []⟩, ⟨21, true, []⟩, ⟨22, true, []⟩, ⟨23, true, []⟩, ⟨24, true, []⟩, ⟨25, true, []⟩, ⟨26, true, []⟩, ⟨27, false, []⟩] (by kernel_rfl) (by kernel_rfl) ?_
          have hM0 := hMk.ext (Mod.drew [] _)
          have hB0 := hBk.ext (Mod.drew [] _)
          obtain ⟨w0, hw0⟩ : ∃ x, x = wr.drew := ⟨_, rfl⟩
          rw [← hw0] at hM0 hB0 ⊢
          clear hw0
          have c0 := hB0.blk.cell' (i := 0) rfl
          have c1 := hB0.blk.cell' (i := 1) rfl
          obtain ⟨gR, gb, cb, rfl, hvb, hcb, r0, r1, rb⟩ := hRB _ _ hB0
          rw [hvb] at r1
          have rbk := rb k (by have := HB.out.2.2.2.2.1; omega)
          obtain ⟨g, cap, rest, hvg, hcap, da, hGb, hcap2, hlen⟩ := hDA k _ hB0
          rw [hvg] at da
          have z1 : (0 : Int) ≤ a := by omega
          have z2 : (a : Int) < dp.length := by omega
          have z3 : (k : Int) < sz := by omega
          obtain ⟨u, hu⟩ : ∃ u, u = b[k]'(by have := HB.out.2.2.2.2.1; omega) := ⟨_, rfl⟩
          rw [← hu] at rbk
          have HU := Lib.hid (And.intro hu (And.intro hvb (And.intro hvg hlen)))
          clear hu rb hvb hvg hRB hDA hlen
          iterate 27 (refine wpT_n rfl rfl (fun K hK => ?_); go_wp2_with fail)
          refine wpT_e0 rfl rfl (fun K hK => ?_)
          refine wp_store1 (by kernel_rfl) (by rfl) (u := .int .u8 (u.toNat : Nat)) (by rfl) ⟨rfl, rfl⟩ hGb (by rw [List.length_append, bv_length, tear_len HB.out.2.2.2.2.1 HB.out.2.2.2.1]; omega) ?_
          intro x3 hmx3 hBx3
          refine hK _ _ ?_
          clear hK K
          have hnew : RkB x3 p (.slice (some ⟨gD, 0, none⟩) dp.length capD) (.slice (some ⟨gR, 0, none⟩) rp.length capR) (dq.set a (va, tear (k + 1) b old)) rp ∧ fpR p (.slice (some ⟨gD, 0, none⟩) dp.length capD) (.slice (some ⟨gR, 0, none⟩) rp.length capR) (dq.set a (va, tear (k + 1) b old)) rp = FP ∧ Mod FP w x3 := by
            obtain ⟨hu, hvb, hvg, hlen⟩ := HU.out
            obtain ⟨_, _, _, hsl, lb, _⟩ := HB.out
            have hai : a < (dq.set a (va, tear k b old)).length := by rw [List.length_set]; exact haq'
            have hag : (dq.set a (va, tear k b old))[a] = (va, tear k b old) := by simp
            rw [bv_set _ _ _ _ (by rw [tear_len lb hsl]; omega), hu, tear_succ lb hsl (by omega)] at hBx3
            have hob : Ob x3 va (tear (k + 1) b old) := by
              rw [hvg]
              unfold Ob
              rw [tear_len lb hsl]
              refine Ow.of_blk hBx3 hcap hcap2 ?_ (by rw [bv_length, tear_len lb hsl, Nat.mul_one])
              rw [List.length_append, bv_length, tear_len lb hsl] at hlen ⊢
              omega
            have ht := hB0.turn (l' := tear (k + 1) b old) hai (by rw [hag, hvg]; simpa [blks] using hmx3) (by rw [hag]; exact hob)
            rw [hag, List.set_set] at ht
            refine ⟨ht.1, ht.2.1.trans hfk, hM0.trans ?_⟩
            rw [← hfk]
            exact ht.2.2
          clear hmx3 hBx3 hGb hB0 hM0 hBk hfk hMk
          refine wpT_nil ?_
          go_wp2_with fail
          go_roundw
          case rel => exact ⟨k + 1, by omega, by go_num, hnew⟩
          case measure => simp [intOf]; omega
        · obtain rfl : N = k := by omega
          go_wp2_with fail
          go_roundw
          case rel =>
            obtain ⟨hrj, hae, hbe, hsl, lb, _, hvab, hold, hq1, hq2, hq3⟩ := HB.out
            refine ⟨j + 1, _, by omega, by go_num, hBk, ?_, ?_, hfk, hMk⟩
            · rw [← hq1, List.map_set]
              apply List.ext_getElem?
              intro i
              rw [List.getElem?_set]
              split
              · subst_vars; simp [haq']
              · rfl
            · have hjl : j < (rp.map fun x => (x.1, x.2.2)).length := by simpa using hj2
              have hjj : (rp.map fun x => (x.1, x.2.2))[j] = (a, b) := by
                rw [List.getElem?_eq_getElem hjl] at hrj
                rw [Option.some.inj hrj, hae, hbe]
              rw [settleD_succ _ _ _ j hjl, hjj, ← hq2, List.map_set]
              unfold stepD
              dsimp only
              rw [← HN.out, List.getD_eq_getElem?_getD, List.getElem?_map, List.getElem?_eq_getElem haq', hold]
              rfl
          case measure => simp [intOf]; omega
    · obtain rfl : j = rp.length := by omega
      have HQ := Lib.hid (And.intro hq1 (And.intro hq2 hq3))
      clear hq1 hq2 hq3
      go_wp2_with (with_reducible refine st_store ?_)
      refine StopOp.go rfl fun K hK => ?_
      refine wp_store1 (by kernel_rfl) (by rfl) (u := (.slice none 0 0)) (by rfl) ⟨rfl, rfl⟩ hBr.blk (by simp) ?_
      intro x1 hmx1 hBx1
      refine hK _ _ ?_
      clear hK K
      have hfi := hBr.clear hmx1 (by simpa using hBx1)
      clear hBx1 c1
      go_wp2_with fail
      go_ret
      obtain ⟨hq1, hq2, hq3⟩ := HQ.out
      refine ⟨rfl, _, ⟨_, _, dq, [], hfi.1, HFIN.out dq (by rw [hq2, List.take_of_length_le (by simp)]), rfl⟩, ?_, ?_⟩
      · rw [hq3] at hfi
        exact hMr.trans hfi.2.2
      · intro k hk
        have := hfi.2.1 k hk
        rw [hq3] at this
        exact .inl this
end Go.Proofs.YtfepggdljhiemaaGreatDoor

/-! The reference's disks: Sync, Copy. -/
namespace Go.Proofs.YtfepggdljhiemaaGreatDoor
open Go.RowKit Gw

theorem fcells_app (A B : List (Int × Int)) : fcells (A ++ B) = fcells A ++ fcells B := by unfold fcells; rw [List.flatMap_append]
theorem crash_keep {m : Dm} {n : Nat} (hn : m.row.length = n) : m.crash (List.replicate n (1, 0)) = m.sync := by
  unfold Dm.crash Dm.sync Dm.settle
  rw [settleD_congr (g' := fun _ => m.sz) fun i hi => ?_]
  unfold fateK clampN
  rw [List.getElem?_replicate, if_pos (by omega)]
  simp
set_option maxHeartbeats 2000000 in
theorem rsync_any (p : Nat) (m : Dm) (L : List Nat) (w : World) (h : Rk w p m L) (hok : m.ok) (hr : m.row.length ≤ 100000000) :
    Calls Tryz.prog 193 #[.pointer (some ⟨p, 0, none⟩)] w fun e w' => e = .returned (.int .i64 0) ∧ RkPost w p m.sync L w' := by
  have CR := fun w' fv hm hF hFL => rcrash_any p m L (List.replicate m.row.length (1, 0)) fv w' (h.ext hm) hok (by omega) hF hFL
  rw [crash_keep rfl] at CR
  have hlt := h.lt
  obtain ⟨D, R, hB, _, aoR, capR, rfl, hcR⟩ := h.blk
  obtain ⟨n, hn⟩ : ∃ n, n = m.row.length := ⟨_, rfl⟩
  rw [← hn] at CR hB hcR hr
  obtain ⟨S, hS⟩ : ∃ S, S = m.sync := ⟨_, rfl⟩
  rw [← hS] at CR ⊢
  clear h hok hn hS
  go_enter Tryz.func193, Tryz.ntmps193
  go_wp2_with fail
  go_loopw [3, 4] (fun o i wr => ∃ k : Nat, k ≤ n ∧ i = .int .i64 k ∧ Ow wr 186 2 o k (fcells (List.replicate k (1, 0))) ∧ (∀ b ∈ blks o, w.heap.size ≤ b) ∧ Mod [] w wr) (fun _ i _ => n - (intOf i).toNat)
  case atStart => exact ⟨0, by omega, rfl, Ow.nil _ _ _, by simp [blks], Mod.refl _ _⟩
  case round =>
    obtain ⟨k, hk, rfl, hO, hN, hM⟩ := hrel
    have hBr := hB.ext hM
    have c1 := hBr.cell' (i := 1) rfl
    obtain ⟨aoo, capo, rfl, hco, _⟩ := hO.sl.form
    by_cases hlt2 : k < n
    · have y0 : (k : Int) < n := by omega
      go_wp2_with (with_reducible refine st_bslice ?_)
      refine StopOp.go rfl fun K hK => ?_
      refine wp_bslice stF [.agg #[.int .i64 1, .int .i64 0]] rfl (by decide) (by rfl) (by simp [Value.cells]) ?_
      intro g w3 hg1 hg2 hm3 hB3
      simp only [put_some, List.set_cons_succ, List.set_cons_zero]
      refine hK _ _ ?_
      clear hK K
      have hS3 : Sl w3 2 (.slice (some ⟨g, 0, none⟩) 1 1) 1 [.int .i64 1, .int .i64 0] := (Ow.of_blk (rest := []) hB3 (Nat.le_refl _) (by omega) rfl rfl : Ow w3 186 2 (.slice (some ⟨g, 0, none⟩) 1 1) 1 [.int .i64 1, .int .i64 0]).sl
      go_wp2_with (with_reducible refine st_append ?_)
      refine StopOp.go rfl fun K hK => ?_
      refine wp_append_ow stF (by rfl) (by rfl) (hO.ext hm3) hS3 (by simp [Value.oneCell']) (by omega) (by omega) ?_
      intro v4 w4 ho4 hm4 hb4
      simp only [put_some, List.set_cons_succ, List.set_cons_zero]
      refine hK _ _ ?_
      clear hK K
      have hM4 : Mod [] w w4 := (hM.ext hm3).fresh hm4 hN
      have hs3 := (hM.ext hm3).size
      have hO4 : Ow w4 186 2 v4 (k + 1) (fcells (List.replicate (k + 1) (1, 0))) := by rw [List.replicate_succ', fcells_app]; exact ho4
      obtain ⟨ao4, cap4, rfl, _, _⟩ := ho4.sl.form
      go_wp2_with fail
      go_roundw
      case rel => exact ⟨k + 1, by omega, by go_num, hO4, fun b hb => (hb4 b hb).elim (hN b) (fun h => by omega), hM4⟩
      case measure => simp [intOf]; omega
    · obtain rfl : n = k := by omega
      have hF : Fs wr (.slice aoo n capo) (List.replicate n (1, 0)) := by
        unfold Fs
        rw [List.length_replicate]
        exact hO.sl
      have hFL : ∀ b ∈ blks (.slice aoo n capo), b ∉ L := fun b hb hh => by have := hN b hb; have := hlt b hh; omega
      go_wp2_with (go_at_call 73; (with_reducible refine (CR _ _ hM hF (fun _ => hFL)).mono ?_); rintro e w5 ⟨rfl, L5, hR5, hm5, hL5⟩)
      go_ret
      exact ⟨rfl, L5, hR5, (hM.weak (by simp)).trans hm5, fun q hq => (hL5 q hq).imp id fun h => Nat.le_trans hM.size h⟩
theorem rsync_no (v : Value) (w : World) (h : NoRk w v) : Calls Tryz.prog 193 #[v] w fun e w' => e = .returned (.int .i64 1) ∧ w = w' := by
  have C := fun fv => rcrash_no v fv w h
  obtain ⟨p, rfl, hB⟩ := h
  have c1 := hB.cell' (i := 1) rfl
  clear hB
  go_enter Tryz.func193, Tryz.ntmps193
  go_wp2_with fail
  go_loopw [3, 4] (fun o i wr => w = wr ∧ o = .slice none 0 0 ∧ i = .int .i64 0) (fun _ i _ => 0)
  case atStart => exact ⟨rfl, rfl, rfl⟩
  case round =>
    obtain ⟨rfl, rfl, rfl⟩ := hrel
    go_wp2_with (go_at_call 73; (with_reducible refine (C _).mono ?_); rintro e w2 ⟨rfl, rfl⟩)
    go_ret
    exact ⟨rfl, rfl⟩
end Go.Proofs.YtfepggdljhiemaaGreatDoor
