import Derived.Test.YtfepggdljhiemaaDoorGDi
/-! The reference's disks: how they lie in memory, and what a step makes of one. -/
set_option linter.unusedVariables false
set_option linter.unusedSimpArgs false
set_option maxRecDepth 100000
namespace Go.Proofs.YtfepggdljhiemaaDoor
open Go.RowKit Gw

theorem stKW : ST Tryd.prog 120 171 (.agg #[.int .i64 0, .slice none 0 0]) 2 32 := ⟨Tryd.underlying120, by kernel_rfl, rfl, by decide⟩
structure RkB (w : World) (p : Nat) (D R : Value) (dp : List (Value × List UInt8)) (rp : List (Nat × Value × List UInt8)) : Prop where
  blk : Blk w p 122 [D, R]
  dur : Ow w 23 1 D dp.length (dp.map (·.1))
  row : Ow w 171 2 R rp.length (wcells rp)
  fam : Fam w 0 (dp ++ rp.map (·.2))
def fpR (p : Nat) (D R : Value) (dp : List (Value × List UInt8)) (rp : List (Nat × Value × List UInt8)) : List Nat := p :: (blks D ++ blks R ++ (dp ++ rp.map (·.2)).flatMap fun x => blks x.1)
section
variable {w w' : World} {p : Nat} {D R : Value} {dp : List (Value × List UInt8)} {rp : List (Nat × Value × List UInt8)} {L : List Nat}
theorem RkB.mod (h : RkB w p D R dp rp) (hm : Mod L w w') (hL : ∀ b ∈ fpR p D R dp rp, b ∉ L) : RkB w' p D R dp rp := by
  unfold fpR at hL
  exact ⟨h.blk.mod hm (hL p (by simp)), h.dur.mod hm (fun b hb => hL b (by simp [hb])), h.row.mod hm (fun b hb => hL b (by simp [hb])),
    h.fam.mod hm fun q hq b hb => hL b (List.mem_cons_of_mem _ (List.mem_append_right _ (List.mem_flatMap.2 ⟨q, hq, hb⟩)))⟩
theorem RkB.ext (h : RkB w p D R dp rp) (hm : Mod [] w w') : RkB w' p D R dp rp := h.mod hm (by simp)
theorem RkB.lt (h : RkB w p D R dp rp) : ∀ b ∈ fpR p D R dp rp, b < w.heap.size := by
  intro b hb
  unfold fpR at hb
  rcases List.mem_cons.1 hb with rfl | hb
  · exact h.blk.lt
  rcases List.mem_append.1 hb with hb | hb
  · rcases List.mem_append.1 hb with hb | hb
    · exact h.dur.lt b hb
    · exact h.row.lt b hb
  · obtain ⟨q, hq, hb⟩ := List.mem_flatMap.1 hb
    exact Ow.lt (h.fam.ob q hq).1 b hb
end
/-- a disk of the reference, in the blocks L -/
def Rk (w : World) (p : Nat) (m : Dm) (L : List Nat) : Prop := ∃ D R dp rp, RkB w p D R dp rp ∧ m = Dm.of m.sz dp rp ∧ L = fpR p D R dp rp
section
variable {w w' : World} {p : Nat} {m : Dm} {L L2 : List Nat}
theorem Rk.mod (h : Rk w p m L) (hm : Mod L2 w w') (hL : ∀ b ∈ L, b ∉ L2) : Rk w' p m L := by
  obtain ⟨D, R, dp, rp, h1, h2, h3⟩ := h
  exact ⟨D, R, dp, rp, h1.mod hm (h3 ▸ hL), h2, h3⟩
theorem Rk.ext (h : Rk w p m L) (hm : Mod [] w w') : Rk w' p m L := h.mod hm (by simp)
theorem Rk.lt (h : Rk w p m L) : ∀ b ∈ L, b < w.heap.size := by
  obtain ⟨D, R, dp, rp, h1, h2, rfl⟩ := h
  exact h1.lt
theorem Rk.blk (h : Rk w p m L) : ∃ D R, Blk w p 122 [D, R] ∧ (∃ ao cap, D = .slice ao m.dur.length cap ∧ m.dur.length ≤ cap) ∧ ∃ ao cap, R = .slice ao m.row.length cap ∧ m.row.length ≤ cap := by
  obtain ⟨D, R, dp, rp, h1, h2, h3⟩ := h
  obtain ⟨ao, cap, hD, hc, _⟩ := h1.dur.sl.form
  obtain ⟨ao', cap', hR, hc', _⟩ := h1.row.sl.form
  have e1 : m.dur.length = dp.length := by rw [h2]; simp [Dm.of]
  have e2 : m.row.length = rp.length := by rw [h2]; simp [Dm.of]
  refine ⟨D, R, h1.blk, ⟨ao, cap, by rw [e1]; exact hD, by omega⟩, ⟨ao', cap', by rw [e2]; exact hR, by omega⟩⟩
end
def RkPost (w : World) (p : Nat) (m' : Dm) (L : List Nat) (w' : World) : Prop := ∃ L', Rk w' p m' L' ∧ Mod L w w' ∧ ∀ k ∈ L', k ∈ L ∨ w.heap.size ≤ k
section
variable {w0 w3 w4 w5 : World} {p : Nat} {D R v : Value} {dp : List (Value × List UInt8)} {rp : List (Nat × Value × List UInt8)} {l : List UInt8}
theorem RkB.sector {D' : Value} (h : RkB w0 p D R dp rp) (hm3 : Mod [] w0 w3) (ho : Ob w3 v l) (hn : New w0 v) (hD : Ow w4 23 1 D' (dp.length + 1) (dp.map (·.1) ++ [v])) (hm4 : Mod (blks D) w3 w4) (hb4 : ∀ k ∈ blks D', k ∈ blks D ∨ w3.heap.size ≤ k)
    (hm5 : Mod [p] w4 w5) (hB : Blk w5 p 122 [D', R]) :
    RkB w5 p D' R (dp ++ [(v, l)]) rp ∧ (∀ k ∈ fpR p D' R (dp ++ [(v, l)]) rp, k ∈ fpR p D R dp rp ∨ w0.heap.size ≤ k) ∧ Mod (fpR p D R dp rp) w0 w5 := by
  have h3 := h.ext hm3
  have hp4 : Blk w4 p 122 _ := h3.blk.mod hm4 (Ow.ne h3.dur h3.blk (by decide))
  have hf3 : Fam w3 0 (dp ++ (v, l) :: rp.map (·.2)) := Fam.ins h.fam (Nat.zero_le _) hm3 ho hn
  have hf4 := hf3.atOw h3.dur hm4 (by decide)
  have hr4 : Ow w4 171 2 R rp.length (wcells rp) := h3.row.mod hm4 (Ow.disj h3.row h3.dur (by decide))
  refine ⟨⟨hB, ?_, hr4.mod hm5 (fun b hb hg => Ow.ne hr4 hp4 (by decide) (by have : b = p := (by simpa using hg); exact this ▸ hb)), ?_⟩, ?_, ?_⟩
  · have := hD.mod hm5 (fun b hb hg => Ow.ne hD hp4 (by decide) (by have : b = p := (by simpa using hg); exact this ▸ hb))
    simpa using this
  · have := hf4.at hm5 hp4 (by decide)
    simpa using this
  · intro k hk
    unfold fpR at hk ⊢
    simp only [List.mem_cons, List.mem_append, List.mem_flatMap] at hk ⊢
    rcases hk with hk | (hk | hk) | ⟨x, hx, hk⟩
    · exact .inl (.inl hk)
    · rcases hb4 k hk with hk | hk
      · exact .inl (.inr (.inl (.inl hk)))
      · exact .inr (Nat.le_trans hm3.size hk)
    · exact .inl (.inr (.inl (.inr hk)))
    · rcases hx with (hx | hx | hx) | hx
      · exact .inl (.inr (.inr ⟨x, .inl hx, hk⟩))
      · subst hx; exact .inr (hn k hk)
      · cases hx
      · exact .inl (.inr (.inr ⟨x, .inr hx, hk⟩))
  · exact ((hm3.weak (by simp)).then hm4 (fun g hg => .inl (by simp [fpR, hg]))).then hm5 (fun g hg => .inl (by have : g = p := (by simpa using hg); simp [fpR, this]))
theorem RkB.wait {R' : Value} {at_ : Nat} (h : RkB w0 p D R dp rp) (hm3 : Mod [] w0 w3) (ho : Ob w3 v l) (hn : New w0 v) (hR : Ow w4 171 2 R' (rp.length + 1) (wcells rp ++ [.int .i64 (at_ : Nat), v])) (hm4 : Mod (blks R) w3 w4) (hb4 : ∀ k ∈ blks R', k ∈ blks R ∨ w3.heap.size ≤ k)
    (hm5 : Mod [p] w4 w5) (hB : Blk w5 p 122 [D, R']) :
    RkB w5 p D R' dp (rp ++ [(at_, v, l)]) ∧ (∀ k ∈ fpR p D R' dp (rp ++ [(at_, v, l)]), k ∈ fpR p D R dp rp ∨ w0.heap.size ≤ k) ∧ Mod (fpR p D R dp rp) w0 w5 := by
  have h3 := h.ext hm3
  have hp4 : Blk w4 p 122 _ := h3.blk.mod hm4 (Ow.ne h3.row h3.blk (by decide))
  have hf3 : Fam w3 0 ((dp ++ rp.map (·.2)) ++ (v, l) :: []) := Fam.ins (by simpa using h.fam) (Nat.zero_le _) hm3 ho hn
  have hf4 := hf3.atOw h3.row hm4 (by decide)
  have hf5 := hf4.at hm5 hp4 (by decide)
  have hd4 : Ow w4 23 1 D dp.length (dp.map (·.1)) := h3.dur.mod hm4 (Ow.disj h3.dur h3.row (by decide))
  have hd5 := hd4.mod hm5 (fun b hb hg => Ow.ne hd4 hp4 (by decide) (by have : b = p := (by simpa using hg); exact this ▸ hb))
  have hR5 := hR.mod hm5 (fun b hb hg => Ow.ne hR hp4 (by decide) (by have : b = p := (by simpa using hg); exact this ▸ hb))
  refine ⟨⟨hB, hd5, ?_, ?_⟩, ?_, ?_⟩
  · rw [wcells_app]
    simpa [wcells] using hR5
  · simpa using hf5
  · intro k hk
    unfold fpR at hk ⊢
    simp only [List.mem_cons, List.mem_append, List.mem_flatMap, List.map_append, List.map_cons, List.map_nil] at hk ⊢
    rcases hk with hk | (hk | hk) | ⟨x, hx, hk⟩
    · exact .inl (.inl hk)
    · exact .inl (.inr (.inl (.inl hk)))
    · rcases hb4 k hk with hk | hk
      · exact .inl (.inr (.inl (.inr hk)))
      · exact .inr (Nat.le_trans hm3.size hk)
    · rcases hx with hx | hx | hx | hx
      · exact .inl (.inr (.inr ⟨x, .inl hx, hk⟩))
      · exact .inl (.inr (.inr ⟨x, .inr hx, hk⟩))
      · subst hx; exact .inr (hn k hk)
      · cases hx
  · exact ((hm3.weak (by simp)).then hm4 (fun g hg => .inl (by simp [fpR, hg]))).then hm5 (fun g hg => .inl (by have : g = p := (by simpa using hg); simp [fpR, this]))
theorem RkB.turn {w w' : World} {i : Nat} {l' : List UInt8} (h : RkB w p D R dp rp) (hi : i < dp.length) (hm : Mod (blks dp[i].1) w w') (ho : Ob w' dp[i].1 l') :
    RkB w' p D R (dp.set i (dp[i].1, l')) rp ∧ fpR p D R (dp.set i (dp[i].1, l')) rp = fpR p D R dp rp ∧ Mod (fpR p D R dp rp) w w' := by
  have e1 : dp = dp.take i ++ (dp[i].1, dp[i].2) :: dp.drop (i + 1) := by
    have := List.take_append_drop i dp
    rw [List.drop_eq_getElem_cons hi] at this
    exact this.symm
  have e2 : dp.set i (dp[i].1, l') = dp.take i ++ (dp[i].1, l') :: dp.drop (i + 1) := by
    rw [List.set_eq_take_append_cons_drop, if_pos hi]
  have hob : Ob w dp[i].1 dp[i].2 := (h.fam.ob dp[i] (List.mem_append_left _ (List.getElem_mem hi))).1
  have hf : Fam w 0 (dp.take i ++ (dp[i].1, dp[i].2) :: (dp.drop (i + 1) ++ rp.map (·.2))) := by
    have := h.fam
    rw [e1] at this
    simpa using this
  have hf' := hf.upd hm ho
  have hmap : (dp.set i (dp[i].1, l')).map (·.1) = dp.map (·.1) := by
    rw [List.map_set]
    apply List.ext_getElem?
    intro j
    rw [List.getElem?_set]
    split
    · subst_vars; simp [hi]
    · rfl
  have hfl : (dp.set i (dp[i].1, l') ++ rp.map (·.2)).flatMap (fun x => blks x.1) = (dp ++ rp.map (·.2)).flatMap (fun x => blks x.1) := by
    rw [List.flatMap_append, List.flatMap_append]
    congr 1
    rw [List.flatMap_def, List.flatMap_def]
    congr 1
    have := congrArg (List.map blks) hmap
    simpa [Function.comp_def] using this
  refine ⟨⟨h.blk.mod hm (Ow.ne hob h.blk (by decide)), ?_, h.row.mod hm (fun b hb hb2 => Ow.disj h.row hob (by decide) b hb hb2), ?_⟩, ?_, ?_⟩
  · rw [hmap, List.length_set]
    exact h.dur.mod hm (fun b hb hb2 => Ow.disj h.dur hob (by decide) b hb hb2)
  · rw [e2]
    simpa using hf'
  · unfold fpR; rw [hfl]
  · exact hm.weak fun g hg => .inl (by
      unfold fpR
      refine List.mem_cons_of_mem _ (List.mem_append_right _ (List.mem_flatMap.2 ⟨dp[i], List.mem_append_left _ (List.getElem_mem hi), hg⟩)))
theorem RkB.clear {w w1 : World} (h : RkB w p D R dp rp) (hm1 : Mod [p] w w1) (hB : Blk w1 p 122 [D, .slice none 0 0]) :
    RkB w1 p D (.slice none 0 0) dp [] ∧ (∀ k ∈ fpR p D (.slice none 0 0) dp [], k ∈ fpR p D R dp rp) ∧ Mod (fpR p D R dp rp) w w1 := by
  have hf : Fam w 0 dp := h.fam.sub
  have hf1 := hf.at hm1 h.blk (by decide)
  have hd1 := h.dur.mod hm1 (fun b hb hg => Ow.ne h.dur h.blk (by decide) (by have : b = p := (by simpa using hg); exact this ▸ hb))
  refine ⟨⟨hB, hd1, Ow.nil _ _ _, by simpa using hf1⟩, ?_, ?_⟩
  · intro k hk
    unfold fpR at hk ⊢
    simp only [List.mem_cons, List.mem_append, List.mem_flatMap, List.map_nil, List.append_nil] at hk ⊢
    rcases hk with hk | (hk | hk) | ⟨x, hx, hk⟩
    · exact .inl hk
    · exact .inr (.inl (.inl hk))
    · simp [blks] at hk
    · exact .inr (.inr ⟨x, .inl hx, hk⟩)
  · exact hm1.weak (fun g hg => .inl (by have : g = p := (by simpa using hg); simp [fpR, this]))
end
end Go.Proofs.YtfepggdljhiemaaDoor

/-! The reference's disks: May, twin, New, Sectors, Size, wrong, Waiting. -/
namespace Go.Proofs.YtfepggdljhiemaaDoor
open Go.RowKit Gw

set_option maxHeartbeats 4000000 in
theorem rmay_any (s z : Int) (c : Bool) (w : World) (hc : mayD s z = c) : Calls Tryd.prog 69 #[.int .i64 s, .int .i64 z] w fun e w' => e = .returned (.bool c) ∧ w = w' := by
  unfold mayD at hc
  by_cases h1 : 64 ≤ z
  · have eh1 : decide (64 ≤ z) = true := decide_eq_true h1
    by_cases h2 : z ≤ 4096
    · have eh2 : decide (z ≤ 4096) = true := decide_eq_true h2
      cases h3 : (bits .and .i64 z (z - 1) == 0) with
      | true =>
        by_cases h4 : 1 ≤ s
        · have eh4 : decide (1 ≤ s) = true := decide_eq_true h4
          by_cases h5 : s ≤ 65536
          · have eh5 : decide (s ≤ 65536) = true := decide_eq_true h5
            have hmb := mul_bound h4 h5 h1 h2
            have q1 := hmb.1
            have q2 := hmb.2
            clear hmb
            have hc' : decide (s * z ≤ 67108864) = c := by simpa [h1, h2, h4, h5, h3] using hc
            clear hc
            go_enter Tryd.func69, Tryd.ntmps69
            go_wp2
            go_ret
            exact ⟨rfl, rfl⟩
          · have eh5 : decide (s ≤ 65536) = false := decide_eq_false h5
            obtain rfl : c = false := by rw [← hc, eh5]; simp
            clear hc
            go_enter Tryd.func69, Tryd.ntmps69
            go_wp2
            go_ret
            exact ⟨rfl, rfl⟩
        · have eh4 : decide (1 ≤ s) = false := decide_eq_false h4
          obtain rfl : c = false := by rw [← hc, eh4]; simp
          clear hc
          go_enter Tryd.func69, Tryd.ntmps69
          go_wp2
          go_ret
          exact ⟨rfl, rfl⟩
      | false =>
        obtain rfl : c = false := by rw [← hc, h3]; simp
        clear hc
        go_enter Tryd.func69, Tryd.ntmps69
        go_wp2
        go_ret
        exact ⟨rfl, rfl⟩
    · have eh2 : decide (z ≤ 4096) = false := decide_eq_false h2
      obtain rfl : c = false := by rw [← hc, eh2]; simp
      clear hc
      go_enter Tryd.func69, Tryd.ntmps69
      go_wp2
      go_ret
      exact ⟨rfl, rfl⟩
  · have eh1 : decide (64 ≤ z) = false := decide_eq_false h1
    obtain rfl : c = false := by rw [← hc, eh1]; simp
    clear hc
    go_enter Tryd.func69, Tryd.ntmps69
    go_wp2
    go_ret
    exact ⟨rfl, rfl⟩
/-- a disk of the reference that is none -/
def NoRk (w : World) (v : Value) : Prop := ∃ p, v = .pointer (some ⟨p, 0, none⟩) ∧ Blk w p 122 [.slice none 0 0, .slice none 0 0]
theorem NoRk.ext {w w' : World} {v : Value} (h : NoRk w v) (hm : Mod [] w w') : NoRk w' v := by
  obtain ⟨p, h1, h2⟩ := h
  exact ⟨p, h1, h2.ext hm⟩
def OwnR (w0 w : World) (p : Nat) (m : Dm) (L : List Nat) : Prop := Rk w p m L ∧ ∀ k ∈ L, w0.heap.size ≤ k
theorem OwnR.ext {w0 w w' : World} {p : Nat} {m : Dm} {L : List Nat} (h : OwnR w0 w p m L) (hm : Mod [] w w') : OwnR w0 w' p m L := ⟨h.1.ext hm, h.2⟩
theorem rnew_no (s z : Int) (w : World) (h : mayD s z = false) : Calls Tryd.prog 41 #[.int .i64 s, .int .i64 z] w fun e w' => ∃ q, e = .returned (.tuple #[.pointer (some ⟨q, 0, none⟩), .int .i64 2]) ∧ Blk w' q 122 [.slice none 0 0, .slice none 0 0] ∧ w.heap.size ≤ q ∧ Mod [] w w' := by
  have M := fun w => rmay_any s z false w h
  clear h
  go_enter Tryd.func41, Tryd.ntmps41
  go_wp2_with (with_reducible refine st_box ?_)
  refine StopOp.go rfl fun K hK => ?_
  refine wp_box (v := .agg #[.slice none 0 0, .slice none 0 0]) (by rfl) ?_
  intro p w1 hp1 hp2 hm1 hB1
  simp only [put_some, List.set_cons_succ, List.set_cons_zero]
  refine hK _ _ ?_
  clear hK K
  go_wp2_with (go_at_call 69; (with_reducible refine (M _).mono ?_); rintro e w2 ⟨rfl, rfl⟩)
  go_ret2
  exact ⟨p, rfl, hB1, hp1, hm1⟩
def NewR (s z : Nat) (w : World) (e : Ending) (w' : World) : Prop := ∃ p L, e = .returned (.tuple #[.pointer (some ⟨p, 0, none⟩), .int .i64 0]) ∧ OwnR w w' p ⟨z, List.replicate s (zeros z), []⟩ L ∧ Mod [] w w'
set_option maxRecDepth 1000000 in
set_option maxHeartbeats 4000000 in
theorem rnew_yes (s z : Nat) (w : World) (h : mayD s z = true) : Calls Tryd.prog 41 #[.int .i64 (s : Nat), .int .i64 (z : Nat)] w (NewR s z w) := by
  have M := fun w => rmay_any s z true w h
  obtain ⟨h1, h2, h3, h4⟩ := mayD_parts h
  clear h
  go_enter Tryd.func41, Tryd.ntmps41
  go_wp2_with (with_reducible refine st_box ?_)
  refine StopOp.go rfl fun K hK => ?_
  refine wp_box (v := .agg #[.slice none 0 0, .slice none 0 0]) (by rfl) ?_
  intro p w2 hp1 hp2 hmp hB2
  simp only [put_some, List.set_cons_succ, List.set_cons_zero]
  refine hK _ _ ?_
  clear hK K
  have hDk : RkB w2 p (.slice none 0 0) (.slice none 0 0) [] [] := ⟨hB2, Ow.nil _ _ _, Ow.nil _ _ _, Fam.nil _ _⟩
  have hfp : ∀ k ∈ fpR p (.slice none 0 0) (.slice none 0 0) [] [], w.heap.size ≤ k := by
    intro k hk
    simp [fpR, blks] at hk
    omega
  clear hB2
  go_wp2_with (go_at_call 69; (with_reducible refine (M _).mono ?_); rintro e w3 ⟨rfl, rfl⟩)
  go_loopw [7] (fun i wr => ∃ (k : Nat) (D : Value) (dp : List (Value × List UInt8)), k ≤ s ∧ i = .int .i64 k ∧ RkB wr p D (.slice none 0 0) dp [] ∧ dp.map (·.2) = List.replicate k (zeros z) ∧ (∀ k ∈ fpR p D (.slice none 0 0) dp [], w.heap.size ≤ k) ∧ Mod [] w wr) (fun i _ => s - (intOf i).toNat)
  case atStart => exact ⟨0, _, [], by omega, rfl, hDk, rfl, hfp, hmp⟩
  case round =>
    obtain ⟨k, D, dp, hk, rfl, hB, hdp, hf, hMr⟩ := hrel
    by_cases hlt : k < s
    · obtain ⟨aoD, capD, rfl, hcD, _⟩ := hB.dur.sl.form
      have hdl : dp.length = k := by have := congrArg List.length hdp; simpa using this
      have y0 : (k : Int) < s := by omega
      have y1 : (z : Int) ≤ 4096 := h4
      have HDP := Lib.hid hdp
      have HDL := Lib.hid hdl
      clear hdp hdl
      go_wp2_with fail
      refine wp_region_T [⟨0, true, []⟩, ⟨1, true, []⟩, ⟨2, true, []⟩, ⟨3, true, []⟩, ⟨4, true, []⟩, ⟨5, true, []⟩, ⟨6, false, [2, 4]⟩, ⟨7, false, [2, 4]⟩, ⟨8, false, []⟩, ⟨9, true, []⟩, ⟨10, true, []⟩, ⟨11, false, []⟩] (by kernel_rfl) (by kernel_rfl) ?_
      have hm0 : Mod [] wr wr.drew := Mod.drew [] _
      have hB0 := hB.ext hm0
      obtain ⟨w0, hw0⟩ : ∃ x, x = wr.drew := ⟨_, rfl⟩
      rw [← hw0] at hB0 hm0 ⊢
      clear hw0
      have c1 := hB0.blk.cell' (i := 0) rfl
      iterate 6 (refine wpT_n rfl rfl (fun K hK => ?_); go_wp2_with fail)
      refine wpT_e rfl rfl (fun K hK => ?_)
      refine wp_make (nl := z) (nc := z) stB (by rfl) (by rfl) rfl rfl (Nat.le_refl _) (by omega) (by omega) ?_
      intro g x1 hg1 hg2 hmx1 hBx1
      simp only [put_some, List.set_cons_succ, List.set_cons_zero]
      refine hK _ _ ⟨agains_cons rfl (again_const (fun _ => rfl)) (agains_cons rfl (again_load rfl rfl (hmx1.block p hB0.blk.lt (by simp)) hB0.blk.kinds) agains_nil), ?_⟩
      clear hK K
      have hob1 := Ob.made hBx1 (by omega)
      have hn1 : New w0 (.slice (some ⟨g, 0, none⟩) z z) := fun q hq => by rw [show q = g by simpa [blks] using hq]; exact hg1
      refine wpT_e rfl rfl (fun K hK => ?_)
      refine wp_bslice stDR [.slice (some ⟨g, 0, none⟩) z z] rfl (by decide) (by rfl) (by simp [Value.cells]) ?_
      intro q x2 hq1 hq2 hmx2 hBx2
      simp only [put_some, List.set_cons_succ, List.set_cons_zero]
      have hB1 := hB0.ext hmx1
      refine hK _ _ ⟨agains_cons rfl (again_const (fun _ => rfl)) (agains_cons rfl (again_load rfl rfl (hmx2.block p hB1.blk.lt (by simp)) hB1.blk.kinds) agains_nil), ?_⟩
      clear hK K
      have hS2 : Sl x2 1 (.slice (some ⟨q, 0, none⟩) 1 1) 1 [.slice (some ⟨g, 0, none⟩) z z] := (Ow.of_blk (rest := []) hBx2 (Nat.le_refl _) (by omega) rfl rfl : Ow x2 23 1 (.slice (some ⟨q, 0, none⟩) 1 1) 1 [.slice (some ⟨g, 0, none⟩) z z]).sl
      have hB2 := hB1.ext hmx2
      refine wpT_e0 rfl rfl (fun K hK => ?_)
      refine wp_append_ow stDR (by rfl) (by rfl) hB2.dur hS2 (by simp [Value.oneCell']) (by have := HDL.out; omega) (by have := HDL.out; omega) ?_
      intro D4 x4 hD4 hmx4 hb4
      simp only [put_some, List.set_cons_succ, List.set_cons_zero]
      refine hK _ _ ?_
      clear hK K
      have hp4 : Blk x4 p 122 _ := hB2.blk.mod hmx4 (Ow.ne hB2.dur hB2.blk (by decide))
      iterate 2 (refine wpT_n rfl rfl (fun K hK => ?_); go_wp2_with fail)
      refine wpT_e0 rfl rfl (fun K hK => ?_)
      refine wp_store1 (by kernel_rfl) (by rfl) (by rfl) hD4.sl.one hp4 (by simp) ?_
      intro x5 hmx5 hBx5
      refine hK _ _ ?_
      clear hK K
      have hfin := hB0.sector (hmx1.ext hmx2) (hob1.ext hmx2) hn1 hD4 hmx4 hb4 hmx5 (by simpa using hBx5)
      have hs0 := hMr.size
      have hs1 := hm0.size
      have hM5 : Mod [] w x5 := (hMr.ext hm0).fresh hfin.2.2 hf
      refine wpT_nil ?_
      go_wp2_with fail
      go_roundw
      case rel => exact ⟨k + 1, D4, _, by omega, by go_num, hfin.1, by rw [List.map_append, HDP.out, List.replicate_succ']; rfl, fun q hq => (hfin.2.1 q hq).elim (hf q) (fun h => by omega), hM5⟩
      case measure => simp [intOf]; omega
    · obtain rfl : k = s := by omega
      go_wp2_with fail
      go_ret2
      exact ⟨p, _, rfl, ⟨⟨_, _, _, _, hB, by unfold Dm.of; rw [hdp]; rfl, rfl⟩, hf⟩, hMr⟩
theorem rSectors_any (p : Nat) (m : Dm) (L : List Nat) (w : World) (h : Rk w p m L) : Calls Tryd.prog 87 #[.pointer (some ⟨p, 0, none⟩)] w fun e w' => e = .returned (.int .i64 (m.dur.length : Nat)) ∧ w = w' := by
  obtain ⟨D, R, hB, ⟨ao, cap, rfl, _⟩, ao', cap', rfl, _⟩ := h.blk
  have c0 := hB.cell' (i := 0) rfl
  clear h
  go_enter Tryd.func87, Tryd.ntmps87
  go_wp2
  go_ret
  exact ⟨rfl, rfl⟩
theorem rSectors_no (v : Value) (w : World) (h : NoRk w v) : Calls Tryd.prog 87 #[v] w fun e w' => e = .returned (.int .i64 0) ∧ w = w' := by
  obtain ⟨p, rfl, hB⟩ := h
  have c0 := hB.cell' (i := 0) rfl
  clear hB
  go_enter Tryd.func87, Tryd.ntmps87
  go_wp2
  go_ret
  exact ⟨rfl, rfl⟩
end Go.Proofs.YtfepggdljhiemaaDoor

/-! The reference's disks: Write, Read, Image. -/
namespace Go.Proofs.YtfepggdljhiemaaDoor
open Go.RowKit Gw

end Go.Proofs.YtfepggdljhiemaaDoor

/-! The reference's disks: Read, Image, kept. -/
namespace Go.Proofs.YtfepggdljhiemaaDoor
open Go.RowKit Gw

theorem find_last {α : Type} (P : α → Bool) (l : List α) (k : Nat) (hk : k < l.length) (hp : P l[k] = true) (hne : ∀ j (hj : j < l.length), k < j → P l[j] = false) : l.reverse.find? P = some l[k] := by
  have e : l = l.take k ++ l[k] :: l.drop (k + 1) := by
    have := List.take_append_drop k l
    rw [List.drop_eq_getElem_cons hk] at this
    exact this.symm
  have hd : (l.drop (k + 1)).reverse.find? P = none := by
    rw [List.find?_eq_none]
    intro x hx
    obtain ⟨i, hi, rfl⟩ := List.getElem_of_mem (List.mem_reverse.1 hx)
    rw [List.getElem_drop]
    simp at hi
    simp [hne (k + 1 + i) (by omega) (by omega)]
  have : l.reverse = (l.drop (k + 1)).reverse ++ l[k] :: (l.take k).reverse := by
    conv => lhs; rw [e]
    simp
  rw [this, List.find?_append, hd, List.find?_cons, hp]
  rfl
theorem read_last {sz : Nat} {dp : List (Value × List UInt8)} {rp : List (Nat × Value × List UInt8)} {a k : Nat} (hk : k < rp.length) (he : rp[k].1 = a) (hne : ∀ j (hj : j < rp.length), k < j → rp[j].1 ≠ a) : (Dm.of sz dp rp).read a = rp[k].2.2 := by
  unfold Dm.read Dm.of
  dsimp only
  have := find_last (fun x : Nat × List UInt8 => decide (x.1 = a)) (rp.map fun x => (x.1, x.2.2)) k (by simpa using hk) (by simp [he]) (fun j hj hkj => by
    have := hne j (by simpa using hj) hkj
    simpa using this)
  rw [this]
  simp
theorem read_none {sz : Nat} {dp : List (Value × List UInt8)} {rp : List (Nat × Value × List UInt8)} {a : Nat} (hne : ∀ j (hj : j < rp.length), rp[j].1 ≠ a) (ha : a < dp.length) : (Dm.of sz dp rp).read a = dp[a].2 := by
  unfold Dm.read Dm.of
  dsimp only
  have : (rp.map fun x => (x.1, x.2.2)).reverse.find? (fun x => decide (x.1 = a)) = none := by
    rw [List.find?_eq_none]
    intro x hx
    obtain ⟨y, hy, rfl⟩ := List.mem_map.1 (List.mem_reverse.1 hx)
    obtain ⟨i, hi, rfl⟩ := List.getElem_of_mem hy
    simpa using hne i hi
  rw [this]
  simp [List.getElem?_eq_getElem ha]
/-- how much of a write becomes durable -/
def keptN (sz : Nat) (k a : Int) : Nat := clampN (if k = 1 then sz else if k = 2 then a else 0) sz
end Go.Proofs.YtfepggdljhiemaaDoor

/-! The reference's disks: Crash, Sync. -/
namespace Go.Proofs.YtfepggdljhiemaaDoor
open Go.RowKit Gw

theorem tear_at {k n i : Nat} {b old : List UInt8} (hb : b.length = n) (ho : old.length = n) (hk : k ≤ n) : (tear k b old)[i]? = if i < k then b[i]? else old[i]? := by
  unfold tear
  split
  · rename_i h
    rw [List.getElem?_append_left (by rw [List.length_take]; omega), List.getElem?_take_of_lt h]
  · rename_i h
    rw [List.getElem?_append_right (by rw [List.length_take]; omega), List.getElem?_drop, List.length_take]
    congr 1
    omega
theorem tear_succ {k n : Nat} {b old : List UInt8} (hb : b.length = n) (ho : old.length = n) (hk : k < n) : (tear k b old).set k (b[k]'(by omega)) = tear (k + 1) b old := by
  apply List.ext_getElem?
  intro i
  rw [tear_at hb ho (by omega), List.getElem?_set, tear_len hb ho, tear_at hb ho (by omega)]
  by_cases hin : k = i
  · subst hin
    rw [if_pos rfl, if_pos (by omega), if_pos (by omega), List.getElem?_eq_getElem]
  · rw [if_neg hin]
    by_cases h1 : i < k
    · rw [if_pos h1, if_pos (by omega)]
    · rw [if_neg h1, if_neg (by omega)]
theorem tear_zero (b old : List UInt8) : tear 0 b old = old := by simp [tear]
theorem settleD_congr {g g' : Nat → Nat} {row : List (Nat × List UInt8)} (h : ∀ i, i < row.length → g i = g' i) (d : List (List UInt8)) : settleD g row d = settleD g' row d := by
  unfold settleD
  have key : ∀ (l : List ((Nat × List UInt8) × Nat)) (d : List (List UInt8)), (∀ x ∈ l, x.2 < row.length) → l.foldl (stepD g) d = l.foldl (stepD g') d := by
    intro l
    induction l with
    | nil => intro d _; rfl
    | cons x l ih =>
      intro d hx
      rw [List.foldl_cons, List.foldl_cons]
      have : stepD g d x = stepD g' d x := by unfold stepD; rw [h _ (hx x (List.mem_cons_self ..))]
      rw [this]
      exact ih _ fun y hy => hx y (List.mem_cons_of_mem _ hy)
  refine key _ _ fun x hx => ?_
  have := List.snd_lt_of_mem_zipIdx hx
  simpa using this
theorem ow_head {w : World} {e : TypeId} {sz n cap : Nat} {ao : Option Addr} {xs : List Value} (h : Ow w e sz (.slice ao n cap) n xs) (hn : 0 < n) : ∃ g, ao = some ⟨g, 0, none⟩ ∧ ∃ rest, Blk w g e (xs ++ rest) := by
  rcases h.blk with ⟨_, h0, _⟩ | ⟨g, cap, rest, h1, h2, _⟩
  · omega
  · injection h1 with h1
    exact ⟨g, h1, rest, h2⟩
theorem Ow.head' {w : World} {e : TypeId} {sz n g cap : Nat} {xs : List Value} (h : Ow w e sz (.slice (some ⟨g, 0, none⟩) n cap) n xs) : ∃ rest, Blk w g e (xs ++ rest) := by
  rcases h.blk with ⟨h0, _⟩ | ⟨g, cap, rest, h1, h2, _⟩
  · cases h0
  · injection h1 with h1
    injection h1 with h1
    injection h1 with h1
    subst h1
    exact ⟨rest, h2⟩
end Go.Proofs.YtfepggdljhiemaaDoor

/-! The reference's disks: Sync, Copy. -/
namespace Go.Proofs.YtfepggdljhiemaaDoor
open Go.RowKit Gw

theorem fcells_app (A B : List (Int × Int)) : fcells (A ++ B) = fcells A ++ fcells B := by unfold fcells; rw [List.flatMap_append]
theorem crash_keep {m : Dm} {n : Nat} (hn : m.row.length = n) : m.crash (List.replicate n (1, 0)) = m.sync := by
  unfold Dm.crash Dm.sync Dm.settle
  rw [settleD_congr (g' := fun _ => m.sz) fun i hi => ?_]
  unfold fateK clampN
  rw [List.getElem?_replicate, if_pos (by omega)]
  simp
/-- a copy of a disk of the reference -/
def CopyR (w : World) (m : Dm) (e : Ending) (w' : World) : Prop := ∃ p L, e = .returned (.pointer (some ⟨p, 0, none⟩)) ∧ OwnR w w' p m L ∧ Mod [] w w'
end Go.Proofs.YtfepggdljhiemaaDoor
