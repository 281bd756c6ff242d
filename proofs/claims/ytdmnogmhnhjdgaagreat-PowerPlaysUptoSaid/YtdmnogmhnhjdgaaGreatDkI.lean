import Derived.Test.YtdmnogmhnhjdgaaGreatDkY
/-! Disks: Image, Copy. -/
set_option linter.unusedVariables false
set_option linter.unusedSimpArgs false
set_option maxRecDepth 100000
namespace Go.Proofs.YtdmnogmhnhjdgaaGreat
open Go.RowKit Gw

/-- rows of bytes of one's own: the list and what lies in it, all of it younger than base -/
structure RowsO (w : World) (base : Nat) (v : Value) (L : List (Value × List UInt8)) : Prop where
  ow : Ow w 32 1 v L.length (L.map (·.1))
  fam : Fam w base L
  nw : ∀ k ∈ blks v, base ≤ k
section
variable {w w0 w1 w2 w3 w' : World} {base : Nat} {v v' u : Value} {L : List (Value × List UInt8)} {l : List UInt8} {M : List Nat}
theorem RowsO.nil (w : World) (base : Nat) : RowsO w base (.slice none 0 0) [] := ⟨Ow.nil _ _ _, Fam.nil _ _, by simp [blks]⟩
theorem RowsO.mod (h : RowsO w base v L) (hm : Mod M w w') (hM : ∀ k ∈ M, k < base) : RowsO w' base v L :=
  ⟨h.ow.mod hm fun b hb hM' => by have := h.nw b hb; have := hM b hM'; omega, h.fam.mod hm fun p hp b hb hM' => by have := (h.fam.ob p hp).2 b hb; have := hM b hM'; omega, h.nw⟩
theorem RowsO.ext (h : RowsO w base v L) (hm : Mod [] w w') : RowsO w' base v L := h.mod hm (by simp)
/-- one more row -/
theorem RowsO.snoc (h : RowsO w base v L) (hb : base ≤ w.heap.size) (hm1 : Mod [] w w1) (ho : Ob w1 u l) (hn : New w u) (hm2 : Mod [] w1 w2) (hO : Ow w3 32 1 v' (L.length + 1) (L.map (·.1) ++ [u])) (hm3 : Mod (blks v) w2 w3)
    (hb3 : ∀ k ∈ blks v', k ∈ blks v ∨ w2.heap.size ≤ k) : RowsO w3 base v' (L ++ [(u, l)]) := by
  have h2 := h.ext (hm1.ext hm2)
  refine ⟨by simpa using hO, ?_, fun k hk => (hb3 k hk).elim (h.nw k) fun h => Nat.le_trans hb (Nat.le_trans (hm1.ext hm2).size h)⟩
  have hf : Fam w2 base (L ++ (u, l) :: []) := Fam.ins (by simpa using h.fam) hb (hm1.ext hm2) (ho.ext hm2) hn
  exact hf.atOw h2.ow hm3 (by decide)
theorem RowsO.row (h : RowsO w base v L) {i : Nat} (hi : i < L.length) : Ob w L[i].1 L[i].2 := (h.fam.ob _ (List.getElem_mem hi)).1
end
theorem sl_at {w : World} {ao : Option Addr} {n cap : Nat} {xs : List Value} (h : Sl w 1 (.slice ao n cap) n xs) {i : Nat} (hi : i < xs.length) : ∃ b o, ao = some ⟨b, o, none⟩ ∧ w.cell? ⟨b, o + i, none⟩ = some xs[i] := by
  obtain ⟨b, o, c, hv, _, _, hcell⟩ := h.at (by intro h0; rw [h0] at hi; simp at hi)
  injection hv with e1 e2 e3
  exact ⟨b, o, e1, hcell i _ (List.getElem?_eq_getElem hi)⟩
/-- what Image tells -/
def ImgPost (w : World) (rows : List (List UInt8)) (e : Ending) (w' : World) : Prop := ∃ v dq, e = .returned v ∧ RowsO w' w.heap.size v dq ∧ dq.map (·.2) = rows ∧ Mod [] w w'
theorem dimage_no (v : Value) (w : World) (h : NoDk w v) : Calls Tryz.prog 49 #[v] w fun e w' => e = .returned (.slice none 0 0) ∧ w = w' := by
  have T := fun w h => there_no v w h
  go_enter Tryz.func49, Tryz.ntmps49
  go_wp2_with (go_at_call 80; (with_reducible refine (T _ h).mono ?_); rintro e w1 ⟨rfl, rfl⟩)
  go_ret
  exact ⟨rfl, rfl⟩
set_option maxHeartbeats 2000000 in
theorem dimage_any (p : Nat) (m : Dm) (L : List Nat) (w : World) (h : Dk w p m L) (hok : m.ok) : Calls Tryz.prog 49 #[.pointer (some ⟨p, 0, none⟩)] w (ImgPost w m.dur) := by
  have hs1 := hok.s1
  have hs2 := hok.s2
  have hn2 := hok.n2
  have hd := hok.d
  obtain ⟨D, R, M, dp, rp, hB, hm, hL⟩ := h
  have e1 : m.dur = dp.map (·.2) := by rw [hm]; rfl
  rw [e1] at hd hn2 ⊢
  have hdl : ∀ (j : Nat) (hj : j < dp.length), dp[j].2.length = m.sz := fun j hj => hd _ (List.mem_map.2 ⟨dp[j], List.getElem_mem hj, rfl⟩)
  rw [List.length_map] at hn2
  obtain ⟨aoD, capD, rfl, hcD, _⟩ := hB.dur.sl.form
  have T := fun w h => there_yes p m.sz (.slice aoD dp.length capD) R M w h hs1
  obtain ⟨sz, hsz⟩ : ∃ sz, sz = m.sz := ⟨_, rfl⟩
  rw [← hsz] at hB T hdl hs1 hs2
  clear hm hL hok hd e1 hsz
  have c1 := hB.blk.cell' (i := 1) rfl
  go_enter Tryz.func49, Tryz.ntmps49
  go_wp2_with (go_at_call 80; (with_reducible refine (T _ hB.blk).mono ?_); rintro e w1 ⟨rfl, rfl⟩)
  go_loopw [3, 14] (fun o i wr => ∃ (k : Nat) (dq : List (Value × List UInt8)), k ≤ dp.length ∧ i = .int .i64 k ∧ RowsO wr w.heap.size o dq ∧ dq.map (·.2) = (dp.map (·.2)).take k ∧ Mod [] w wr) (fun _ i _ => dp.length - (intOf i).toNat)
  case atStart => exact ⟨0, [], by omega, rfl, RowsO.nil _ _, by simp, Mod.refl _ _⟩
  case round =>
    obtain ⟨k, dq, hk, rfl, hR, hdq, hmr⟩ := hrel
    by_cases hlt : k < dp.length
    · have y0 : (k : Int) < dp.length := by omega
      have hBr := hB.ext hmr
      obtain ⟨b0, o0, rfl, hc⟩ := sl_at hBr.dur.sl (i := k) (by simpa using hlt)
      have hv := (hBr.fam.ob dp[k] (List.mem_append_left _ (List.getElem_mem hlt))).1
      rw [List.getElem_map] at hc
      have hql : dq.length = k := by have := congrArg List.length hdq; simp at this; omega
      have hl1 := hdl k hlt
      have hsn : (dp.map (·.2)).take (k + 1) = (dp.map (·.2)).take k ++ [dp[k].2] := by
        rw [List.take_succ_eq_append_getElem (by simpa using hlt), List.getElem_map]
      rw [← hdq] at hsn
      obtain ⟨v, hvv⟩ : ∃ v, v = dp[k].1 := ⟨_, rfl⟩
      obtain ⟨l, hll⟩ : ∃ v, v = dp[k].2 := ⟨_, rfl⟩
      rw [← hvv] at hv hc
      rw [← hll] at hv hl1 hsn
      obtain ⟨aov, capv, rfl, _, _⟩ := Bs.form (Ob.bs hv)
      obtain ⟨aoo, capo, rfl, hco, _⟩ := hR.ow.sl.form
      have HSN := Lib.hid hsn
      have HQL := Lib.hid hql
      have hl2 : l.length ≤ 4096 := by omega
      have hl3 : 0 < l.length := by omega
      clear hvv hll hBr hdq hsn hql hl1
      go_wp2_with (first
                    | (with_reducible refine st_bslice ?_)
                    | (go_at_call 75; refine (bclone_any l _ _ (Ob.bs hv) (by omega) (by omega)).mono ?_; rintro e w2 ⟨v2, rfl, ho2, hn2, hm2⟩))
      refine StopOp.go rfl fun K hK => ?_
      refine wp_bslice stDR [v2] rfl (by decide) (by rfl) (by obtain ⟨_, _, rfl, _⟩ := Bs.form (Ob.bs ho2); simp [Value.cells]) ?_
      intro g w3 hg1 hg2 hm3 hB3
      simp only [put_some, List.set_cons_succ, List.set_cons_zero]
      refine hK _ _ ?_
      clear hK K
      have hS3 : Sl w3 1 (.slice (some ⟨g, 0, none⟩) 1 1) 1 [v2] := by
        obtain ⟨_, _, rfl, _⟩ := Bs.form (Ob.bs ho2)
        exact (Ow.of_blk (rest := []) hB3 (Nat.le_refl _) (by omega) rfl rfl : Ow w3 32 1 (.slice (some ⟨g, 0, none⟩) 1 1) 1 [_]).sl
      go_wp2_with (with_reducible refine st_append ?_)
      refine StopOp.go rfl fun K hK => ?_
      refine wp_append_ow stDR (by rfl) (by rfl) (hR.ext (hm2.ext hm3)).ow hS3 (by obtain ⟨_, _, rfl, _⟩ := Bs.form (Ob.bs ho2); simp [Value.oneCell']) (by have := HQL.out; omega) (by have := HQL.out; omega) ?_
      intro v4 w4 ho4 hm4 hb4
      simp only [put_some, List.set_cons_succ, List.set_cons_zero]
      refine hK _ _ ?_
      clear hK K
      have hR4 := hR.snoc hmr.size hm2 ho2 hn2 hm3 ho4 hm4 hb4
      have hM4 : Mod [] w w4 := (hmr.ext (hm2.ext hm3)).fresh hm4 hR.nw
      obtain ⟨ao4, cap4, rfl, _, _⟩ := ho4.sl.form
      go_wp2_with fail
      go_roundw
      case rel => exact ⟨k + 1, _, by omega, by go_num, hR4, by rw [List.map_append, HSN.out]; rfl, hM4⟩
      case measure => simp [intOf]; omega
    · obtain rfl : k = dp.length := by omega
      rw [List.take_of_length_le (by simp)] at hdq
      obtain ⟨aoo, capo, rfl, hco, _⟩ := hR.ow.sl.form
      go_wp2_with fail
      go_ret
      exact ⟨_, dq, rfl, hR, hdq, hmr⟩
end Go.Proofs.YtdmnogmhnhjdgaaGreat
