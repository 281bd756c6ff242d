import Derived.Test.YtboigcnpamldlaaDoorFrK
/-! Copies of frames. -/
set_option linter.unusedVariables false
set_option linter.unusedSimpArgs false
set_option maxRecDepth 100000
namespace Go.Proofs.YtboigcnpamldlaaDoor
open Go.RowKit Gw

set_option maxHeartbeats 1000000 in
theorem copyFr_any (f : Fv) (v : Value) (w : World) (hv : Bs w v f.l) (hl : f.l.length ≤ 140737488355328) :
    Calls Tryd.prog 53 #[f.v v] w fun en w' => ∃ v', en = .returned (f.v v') ∧ Ob w' v' f.l ∧ New w v' ∧ Mod [] w w' := by
  obtain ⟨e, s, l⟩ := f
  obtain ⟨ao, cap, rfl, _, _⟩ := hv.form
  unfold Fv.v
  dsimp only at hv hl ⊢
  go_enter Tryd.func53, Tryd.ntmps53
  go_wp2_with (with_reducible refine st_box ?_)
  refine StopOp.go rfl fun K hK => ?_
  refine wp_box (v := .agg #[.int .u64 (e : Nat), .int .u64 (s : Nat), .slice ao l.length cap]) (by rfl) ?_
  intro h w1 hh1 hh2 hm1 hB1
  simp only [put_some, List.set_cons_succ, List.set_cons_zero]
  refine hK _ _ ?_
  clear hK K
  go_wp2_with (with_reducible refine st_alloc ?_)
  refine StopOp.go rfl fun K hK => ?_
  refine wp_alloc zero_frame ?_
  intro r w2 hr1 hr2 hm2 hB2
  simp only [put_some, List.set_cons_succ, List.set_cons_zero]
  refine hK _ _ ?_
  clear hK K
  have hH : Blk w2 h 25 [.int .u64 (e : Nat), .int .u64 (s : Nat), .slice ao l.length cap] := Blk.ext hB1 hm2
  have c2 := hH.cell' (i := 2) rfl
  have hv2 := (hv.ext hm1).ext hm2
  go_wp2_with (first
                | (with_reducible refine st_store ?_)
                | (go_at_call 29; refine (copy_any l _ _ hv2 hl).mono ?_; rintro e w3 ⟨v3, rfl, ho3, hn3, hm3⟩; obtain ⟨ao3, cap3, rfl, _, _⟩ := ho3.sl.form))
  have hH3 := hH.ext hm3
  refine StopOp.go rfl fun K hK => ?_
  refine wp_store1 (by kernel_rfl) (by rfl) (u := .slice ao3 l.length cap3) (by rfl) ⟨rfl, rfl⟩ hH3 (by simp) ?_
  intro w4 hm4 hB4
  refine hK _ _ ?_
  clear hK K
  have hH4 : Blk w4 h 25 [.int .u64 (e : Nat), .int .u64 (s : Nat), .slice ao3 l.length cap3] := hB4
  have hR4 : Blk w4 r 25 [.int .u64 0, .int .u64 0, .slice none 0 0] := (Blk.ext hB2 hm3).mod hm4 (by simp; omega)
  have ho4 : Ob w4 (.slice ao3 l.length cap3) l := Ow.mod ho3 hm4 (fun k hk hh => Ow.ne ho3 hH3 (by decide) (by have e : k = h := (by simpa using hh); exact e ▸ hk))
  have x0 := hH4.cell' (i := 0) rfl
  have x1 := hH4.cell' (i := 1) rfl
  have x2 := hH4.cell' (i := 2) rfl
  go_wp2_with (with_reducible refine st_store ?_)
  refine StopOp.go rfl fun K hK => ?_
  refine wp_store (u := .agg #[.int .u64 e, .int .u64 s, .slice ao3 l.length cap3]) (by rfl) (by rfl) (by kernel_rfl) hR4 (by simp [Value.cells]) (by simp [Value.cells, Value.oneCell']) ?_
  intro w90 hm90 hB90
  refine hK _ _ ?_
  clear hK K
  have z0 := hB90.cell' (i := 0) rfl
  have z1 := hB90.cell' (i := 1) rfl
  have z2 := hB90.cell' (i := 2) rfl
  go_wp2_with fail
  have s1 := hm1.size
  have s2 := hm2.size
  refine bodyPost_ret (v := .agg #[.int .u64 e, .int .u64 s, .slice ao3 l.length cap3]) (by simp [results, Tryd.results53, go_sem, z0, z1, z2]) rfl ⟨.slice ao3 l.length cap3, rfl, ?_, fun k hk => by have := hn3 k hk; omega, (((hm1.ext hm2).ext hm3).fresh hm4 (by simp; omega)).fresh hm90 (by simp; omega)⟩
  exact Ow.mod ho4 hm90 (fun k hk hh => Ow.ne ho4 hR4 (by decide) (by have e : k = r := (by simpa using hh); exact e ▸ hk))
set_option maxHeartbeats 2000000 in
theorem copyFrs_any (L : List Fi) (v : Value) (w : World) (h : FrsR w v L) (hl : ∀ x ∈ L, x.f.l.length ≤ 140737488355328) (hn : L.length ≤ 1099511627776) :
    Calls Tryd.prog 33 #[v] w fun en w' => ∃ v' L', en = .returned v' ∧ L'.map Fi.f = L.map Fi.f ∧ Frs w' w.heap.size v' L' ∧ Mod [] w w' := by
  obtain ⟨ao, cap, rfl, hc1, hc2⟩ := h.1.form
  go_enter Tryd.func33, Tryd.ntmps33
  go_wp2_with fail
  go_loopw [3, 4] (fun ov iv wr => ∃ (j : Nat) (D : List Fi), iv = .int .i64 (j : Nat) ∧ j ≤ L.length ∧ D.map Fi.f = (L.map Fi.f).take j ∧ D.length = j ∧ Frs wr w.heap.size ov D ∧ Mod [] w wr) (fun _ iv _ => L.length - (intOf iv).toNat)
  case atStart => exact ⟨0, [], rfl, Nat.zero_le _, by simp, rfl, Frs.nil _ _, Mod.refl _ _⟩
  case round =>
    obtain ⟨j, D, rfl, hj, hD, hDl, hF, hm⟩ := hrel
    obtain ⟨aoo, capo, rfl, _, _⟩ := hF.nx hDl
    by_cases hlt : j < L.length
    · have y1 : (j : Int) < L.length := by omega
      obtain ⟨b1, o1, rfl, c0, c1, c2, e1⟩ := (h.ext hm).at3 hlt
      have hl1 := hl _ (List.getElem_mem hlt)
      have hDj : (L.map Fi.f).take (j + 1) = (L.map Fi.f).take j ++ [L[j].f] := by
        rw [List.take_succ_eq_append_getElem (by simpa using hlt), List.getElem_map]
      obtain ⟨f, hf⟩ : ∃ l, l = L[j].f := ⟨_, rfl⟩
      obtain ⟨u1, hu1⟩ : ∃ u, u = L[j].v := ⟨_, rfl⟩
      rw [← hf] at c0 c1 e1 hl1 hDj
      rw [← hu1] at c2 e1
      have CF := fun w h => copyFr_any f u1 w h hl1
      unfold Fv.v at CF
      obtain ⟨fe, fs, fl⟩ := f
      dsimp only at CF c0 c1 e1
      have HD := Lib.hid (And.intro hD hDj)
      clear hD hDj hf hu1
      go_wp2_with (first
                    | (with_reducible refine st_alloc ?_)
                    | (go_at_call 53; refine (CF _ e1).mono ?_; rintro e w2 ⟨v2, rfl, ho2, hn2, hm2⟩; obtain ⟨ao2, cap2, rfl, _, _⟩ := ho2.sl.form))
      refine StopOp.go rfl fun K hK => ?_
      refine wp_alloc zero_frame ?_
      intro g w3 hg1 hg2 hm3 hB3
      simp only [put_some, List.set_cons_succ, List.set_cons_zero]
      refine hK _ _ ?_
      clear hK K
      go_wp2_with (with_reducible refine st_store ?_)
      refine StopOp.go rfl fun K hK => ?_
      refine wp_store (u := .agg #[.int .u64 fe, .int .u64 fs, .slice ao2 fl.length cap2]) (by rfl) (by rfl) (by kernel_rfl) hB3 (by simp [Value.cells]) (by simp [Value.cells, Value.oneCell']) ?_
      intro w4 hm4 hB4
      refine hK _ _ ?_
      clear hK K
      have hG4 : Blk w4 g 25 [.int .u64 fe, .int .u64 fs, .slice ao2 fl.length cap2] := hB4
      have hm24 : Mod [] w2 w4 := hm3.fresh hm4 (by simpa using hg1)
      have hmr4 : Mod [] wr w4 := hm2.ext hm24
      have ho4 := ho2.ext hm24
      have x0 := hG4.cell' (i := 0) rfl
      have x1 := hG4.cell' (i := 1) rfl
      have x2 := hG4.cell' (i := 2) rfl
      go_wp2_with (with_reducible refine st_bslice ?_)
      refine StopOp.go rfl fun K hK => ?_
      refine wp_bslice stFr [.agg #[.int .u64 fe, .int .u64 fs, .slice ao2 fl.length cap2]] rfl (by decide) (by rfl) (by simp [Value.cells]) ?_
      intro q w5 hq1 hq2 hm5 hB5
      simp only [put_some, List.set_cons_succ, List.set_cons_zero]
      refine hK _ _ ?_
      clear hK K
      have hS5 : Sl w5 3 (.slice (some ⟨q, 0, none⟩) 1 1) 1 (Fi.cells ⟨0, .slice ao2 fl.length cap2, ⟨fe, fs, fl⟩⟩) := (Ow.of_blk (rest := []) hB5 (Nat.le_refl _) (by omega) rfl rfl : Ow w5 25 3 (.slice (some ⟨q, 0, none⟩) 1 1) 1 (Fi.cells ⟨0, .slice ao2 fl.length cap2, ⟨fe, fs, fl⟩⟩)).sl
      have hF5 := (hF.ext hmr4).ext hm5
      have hF5o := hF5.ow
      rw [hDl] at hF5o
      go_wp2_with (with_reducible refine st_append ?_)
      refine StopOp.go rfl fun K hK => ?_
      refine wp_append_ow stFr (by rfl) (by rfl) hF5o hS5 (by simp [Fi.cells, Value.oneCell']) (by omega) (by omega) ?_
      intro v6 w6 hv6 hm6 hb6
      simp only [put_some, List.set_cons_succ, List.set_cons_zero]
      refine hK _ _ ?_
      clear hK K
      obtain ⟨ao6, cap6, rfl, _, _⟩ := hv6.sl.form
      have hF6 := hF5.snoc (B := wr.heap.size) (v' := .slice ao6 (j + 1) cap6) ⟨0, .slice ao2 fl.length cap2, ⟨fe, fs, fl⟩⟩ hm.size (by have := hmr4.size; have := hm5.size; omega) hF.lt (ho4.ext hm5) hn2 (by rw [hDl]; exact hv6) hm6 hb6
      go_wp2_with fail
      go_roundw
      case rel =>
        obtain ⟨h1, h2⟩ := HD.out
        exact ⟨j + 1, D ++ [⟨0, .slice ao2 fl.length cap2, ⟨fe, fs, fl⟩⟩], by go_num, by omega, by rw [List.map_append, h1, h2]; rfl, by rw [List.length_append, hDl]; rfl, hF6, ((hm.ext hmr4).ext hm5).fresh hm6 (fun k hk => hF.nw k hk)⟩
      case measure => simp [intOf]; omega
    · obtain rfl : j = L.length := by omega
      go_wp2_with fail
      go_ret
      exact ⟨_, D, rfl, by rw [hD, List.take_of_length_le (by simp)], hF, hm⟩
end Go.Proofs.YtboigcnpamldlaaDoor
