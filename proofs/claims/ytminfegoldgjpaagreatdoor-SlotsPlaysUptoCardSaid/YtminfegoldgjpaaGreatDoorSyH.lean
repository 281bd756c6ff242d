import Derived.Test.YtminfegoldgjpaaGreatDoorSyF
import Derived.Test.YtminfegoldgjpaaGreatDoorFilS
/-! Slots: a step of a script (does): Write. -/
set_option linter.unusedVariables false
set_option linter.unusedSimpArgs false
set_option maxRecDepth 100000
namespace Go.Proofs.YtminfegoldgjpaaGreatDoor
open Go.RowKit Gw

set_option maxRecDepth 1000000 in
set_option maxHeartbeats 20000000 in
theorem does4_any (W w : World) (x p q P Q s r a b h k f0 f1 c : Nat) (v : Pv) (L M : List Nat) (o : Sop) (ho : OkSop W o) (hk : pick o.d 7 = 4) (B : Bw W w p q P Q v v L M (osB x p P s r a b h k f0 f1 c)) (hT0 : TabC W) (hz : v.m.sz = 64) (hd : v.m.dur.length = 10) (hn : v.n ≤ 900000) (hr : v.m.row.length ≤ 900000) (hc : 2 ≤ c) (hc4 : c ≤ 4) (h0 : f0 + c ≤ 10) (h1 : f1 + c ≤ 10) :
    Calls Tryz.prog 17 #[.pointer (some ⟨x, 0, none⟩), o.val] w (DoesP W p q P Q (osB x p P s r a b h k f0 f1 c) (v.wr (pick o.n 10) (filS o.x 64))) := by
  obtain ⟨hF, hold, wd, wl, wx, wcov, wn, hf⟩ := ho
  obtain ⟨d, l, x_, cov, n, fv, F⟩ := o
  dsimp only at hk hF hold wd wl wx wcov wn hf
  obtain ⟨aof, capf, rfl, _, _⟩ := hF.form
  unfold Sop.val DoesP
  dsimp only
  have PK := fun w => pick_any d 7 w wd.1 wd.2 (by omega) (by omega)
  rw [hk] at PK
  clear hk
  have PN := fun w => pick_any n 10 w wn.1 wn.2 (by omega) (by omega)
  obtain ⟨A, hA⟩ : ∃ A, A = pick n 10 := ⟨_, rfl⟩
  rw [← hA] at PN ⊢
  clear hA
  have FI : ∀ w, Calls Tryz.prog 9 #[.int .i64 x_, .int .i64 64] w fun e w' => ∃ g, e = .returned (.slice (some ⟨g, 0, none⟩) 64 64) ∧ Blk w' g 5 (bv (filS x_ 64)) ∧ w.heap.size ≤ g ∧ Mod [] w w' := fun w => sfill_blk x_ 64 w (by omega)
  have hBl : (filS x_ 64).length = 64 := filS_len _ _
  obtain ⟨Bd, hBd⟩ : ∃ B, B = filS x_ 64 := ⟨_, rfl⟩
  rw [← hBd] at FI hBl ⊢
  clear hBd
  have hbsg : ∀ {w : World} {g : Nat}, Blk w g 5 (bv Bd) → Bs w (.slice (some ⟨g, 0, none⟩) 64 64) Bd := fun h => by
    have h2 : Bs _ (.slice (some ⟨_, 0, none⟩) Bd.length Bd.length) Bd := Bs.of_blk (rest := []) (by rw [List.append_nil]; exact h) (Nat.le_refl _) (by omega)
    rw [hBl] at h2
    exact h2
  have WR := fun w bw hD hb hbp => pWrite_any p q v L A Bd bw w hD hb hbp (by omega) (by omega)
  have WQ := fun w bw hE hb hbp => qWrite_any P Q v M A Bd bw w hE hb hbp (by omega) (by omega)
  obtain ⟨E, hE⟩ : ∃ E : Int, E = v.e (writeE v.m A Bd.length) := ⟨_, rfl⟩
  rw [← hE] at WR WQ
  clear hE
  obtain ⟨V, hV⟩ : ∃ V, V = v.wr A Bd := ⟨_, rfl⟩
  rw [← hV] at WR WQ ⊢
  clear hV
  go_enter Tryz.func17, Tryz.ntmps17
  go_wp2_with (with_reducible refine st_box ?_)
  refine StopOp.go rfl fun K hK => ?_
  refine wp_box (v := .agg #[.int .i64 d, .int .i64 l, .int .i64 x_, .int .u64 (cov : Nat), .int .i64 n, .slice aof F.length capf]) (by rfl) ?_
  intro t w1 ht1 ht2 hm1 hT
  simp only [put_some, List.set_cons_succ, List.set_cons_zero]
  refine hK _ _ ?_
  clear hK K
  have hT1 : Blk w1 t 56 [.int .i64 d, .int .i64 l, .int .i64 x_, .int .u64 (cov : Nat), .int .i64 n, .slice aof F.length capf] := hT
  clear hT
  have B1 := B.new hm1 ht1 hT1
  clear hT1 hm1 ht2
  have d0 := (B1.blk 0 rfl).cell' (i := 0) rfl
  have d4 := (B1.blk 0 rfl).cell' (i := 4) rfl
  go_wp2_with (first
                | (go_at_call 10; (with_reducible refine (PK _).mono ?_); rintro e w2 ⟨rfl, rfl⟩)
                | (go_at_call 10; (with_reducible refine (PN _).mono ?_); rintro e w2 ⟨rfl, rfl⟩))
  refine wp_region_T [⟨0, true, []⟩, ⟨1, true, []⟩, ⟨2, true, []⟩, ⟨3, true, []⟩, ⟨4, true, []⟩, ⟨5, true, []⟩, ⟨6, true, []⟩, ⟨9, true, []⟩, ⟨10, true, []⟩, ⟨11, true, []⟩, ⟨12, true, []⟩, ⟨13, true, []⟩, ⟨14, true, []⟩, ⟨15, true, []⟩, ⟨7, false, [1, 3, 10, 12, 15]⟩, ⟨8, false, [10, 12, 15]⟩, ⟨16, false, [10, 12]⟩, ⟨17, false, []⟩, ⟨18, true, []⟩, ⟨19, true, []⟩] (by kernel_rfl) (by kernel_rfl) ?_
  have hm2 := Mod.drew [] w1
  obtain ⟨w2, hx2⟩ : ∃ x, x = w1.drew := ⟨_, rfl⟩
  rw [← hx2] at hm2 ⊢
  clear hx2
  have B2 := B1.ext hm2
  have d2 := (B2.blk 0 rfl).cell' (i := 2) rfl
  have e0 := (B2.blk 1 rfl).cell' (i := 0) rfl
  have e2 := (B2.blk 1 rfl).cell' (i := 2) rfl
  iterate 14 (refine wpT_n rfl rfl (fun K hK => ?_); go_wp2_with fail)
  refine wpT_callh rfl rfl (fun K hK => ?_)
  go_wp2_with (go_at_call 9; (with_reducible refine (FI _).mono ?_); rintro e w3 ⟨ga, rfl, hBa, hga, hm3⟩)
  refine ⟨(agains_cons rfl (again_const (fun _ => rfl)) (agains_cons rfl (again_load rfl rfl (hm3.block _ (B2.blk 1 rfl).lt (by simp)) (B2.blk 1 rfl).kinds) (agains_cons rfl (again_const (fun _ => rfl)) (agains_cons rfl (again_load rfl rfl (hm3.block _ (B2.blk 1 rfl).lt (by simp)) (B2.blk 1 rfl).kinds) (agains_cons rfl (again_load rfl rfl (hm3.block _ (B2.blk 0 rfl).lt (by simp)) (B2.blk 0 rfl).kinds) agains_nil))))), ?_⟩
  have B3 := B2.ext hm3
  have D3 := B3.D
  have hba := hbsg hBa
  refine wpT_callh rfl rfl (fun K hK => ?_)
  go_wp2_with (go_at_call 55; (with_reducible refine (WR _ _ D3 hba (fun y hy => by obtain rfl := List.mem_singleton.1 hy; have := B2.D.lt0 p List.mem_cons_self; omega)).mono ?_); rintro e w4 ⟨rfl, hP4⟩)
  obtain ⟨L4, B4, hm4⟩ := B3.dt hP4
  refine ⟨(agains_cons rfl (again_const (fun _ => rfl)) (agains_cons rfl (again_load rfl rfl (hm4.block _ (B3.blk 1 rfl).lt (B3.outD 1 rfl)) (B3.blk 1 rfl).kinds) (agains_cons rfl (again_load rfl rfl (hm4.block _ (B3.blk 0 rfl).lt (B3.outD 0 rfl)) (B3.blk 0 rfl).kinds) agains_nil))), ?_⟩
  refine wpT_callh rfl rfl (fun K hK => ?_)
  go_wp2_with (go_at_call 9; (with_reducible refine (FI _).mono ?_); rintro e w5 ⟨gc, rfl, hBc, hgc, hm5⟩)
  refine ⟨(agains_cons rfl (again_const (fun _ => rfl)) (agains_cons rfl (again_load rfl rfl (hm5.block _ (B4.blk 1 rfl).lt (by simp)) (B4.blk 1 rfl).kinds) agains_nil)), ?_⟩
  have B5 := B4.ext hm5
  have E5 := B5.E
  have hbc := hbsg hBc
  refine wpT_call rfl rfl (fun K hK => ?_)
  go_wp2_with (go_at_call 56; (with_reducible refine (WQ _ _ E5 hbc (fun y hy => by obtain rfl := List.mem_singleton.1 hy; have := B4.E.lt1 P List.mem_cons_self; omega)).mono ?_); rintro e w6 ⟨rfl, hP6⟩)
  obtain ⟨M6, B6, hm6⟩ := B5.rt hP6
  iterate 2 (refine wpT_n rfl rfl (fun K hK => ?_); go_wp2_with fail)
  refine wpT_nil ?_
  go_wp2_with fail
  go_ret
  exact ⟨_, _, rfl, B6.tail⟩
end Go.Proofs.YtminfegoldgjpaaGreatDoor
