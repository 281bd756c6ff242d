import Derived.Test.YtminfegoldgjpaaGreatDoorSyF
import Derived.Test.YtminfegoldgjpaaGreatDoorFilS
import Derived.Test.YtminfegoldgjpaaGreatDoorGDs
/-! Slots: a step of a script (does): a header is written. -/
set_option linter.unusedVariables false
set_option linter.unusedSimpArgs false
set_option maxRecDepth 100000
namespace Go.Proofs.YtminfegoldgjpaaGreatDoor
open Go.RowKit Gw

/-- the length that such a header names -/
def lngS (o : Sop) : Int := if Int.tmod o.x 2 = 0 then 0 else 100 + pick o.l 160
def hdrS (o : Sop) : List UInt8 := putB ⟨o.cov, 5, lngS o, 0⟩ ++ (zeros 64).drop (putB ⟨o.cov, 5, lngS o, 0⟩).length
set_option maxRecDepth 1000000 in
set_option maxHeartbeats 20000000 in
theorem does6_any (W w : World) (x p q P Q s r a b h k f0 f1 c : Nat) (v : Pv) (L M : List Nat) (o : Sop) (ho : OkSop W o) (hk : pick o.d 7 = 6) (B : Bw W w p q P Q v v L M (osB x p P s r a b h k f0 f1 c)) (hT0 : TabC W) (hz : v.m.sz = 64) (hd : v.m.dur.length = 10) (hn : v.n ≤ 900000) (hr : v.m.row.length ≤ 900000) (hc : 2 ≤ c) (hc4 : c ≤ 4) (h0 : f0 + c ≤ 10) (h1 : f1 + c ≤ 10) :
    Calls Tryz.prog 17 #[.pointer (some ⟨x, 0, none⟩), o.val] w (DoesP W p q P Q (osB x p P s r a b h k f0 f1 c) (v.wr (pick o.n 10) (hdrS o))) := by
  obtain ⟨hF, hold, wd, wl, wx, wcov, wn, hf⟩ := ho
  obtain ⟨d, l, x_, cov, n, fv, F⟩ := o
  dsimp only at hk hF hold wd wl wx wcov wn hf
  obtain ⟨aof, capf, rfl, _, _⟩ := hF.form
  unfold Sop.val DoesP
  dsimp only
  have PK := fun w => pick_any d 7 w wd.1 wd.2 (by omega) (by omega)
  rw [hk] at PK
  clear hk
  have PN := fun w => pick_any n 10 w wn.1 wn.2 (by omega) (by omega)
  obtain ⟨A, hA⟩ : ∃ A, A = pick n 10 := ⟨_, rfl⟩
  rw [← hA] at PN ⊢
  clear hA
  have PL := fun w => pick_any l 160 w wl.1 wl.2 (by omega) (by omega)
  have g1 := pick_ge l 160
  have g2 := pick_lt l 160 (by omega)
  unfold hdrS lngS
  dsimp only
  obtain ⟨G, hG⟩ : ∃ G, G = pick l 160 := ⟨_, rfl⟩
  rw [← hG] at PL g1 g2 ⊢
  clear hG
  obtain ⟨Lg, hLg⟩ : ∃ G' : Int, G' = if Int.tmod x_ 2 = 0 then 0 else 100 + G := ⟨_, rfl⟩
  rw [← hLg]
  have hL1 : 0 ≤ Lg ∧ Lg ≤ 300 := by rw [hLg]; split <;> omega
  have HP0 := fun w => rhput_any ⟨cov, 5, Lg, 0⟩ ⟨wcov, by dsimp only; omega, by dsimp only; omega, by dsimp only; omega⟩ w
  unfold HputR at HP0
  have hpl : (putB ⟨cov, 5, Lg, 0⟩).length ≤ 32 := by unfold putB; split; (rw [hdr_len]; exact Nat.le_refl _); simp
  obtain ⟨pe, hpe⟩ : ∃ R, R = putE ⟨cov, 5, Lg, 0⟩ := ⟨_, rfl⟩
  obtain ⟨pb, hpb⟩ : ∃ R, R = putB ⟨cov, 5, Lg, 0⟩ := ⟨_, rfl⟩
  rw [← hpb] at hpl ⊢
  simp only [← hpe, ← hpb] at HP0
  clear hpe hpb
  have HP : ∀ w, Calls Tryz.prog 57 #[.agg #[.int .u64 (cov : Nat), .int .u64 5, .int .i64 Lg, .int .u32 0]] w (fun e w' => ∃ v, e = .returned (.tuple #[v, .int .i64 pe]) ∧ Bs w' v pb ∧ New w v ∧ (∀ g ∈ blks v, g < w'.heap.size) ∧ Mod [] w w') := fun w => HP0 w
  clear HP0
  obtain ⟨m, hm⟩ : ∃ m, m = pb.length := ⟨_, rfl⟩
  rw [← hm] at hpl ⊢
  have hz64 : (zeros 64).length = 64 := by simp [zeros]
  obtain ⟨Z, hZ⟩ : ∃ Z, Z = zeros 64 := ⟨_, rfl⟩
  have HZ := Lib.hid hZ
  rw [← hZ] at hz64 ⊢
  clear hZ
  obtain ⟨Bd, hBd⟩ : ∃ B, B = pb ++ Z.drop m := ⟨_, rfl⟩
  have hBl : Bd.length = 64 := by rw [hBd, List.length_append, List.length_drop, ← hm, hz64]; omega
  have hcpy : ∀ {w : World} {g : Nat}, Blk w g 5 ((bv pb).take m ++ (bv Z).drop m ++ []) → Blk w g 5 (bv Bd) := fun h => by
    have e : (bv pb).take m ++ (bv Z).drop m ++ [] = bv Bd := by
      rw [hBd, bv_append, List.append_nil, List.take_of_length_le (by rw [bv_length, hm]; exact Nat.le_refl _)]
      unfold bv
      rw [List.map_drop]
    rwa [e] at h
  rw [← hBd]
  clear hBd
  have hbsg : ∀ {w : World} {g : Nat}, Blk w g 5 (bv Bd) → Bs w (.slice (some ⟨g, 0, none⟩) 64 64) Bd := fun h => by
    have h2 : Bs _ (.slice (some ⟨_, 0, none⟩) Bd.length Bd.length) Bd := Bs.of_blk (rest := []) (by rw [List.append_nil]; exact h) (Nat.le_refl _) (by omega)
    rw [hBl] at h2
    exact h2
  have CP := fun v w h => copy_any Bd v w h (by omega)
  have WR := fun w bw hD hb hbp => pWrite_any p q v L A Bd bw w hD hb hbp (by omega) (by omega)
  have WQ := fun w bw hE hb hbp => qWrite_any P Q v M A Bd bw w hE hb hbp (by omega) (by omega)
  obtain ⟨E, hE⟩ : ∃ E : Int, E = v.e (writeE v.m A Bd.length) := ⟨_, rfl⟩
  rw [← hE] at WR WQ
  clear hE
  obtain ⟨V, hV⟩ : ∃ V, V = v.wr A Bd := ⟨_, rfl⟩
  rw [← hV] at WR WQ ⊢
  clear hV
  have hmi : (m : Int) ≤ 32 := by omega
  have hq1 : Int.tmod x_ 2 = 0 ∨ Int.tmod x_ 2 ≠ 0 := by omega
  go_enter Tryz.func17, Tryz.ntmps17
  go_wp2_with (with_reducible refine st_box ?_)
  refine StopOp.go rfl fun K hK => ?_
  refine wp_box (v := .agg #[.int .i64 d, .int .i64 l, .int .i64 x_, .int .u64 (cov : Nat), .int .i64 n, .slice aof F.length capf]) (by rfl) ?_
  intro t w1 ht1 ht2 hm1 hT
  simp only [put_some, List.set_cons_succ, List.set_cons_zero]
  refine hK _ _ ?_
  clear hK K
  have hT1 : Blk w1 t 56 [.int .i64 d, .int .i64 l, .int .i64 x_, .int .u64 (cov : Nat), .int .i64 n, .slice aof F.length capf] := hT
  clear hT
  have B1 := B.new hm1 ht1 hT1
  clear hT1 hm1 ht2
  have d0 := (B1.blk 0 rfl).cell' (i := 0) rfl
  have d4 := (B1.blk 0 rfl).cell' (i := 4) rfl
  go_wp2_with (first
                | (with_reducible refine st_make ?_)
                | (go_at_call 10; (with_reducible refine (PK _).mono ?_); rintro e w2 ⟨rfl, rfl⟩)
                | (go_at_call 10; (with_reducible refine (PN _).mono ?_); rintro e w2 ⟨rfl, rfl⟩))
  refine StopOp.go rfl fun K hK => ?_
  refine wp_make (nl := 64) (nc := 64) stB (by rfl) (by rfl) rfl rfl (Nat.le_refl _) (by omega) (by omega) ?_
  intro gz w2 hg1 hg2 hm2 hB2
  simp only [put_some, List.set_cons_succ, List.set_cons_zero]
  refine hK _ _ ?_
  clear hK K
  have hB2' : Blk w2 gz 5 (bv Z) := by rw [HZ.out, bv_zeros]; simpa [Value.cells] using hB2
  have B2 := B1.new hm2 hg1 hB2'
  clear hB2 hB2' d4 d0
  have d2 := (B2.blk 1 rfl).cell' (i := 2) rfl
  go_upto_if 198 with fail
  go_cut [24] (fun u wx => u = .int .i64 Lg ∧ wx = w2)
  case first =>
    have d1 := (B2.blk 1 rfl).cell' (i := 1) rfl
    rcases hq1 with h1 | h1
    · rw [if_pos h1] at hLg
      have d2z : (Int.tmod x_ 2 == 0) = true := by rw [beq_iff_eq]; exact h1
      go_wp2_with fail
      go_meet
      exact ⟨by rw [hLg], rfl⟩
    · rw [if_neg h1] at hLg
      have d2z : (Int.tmod x_ 2 == 0) = false := by rw [beq_eq_false_iff_ne]; exact h1
      go_wp2_with (go_at_call 10; (with_reducible refine (PL _).mono ?_); rintro e w3 ⟨rfl, rfl⟩)
      go_meet
      exact ⟨by rw [hLg], rfl⟩
  case rest =>
  obtain ⟨rfl, rfl⟩ := hcut
  have d3 := (B2.blk 1 rfl).cell' (i := 3) rfl
  have HM := Lib.hid hm
  clear hm hLg hq1 d2
  go_wp2_with (first
                | (with_reducible refine st_copy ?_)
                | (go_at_call 57; (with_reducible refine (HP _).mono ?_); rintro e w3 ⟨hv_, rfl, hh, hnh, hlth, hm3⟩; obtain ⟨aoh, caph, rfl, _, _⟩ := Bs.frn hh HM.out.symm))
  have B3 := B2.ext hm3
  have hsrc := Bs.onn hh HM.out.symm
  refine StopOp.go rfl fun K hK => ?_
  refine wp_copy_head (rest := []) m (cap := 64) (n := 64) (m := m) (by omega) Tryz.underlying39 (by kernel_rfl) (by rfl) (by rfl) (by simpa using B3.blk 0 rfl) (by rw [bv_length]; exact hz64) hsrc (bv_one _) ?_
  intro w4 hB4 hm4
  simp only [put_some, List.set_cons_succ, List.set_cons_zero]
  refine hK _ _ ?_
  clear hK K
  have hB4' := hcpy hB4
  have B4 := B3.head (B1.young hg1) hm4 hB4'
  clear hB4 hB4' hsrc hh hnh hlth hm3 hm4 d3 B2 B3
  go_wp2_with fail
  refine wp_region_T [⟨0, true, []⟩, ⟨1, true, []⟩, ⟨2, true, []⟩, ⟨3, true, []⟩, ⟨4, true, []⟩, ⟨5, true, []⟩, ⟨8, true, []⟩, ⟨9, true, []⟩, ⟨10, true, []⟩, ⟨11, true, []⟩, ⟨12, true, []⟩, ⟨13, true, []⟩, ⟨6, false, [1, 3, 9, 11]⟩, ⟨7, false, [9, 11]⟩, ⟨14, false, []⟩, ⟨15, true, []⟩, ⟨16, true, []⟩] (by kernel_rfl) (by kernel_rfl) ?_
  have hm5 := Mod.drew [] w4
  obtain ⟨w5, hx5⟩ : ∃ x, x = w4.drew := ⟨_, rfl⟩
  rw [← hx5] at hm5 ⊢
  clear hx5
  have B5 := B4.ext hm5
  have e0 := (B5.blk 2 rfl).cell' (i := 0) rfl
  have e2 := (B5.blk 2 rfl).cell' (i := 2) rfl
  have hb5 := hbsg (B5.blk 0 rfl)
  iterate 12 (refine wpT_n rfl rfl (fun K hK => ?_); go_wp2_with fail)
  refine wpT_callh rfl rfl (fun K hK => ?_)
  go_wp2_with (go_at_call 13; (with_reducible refine (CP _ _ hb5).mono ?_); rintro e w6 ⟨cv, rfl, hoc, hnc, hm6⟩; obtain ⟨aoc, capc, rfl, _, _⟩ := Ob.frn hoc hBl)
  refine ⟨(agains_cons rfl (again_const (fun _ => rfl)) (agains_cons rfl (again_load rfl rfl (hm6.block _ (B5.blk 2 rfl).lt (by simp)) (B5.blk 2 rfl).kinds) (agains_cons rfl (again_const (fun _ => rfl)) (agains_cons rfl (again_load rfl rfl (hm6.block _ (B5.blk 2 rfl).lt (by simp)) (B5.blk 2 rfl).kinds) agains_nil)))), ?_⟩
  have B6 := B5.ext hm6
  have D6 := B6.D
  have hbc := Ob.bs hoc
  have hncp : ∀ y ∈ blks (.slice aoc 64 capc), y ≠ p := fun y hy => by have h1 := hnc y hy; have h2 := B5.D.lt0 p List.mem_cons_self; omega
  refine wpT_callh rfl rfl (fun K hK => ?_)
  go_wp2_with (go_at_call 55; (with_reducible refine (WR _ _ D6 hbc hncp).mono ?_); rintro e w7 ⟨rfl, hP7⟩)
  obtain ⟨L7, B7, hm7⟩ := B6.dt hP7
  refine ⟨(agains_cons rfl (again_const (fun _ => rfl)) (agains_cons rfl (again_load rfl rfl (hm7.block _ (B6.blk 2 rfl).lt (B6.outD 2 rfl)) (B6.blk 2 rfl).kinds) agains_nil)), ?_⟩
  have E7 := B7.E
  have hb7 := hbsg (B7.blk 0 rfl)
  have hgzP : ∀ y ∈ blks (.slice (some ⟨gz, 0, none⟩) 64 64), y ≠ P := fun y hy e => B7.outE 0 rfl (by have h1 : y = gz := List.mem_singleton.1 hy; rw [← h1, e]; exact List.mem_cons_self)
  refine wpT_call rfl rfl (fun K hK => ?_)
  go_wp2_with (go_at_call 56; (with_reducible refine (WQ _ _ E7 hb7 hgzP).mono ?_); rintro e w8 ⟨rfl, hP8⟩)
  obtain ⟨M8, B8, hm8⟩ := B7.rt hP8
  iterate 2 (refine wpT_n rfl rfl (fun K hK => ?_); go_wp2_with fail)
  refine wpT_nil ?_
  go_wp2_with fail
  go_ret
  exact ⟨_, _, rfl, B8.tail.tail⟩
end Go.Proofs.YtminfegoldgjpaaGreatDoor
