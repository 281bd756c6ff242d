import Derived.Test.YtboigcnpamldlaaDoorFrF
import Derived.Test.YtboigcnpamldlaaDoorRdA
import Derived.Deep.RegionWith
import Derived.Deep.DeepCutAuto
/-! Frames: the reference's Get. -/
set_option linter.unusedVariables false
set_option linter.unusedSimpArgs false
set_option maxRecDepth 100000
namespace Go.Proofs.YtboigcnpamldlaaDoor
open Go.RowKit Gw

/-- b[lo:hi] of bytes -/
theorem Bs.subx {w : World} {ao : Option Addr} {n cap lo hi : Nat} {l : List UInt8} (h : Bs w (.slice ao n cap) l) (h1 : lo < hi) (h2 : hi ≤ l.length) (hc : n ≤ cap) (hn : n = l.length) : Bs w (.slice (ao.map (·.add lo)) (hi - lo) (cap - lo)) ((l.drop lo).take (hi - lo)) := by
  subst hn
  have hcm : ¬ cap = lo := by omega
  have := Sl.cut (lo := lo) (hi := hi) (m := cap) h (by omega) h2 (by omega) (by omega)
  rw [if_neg hcm] at this
  unfold Bs
  rw [List.length_take, List.length_drop, Nat.min_eq_left (by omega)]
  have hb : bv ((l.drop lo).take (hi - lo)) = ((bv l).drop lo).take (hi - lo) := by simp [bv, List.map_take, List.map_drop]
  rw [hb]
  simpa using this
theorem Bs.suby {w : World} {ao : Option Addr} {n cap lo hi : Nat} {l : List UInt8} (h : Bs w (.slice ao n cap) l) (h1 : lo ≤ hi) (h2 : hi ≤ l.length) (hc : n ≤ cap) (hn : n = l.length) (hcm : lo < cap) : Bs w (.slice (ao.map (·.add lo)) (hi - lo) (cap - lo)) ((l.drop lo).take (hi - lo)) := by
  subst hn
  have := Sl.cut (lo := lo) (hi := hi) (m := cap) h h1 h2 (by omega) (by omega)
  rw [if_neg (by omega)] at this
  unfold Bs
  rw [List.length_take, List.length_drop, Nat.min_eq_left (by omega)]
  have hb : bv ((l.drop lo).take (hi - lo)) = ((bv l).drop lo).take (hi - lo) := by simp [bv, List.map_take, List.map_drop]
  rw [hb]
  simpa using this
set_option maxRecDepth 1000000 in
set_option maxHeartbeats 16000000 in
theorem rfget_any (b : List UInt8) (v : Value) (w : World) (hb : Bs w v b) (hl : b.length ≤ 140737488355328) : Calls Tryd.prog 21 #[v] w (GetF b w) := by
  obtain ⟨aob, capb, rfl, hc1, hc2⟩ := hb.form
  by_cases h2 : b.length < 2
  · have y : (b.length : Int) < 2 := by omega
    go_enter Tryd.func21, Tryd.ntmps21
    go_wp2_with (with_reducible refine st_alloc ?_)
    refine StopOp.go rfl fun K hK => ?_
    refine wp_alloc zero_frame ?_
    intro g w1 hg1 hg2 hm1 hB1
    simp only [put_some, List.set_cons_succ, List.set_cons_zero]
    refine hK _ _ ?_
    clear hK K
    go_wp2_with (with_reducible refine st_store ?_)
    refine StopOp.go rfl fun K hK => ?_
    refine wp_store (u := .agg #[.int .u64 0, .int .u64 0, .slice none 0 0]) (by rfl) (by rfl) (by kernel_rfl) hB1 (by simp [Value.cells]) (by simp [Value.cells, Value.oneCell']) ?_
    intro w90 hm90 hB90
    refine hK _ _ ?_
    clear hK K
    have z0 := hB90.cell' (i := 0) rfl
    have z1 := hB90.cell' (i := 1) rfl
    have z2 := hB90.cell' (i := 2) rfl
    go_wp2_with fail
    exact bodyPost_ret (v := .tuple #[.agg #[.int .u64 0, .int .u64 0, .slice none 0 0], .int .i64 0, .int .i64 4]) (by simp [results, Tryd.results21, go_sem, z0, z1, z2]) rfl (gf_no (by unfold errF; rw [if_pos h2]) (by decide) rfl (hm1.fresh hm90 (by simpa using hg1)))
  have y2 : (2 : Int) ≤ b.length := by omega
  have V0 := fun w h => refValue_any (b.take 2) (.slice aob 2 capb) w h (by rw [List.length_take]; omega)
  have hb2 := hb.pref rfl (k := 2) (by omega) (by omega)
  have e0 : val (b.take 2) = nb b 0 2 := by unfold nb; rw [List.drop_zero]
  rw [e0] at V0
  have kl := nb_lt b 0 2
  have herr : errF b = if 32 < nb b 0 2 then 80 else if b.length < 22 + nb b 0 2 then 4 else if nb b (18 + nb b 0 2) 4 ≠ crcS (b.take (18 + nb b 0 2)) then 81 else 0 := by unfold errF; rw [if_neg h2]
  have hpar : parF b = ⟨nb b 2 8, nb b 10 8, (b.drop 18).take (nb b 0 2)⟩ := rfl
  have hnum : numF b = if errF b = 0 then 22 + nb b 0 2 else 0 := rfl
  obtain ⟨k, hk⟩ : ∃ k, k = nb b 0 2 := ⟨_, rfl⟩
  rw [← hk] at V0 kl herr hpar hnum
  clear hk e0
  have k1 : (k : Int) ≤ 65535 := by omega
  have k2 : (0 : Int) ≤ k := by omega
  have HERR := Lib.hid herr
  have HPAR := Lib.hid hpar
  have HNUM := Lib.hid hnum
  clear herr hpar hnum kl
  by_cases h32 : 32 < k
  · have y : (32 : Int) < k := by omega
    go_enter Tryd.func21, Tryd.ntmps21
    go_wp2_with (with_reducible refine st_alloc ?_)
    refine StopOp.go rfl fun K hK => ?_
    refine wp_alloc zero_frame ?_
    intro g w1 hg1 hg2 hm1 hB1
    simp only [put_some, List.set_cons_succ, List.set_cons_zero]
    refine hK _ _ ?_
    clear hK K
    have hb21 := hb2.ext hm1
    go_wp2_with (first
                  | (with_reducible refine st_store ?_)
                  | (go_at_call 50; refine (V0 _ hb21).mono ?_; rintro e w3 ⟨rfl, rfl⟩))
    refine StopOp.go rfl fun K hK => ?_
    refine wp_store (u := .agg #[.int .u64 0, .int .u64 0, .slice none 0 0]) (by rfl) (by rfl) (by kernel_rfl) hB1 (by simp [Value.cells]) (by simp [Value.cells, Value.oneCell']) ?_
    intro w90 hm90 hB90
    refine hK _ _ ?_
    clear hK K
    have z0 := hB90.cell' (i := 0) rfl
    have z1 := hB90.cell' (i := 1) rfl
    have z2 := hB90.cell' (i := 2) rfl
    go_wp2_with fail
    exact bodyPost_ret (v := .tuple #[.agg #[.int .u64 0, .int .u64 0, .slice none 0 0], .int .i64 0, .int .i64 80]) (by simp [results, Tryd.results21, go_sem, z0, z1, z2]) rfl (gf_no (by rw [HERR.out, if_pos h32]) (by decide) rfl (hm1.fresh hm90 (by simpa using hg1)))
  have y32 : (k : Int) ≤ 32 := by omega
  have SZ := fun w => rsize_any (k : Int) w
  rw [show sizeF (k : Int) = 22 + k from if_neg (by omega)] at SZ
  by_cases hsh : b.length < 22 + k
  · have y : (b.length : Int) < 22 + k := by omega
    go_enter Tryd.func21, Tryd.ntmps21
    go_wp2_with (with_reducible refine st_alloc ?_)
    refine StopOp.go rfl fun K hK => ?_
    refine wp_alloc zero_frame ?_
    intro g w1 hg1 hg2 hm1 hB1
    simp only [put_some, List.set_cons_succ, List.set_cons_zero]
    refine hK _ _ ?_
    clear hK K
    have hb21 := hb2.ext hm1
    go_wp2_with (first
                  | (with_reducible refine st_store ?_)
                  | (go_at_call 50; refine (V0 _ hb21).mono ?_; rintro e w3 ⟨rfl, rfl⟩)
                  | (go_at_call 18; refine (SZ _).mono ?_; rintro e w3 ⟨rfl, rfl⟩))
    refine StopOp.go rfl fun K hK => ?_
    refine wp_store (u := .agg #[.int .u64 0, .int .u64 0, .slice none 0 0]) (by rfl) (by rfl) (by kernel_rfl) hB1 (by simp [Value.cells]) (by simp [Value.cells, Value.oneCell']) ?_
    intro w90 hm90 hB90
    refine hK _ _ ?_
    clear hK K
    have z0 := hB90.cell' (i := 0) rfl
    have z1 := hB90.cell' (i := 1) rfl
    have z2 := hB90.cell' (i := 2) rfl
    go_wp2_with fail
    exact bodyPost_ret (v := .tuple #[.agg #[.int .u64 0, .int .u64 0, .slice none 0 0], .int .i64 0, .int .i64 4]) (by simp [results, Tryd.results21, go_sem, z0, z1, z2]) rfl (gf_no (by rw [HERR.out, if_neg h32, if_pos hsh]) (by decide) rfl (hm1.fresh hm90 (by simpa using hg1)))
  have y : (22 : Int) + k ≤ b.length := by omega
  go_enter Tryd.func21, Tryd.ntmps21
  go_wp2_with (with_reducible refine st_alloc ?_)
  refine StopOp.go rfl fun K hK => ?_
  refine wp_alloc zero_frame ?_
  intro g w1 hg1 hg2 hm1 hB1
  simp only [put_some, List.set_cons_succ, List.set_cons_zero]
  refine hK _ _ ?_
  clear hK K
  have hb21 := hb2.ext hm1
  go_wp2_with (first
                | (go_at_call 50; refine (V0 _ hb21).mono ?_; rintro e w3 ⟨rfl, rfl⟩)
                | (go_at_call 18; refine (SZ _).mono ?_; rintro e w3 ⟨rfl, rfl⟩))
  have hbA := hb.ext (hm1.ext (Mod.drew [] w1))
  have hG1 : Blk w1.drew g 25 [.int .u64 0, .int .u64 0, .slice none 0 0] := Blk.ext hB1 (Mod.drew [] w1)
  have hM1 := hm1.ext (Mod.drew [] w1)
  refine wp_region_T [⟨0, true, []⟩, ⟨1, true, []⟩, ⟨2, true, []⟩, ⟨3, true, []⟩, ⟨4, true, []⟩, ⟨6, true, []⟩, ⟨7, true, []⟩, ⟨8, true, []⟩, ⟨9, true, []⟩, ⟨5, false, [8]⟩, ⟨10, false, []⟩, ⟨11, true, []⟩, ⟨12, true, []⟩] (by kernel_rfl) (by kernel_rfl) ?_
  obtain ⟨w2, hw2⟩ : ∃ x, x = w1.drew := ⟨_, rfl⟩
  rw [← hw2] at hbA hG1 hM1 ⊢
  clear hw2 hB1 hm1 hb21
  have h22 : 22 + k ≤ b.length := by omega
  have V4 := fun w h => refValue_any ((b.drop (22 + k - 4)).take (22 + k - (22 + k - 4))) (.slice (Option.map (fun x => x.add (22 + k - 4)) aob) (22 + k - (22 + k - 4)) (capb - (22 + k - 4))) w h (by rw [List.length_take, List.length_drop]; omega)
  have e4 : val ((b.drop (22 + k - 4)).take (22 + k - (22 + k - 4))) = nb b (18 + k) 4 := by
    unfold nb
    rw [show 22 + k - 4 = 18 + k by omega, show 22 + k - (18 + k) = 4 by omega]
  have hs4 := hbA.subx (lo := 22 + k - 4) (hi := 22 + k) (by omega) h22 hc1 rfl
  rw [e4] at V4
  have x4 := nb_lt b (18 + k) 4
  obtain ⟨S4, hS4⟩ : ∃ S, S = nb b (18 + k) 4 := ⟨_, rfl⟩
  rw [← hS4] at V4 x4
  have hpre := hbA.pref rfl (k := 22 + k - 4) (by omega) (by omega)
  obtain ⟨B, hB⟩ : ∃ B, B = b.take (18 + k) := ⟨_, rfl⟩
  rw [show b.take (22 + k - 4) = B by rw [hB]; congr 1; omega] at hpre
  have hcl := crcS_lt B
  have RS := fun w h => rsum_any B (.slice aob (22 + k - 4) capb) w h
  obtain ⟨cs, hcs⟩ : ∃ c, c = crcS B := ⟨_, rfl⟩
  rw [← hcs] at RS hcl
  have HS := Lib.hid (And.intro hS4 (And.intro hB hcs))
  have z2 : IntKind.u64.wrap (cs : Int) = cs := IntWalk.u64_in _ (by omega)
  have q2 : (cs : Int) ≤ 4294967295 := by omega
  have q3 : (0 : Int) ≤ cs := by omega
  clear hS4 hB hcs e4
  iterate 9 (refine wpT_n rfl rfl (fun K hK => ?_); go_wp2_with fail)
  refine wpT_callh rfl rfl (fun K hK => ?_)
  go_wp2_with (go_at_call 50; refine (V4 _ hs4).mono ?_; rintro e w3 ⟨rfl, rfl⟩)
  refine ⟨agains_same, ?_⟩
  refine wpT_call rfl rfl (fun K hK => ?_)
  go_wp2_with (go_at_call 42; refine (RS _ hpre).mono ?_; rintro e w3 ⟨rfl, rfl⟩)
  by_cases hsum : S4 = cs
  · subst hsum
    have q4 : ((S4 : Int) != (S4 : Int)) = false := by simp
    iterate 2 (refine wpT_n rfl rfl (fun K hK => ?_); go_wp2_with fail)
    refine wpT_nil ?_
    go_wp2_with fail
    have HSZ := Lib.hid SZ
    clear V0 SZ V4 RS hs4 hpre hb2 hb
    obtain ⟨pb, ob, rfl, _⟩ := hbA.byte (show 0 < b.length by omega)
    have V1 := fun w h => refValue_any ((b.drop 2).take 8) (.slice (some ⟨pb, ob + 2, none⟩) 8 (capb - 2)) w h (by rw [List.length_take]; omega)
    have V2 := fun w h => refValue_any ((b.drop 10).take 8) (.slice (some ⟨pb, ob + 10, none⟩) 8 (capb - 10)) w h (by rw [List.length_take]; omega)
    have p1 : Bs w2 (.slice (some ⟨pb, ob + 2, none⟩) 8 (capb - 2)) ((b.drop 2).take 8) := hbA.subx (lo := 2) (hi := 10) (by omega) (by omega) hc1 rfl
    have p2 : Bs w2 (.slice (some ⟨pb, ob + 10, none⟩) 8 (capb - 10)) ((b.drop 10).take 8) := hbA.subx (lo := 10) (hi := 18) (by omega) (by omega) hc1 rfl
    have x1 : (2 : Int) ≤ 10 ∧ (10 : Int) ≤ b.length ∧ (10 : Int) ≤ capb ∧ (18 : Int) ≤ capb ∧ (18 : Int) ≤ b.length := by omega
    obtain ⟨x1a, x1b, x1c, x1d, x1e⟩ := x1
    obtain ⟨N1, hN1⟩ : ∃ n, n = val ((b.drop 2).take 8) := ⟨_, rfl⟩
    obtain ⟨N2, hN2⟩ : ∃ n, n = val ((b.drop 10).take 8) := ⟨_, rfl⟩
    rw [← hN1] at V1
    rw [← hN2] at V2
    have HN := Lib.hid (And.intro hN1 hN2)
    clear hN1 hN2
    have pd1 := p1.ext (Mod.drew [] w2)
    have pd2 := p2.ext (Mod.drew [] w2)
    have pa1 := (p1.ext (Mod.alloc [] w2 (.cells #[.int .u64 0, .int .u64 0, .slice none 0 0] 25))).ext (Mod.drew [] _)
    have pa2 := (p2.ext (Mod.alloc [] w2 (.cells #[.int .u64 0, .int .u64 0, .slice none 0 0] 25))).ext (Mod.drew [] _)
    go_upto_region 11 with fail
    go_cut [7] (fun x wx => ∃ f, x = .pointer (some ⟨f, 0, none⟩) ∧ w2.heap.size ≤ f ∧ Blk wx f 25 [.int .u64 N1, .int .u64 N2, .slice none 0 0] ∧ Mod [] w2 wx)
    case first =>
      go_region_with (first
        | (go_at_call 50; (with_reducible refine (V1 _ pd1).mono ?_); rintro e w' ⟨rfl, rfl⟩)
        | (go_at_call 50; (with_reducible refine (V2 _ pd2).mono ?_); rintro e w' ⟨rfl, rfl⟩)
        | (go_at_call 50; (with_reducible refine (V1 _ pa1).mono ?_); rintro e w' ⟨rfl, rfl⟩)
        | (go_at_call 50; (with_reducible refine (V2 _ pa2).mono ?_); rintro e w' ⟨rfl, rfl⟩))
      all_goals (go_wp2_with fail; go_meet; exact ⟨w2.heap.size, rfl, Nat.le_refl _, Blk.ext (Blk.new _ _ _) (Mod.drew [] _), (Mod.alloc [] _ _).ext (Mod.drew [] _)⟩)
    case rest =>
    obtain ⟨f, rfl, hf1, hF, hmc⟩ := hcut
    have hbC := hbA.ext hmc
    have hGC := hG1.ext hmc
    have hMC := hM1.ext hmc
    have hgf : g ≠ f := by have := hG1.lt; omega
    have hw2 := hM1.size
    clear V1 V2 p1 p2 pd1 pd2 pa1 pa2 hbA hG1 hM1 hmc
    have hbody : Bs wc (.slice (some ⟨pb, ob + 18, none⟩) (22 + k - 4 - 18) (capb - 18)) ((b.drop 18).take (22 + k - 4 - 18)) := hbC.suby (lo := 18) (hi := 22 + k - 4) (by omega) (by omega) hc1 rfl (by omega)
    rw [show (b.drop 18).take (22 + k - 4 - 18) = (parF b).l by rw [HPAR.out]; congr 1; omega] at hbody
    have hbl : (parF b).l.length = 22 + k - 4 - 18 := by rw [HPAR.out]; dsimp only; rw [List.length_take, List.length_drop]; omega
    obtain ⟨L, hL⟩ : ∃ L, L = (parF b).l := ⟨_, rfl⟩
    rw [← hL] at hbody hbl
    have HL := Lib.hid (And.intro hL hbl)
    have hk64 : k ≤ 64 := by omega
    clear hL hbl
    go_wp2_with fail
    refine wp_region_T [⟨0, true, []⟩, ⟨1, true, []⟩, ⟨2, true, []⟩, ⟨3, true, []⟩, ⟨4, true, []⟩, ⟨5, true, []⟩, ⟨6, false, []⟩, ⟨7, true, []⟩, ⟨8, false, []⟩] (by kernel_rfl) (by kernel_rfl) ?_
    have hb3 := hbody.ext (Mod.drew [] wc)
    have hF3 := hF.ext (Mod.drew [] wc)
    have hG3 := hGC.ext (Mod.drew [] wc)
    have hM3 := hMC.ext (Mod.drew [] wc)
    have hwc : wc.heap.size = wc.drew.heap.size := rfl
    obtain ⟨w3, hw3⟩ : ∃ x, x = wc.drew := ⟨_, rfl⟩
    rw [← hw3] at hb3 hF3 hG3 hM3 hwc ⊢
    clear hw3 hbody hF hGC hMC hbC
    have f2 := hF3.cell' (i := 2) rfl
    iterate 6 (refine wpT_n rfl rfl (fun K hK => ?_); go_wp2_with fail)
    have hb3' : Sl w3 1 (.slice (some ⟨pb, ob + 18, none⟩) (22 + k - 4 - 18) (capb - 18)) (22 + k - 4 - 18) (bv L) := Bs.onx hb3 HL.out.2
    refine wpT_e0 rfl rfl (fun K hK => ?_)
    refine wp_append_ow stB (by rfl) (by rfl) (Ow.nil w3 5 1) hb3' (bv_one _) (by omega) (by omega) ?_
    intro v6 w6 hv6 hm6 hb6
    simp only [put_some, List.set_cons_succ, List.set_cons_zero]
    refine hK _ _ ?_
    clear hK K
    rw [List.nil_append, Nat.zero_add] at hv6
    have ho6 : Ob w6 v6 L := Ob.of_onx hv6 HL.out.2
    obtain ⟨ao6, cap6, rfl, _, _⟩ := Ob.nx ho6 HL.out.2
    have hF6 := hF3.mod hm6 (by simp [blks])
    have hG6 := hG3.mod hm6 (by simp [blks])
    have hM6 := hM3.fresh hm6 (by simp [blks])
    have hn6 : ∀ x ∈ blks (.slice ao6 (22 + k - 4 - 18) cap6), w3.heap.size ≤ x := fun x hx => (hb6 x hx).elim (by simp [blks]) id
    refine wpT_n rfl rfl (fun K hK => ?_)
    go_wp2_with fail
    refine wpT_e0 rfl rfl (fun K hK => ?_)
    refine wp_store1 (by kernel_rfl) (by rfl) (u := .slice ao6 (22 + k - 4 - 18) cap6) (by rfl) ⟨rfl, rfl⟩ hF6 (by simp) ?_
    intro w7 hm7 hB7
    refine hK _ _ ?_
    clear hK K
    have hF7 : Blk w7 f 25 [.int .u64 N1, .int .u64 N2, .slice ao6 (22 + k - 4 - 18) cap6] := hB7
    have hfw : w.heap.size ≤ f := by omega
    refine wpT_nil ?_
    have y0 := hF7.cell' (i := 0) rfl
    have y1 := hF7.cell' (i := 1) rfl
    have y2 := hF7.cell' (i := 2) rfl
    have hG7 := hG6.mod hm7 (by simpa using hgf)
    have ho7 : Ob w7 (.slice ao6 (22 + k - 4 - 18) cap6) L := ho6.mod hm7 (fun x hx hh => by have := hn6 x hx; have := hF3.lt; have e : x = f := (by simpa using hh); omega)
    have hM7 := hM6.fresh hm7 (by simpa using hfw)
    go_wp2_with (with_reducible refine st_store ?_)
    refine StopOp.go rfl fun K hK => ?_
    refine wp_store (u := .agg #[.int .u64 N1, .int .u64 N2, .slice ao6 (22 + k - 4 - 18) cap6]) (by rfl) (by rfl) (by kernel_rfl) hG7 (by simp [Value.cells]) (by simp [Value.cells, Value.oneCell']) ?_
    intro w90 hm90 hB90
    refine hK _ _ ?_
    clear hK K
    have z0 := hB90.cell' (i := 0) rfl
    have z1 := hB90.cell' (i := 1) rfl
    have z2 := hB90.cell' (i := 2) rfl
    go_wp2_with fail
    refine bodyPost_ret (v := .tuple #[.agg #[.int .u64 N1, .int .u64 N2, .slice ao6 (22 + k - 4 - 18) cap6], .int .i64 (22 + k), .int .i64 0]) (by simp [results, Tryd.results21, go_sem, z0, z1, z2]) rfl ?_
    have he : errF b = 0 := by rw [HERR.out, if_neg h32, if_neg hsh, ← HS.out.1, ← HS.out.2.1, ← HS.out.2.2, if_neg (by simp)]
    have hg : getF b = ⟨N1, N2, L⟩ := by
      unfold getF
      rw [if_pos he, HL.out.1, HN.out.1, HN.out.2, HPAR.out]
      rfl
    have hg9 : ∀ x ∈ blks (.slice ao6 (22 + k - 4 - 18) cap6), x ≠ g := fun x hx e => by have := hn6 x hx; have := hG3.lt; omega
    refine ⟨.slice ao6 (22 + k - 4 - 18) cap6, ?_, ?_, fun x hx => Nat.le_trans hM3.size (hn6 x hx), hM7.fresh hm90 (by simpa using hg1)⟩
    · rw [hg, he, show numF b = 22 + k by rw [HNUM.out, if_pos he]]
      simp
    · rw [hg]
      exact ho7.mod hm90 (fun x hx hh => hg9 x hx (by simpa using hh))
  · have q4 : ((S4 : Int) != (cs : Int)) = true := by simp; omega
    iterate 2 (refine wpT_n rfl rfl (fun K hK => ?_); go_wp2_with fail)
    refine wpT_nil ?_
    go_wp2_with (with_reducible refine st_store ?_)
    refine StopOp.go rfl fun K hK => ?_
    refine wp_store (u := .agg #[.int .u64 0, .int .u64 0, .slice none 0 0]) (by rfl) (by rfl) (by kernel_rfl) hG1 (by simp [Value.cells]) (by simp [Value.cells, Value.oneCell']) ?_
    intro w90 hm90 hB90
    refine hK _ _ ?_
    clear hK K
    have z0 := hB90.cell' (i := 0) rfl
    have z1 := hB90.cell' (i := 1) rfl
    have z2 := hB90.cell' (i := 2) rfl
    go_wp2_with fail
    exact bodyPost_ret (v := .tuple #[.agg #[.int .u64 0, .int .u64 0, .slice none 0 0], .int .i64 0, .int .i64 81]) (by simp [results, Tryd.results21, go_sem, z0, z1, z2]) rfl (gf_no (by rw [HERR.out, if_neg h32, if_neg hsh, ← HS.out.1, ← HS.out.2.1, ← HS.out.2.2, if_pos (by simpa using hsum)]) (by decide) rfl (hM1.fresh hm90 (by simpa using hg1)))
end Go.Proofs.YtboigcnpamldlaaDoor
