import Derived.Test.YtfepggdljhiemaaGreatDoorFfA
import Derived.Test.YtfepggdljhiemaaGreatDoorGMem
/-! Lists of frames that lie apart: gangwaykit.flatFrames. -/
set_option linter.unusedVariables false
set_option linter.unusedSimpArgs false
set_option maxRecDepth 100000
namespace Go.Proofs.YtfepggdljhiemaaGreatDoor
open Go.RowKit Gw

set_option maxRecDepth 1000000 in
set_option maxHeartbeats 16000000 in
theorem flatFrames_any (V : Nat → Value) (c : Nat → List Ce) (n : Nat → Nat) (N : Nat) (lv : Value) (w : World) (hl : Ow w 40 1 lv N (rc V N)) (hr : RSf w N V c) (hd : Dj N V) (hN : N ≤ 1048576) (hn : ∀ a, (c a).length = n a) (hn2 : ∀ a, a < N → n a ≤ 1099511627776) :
    Calls Tryz.prog 111 #[lv] w fun e w' => e = .returned (.bool true) ∧ Mod (LB V N) w w' := by
  obtain ⟨lao, lcap, rfl, hlc, hlc2⟩ := hl.sl.form
  go_enter Tryz.func111, Tryz.ntmps111
  go_wp2_with fail
  go_loopw [3] (fun i wr => ∃ (j : Nat) (c' : Nat → List Ce), j ≤ N ∧ i = .int .i64 j ∧ Mod (LB V N) w wr ∧ Ow wr 40 1 (.slice lao N lcap) N (rc V N) ∧ RSf wr N V c' ∧ (∀ a, (c' a).length = n a) ∧ (∀ a, a < j → c' a = cmarks a (n a))) (fun i _ => N - (intOf i).toNat)
  case atStart => exact ⟨0, c, by omega, rfl, Mod.refl _ _, hl, hr, hn, fun a ha => by omega⟩
  case round =>
    obtain ⟨j, c1, hj, rfl, hm1, hl1, hr1, hn1, hk1⟩ := hrel
    by_cases hlt : j < N
    · have y1 : (j : Int) < N := by omega
      have hnj := hn2 j hlt
      obtain ⟨lb, rfl, hc⟩ := frow_at hl1 hlt
      obtain ⟨ao, cap, hv, hv1, hv2⟩ := (hr1 j hlt).n (hn1 j)
      rw [hv] at hc
      have Hv := Lib.hid hv
      clear hv
      obtain ⟨m, hmj⟩ : ∃ m, m = n j := ⟨_, rfl⟩
      rw [← hmj] at hc Hv hnj hv1
      have Hmj := Lib.hid hmj
      clear hmj
      go_wp2_with fail
      go_loopw [4] (fun i wr => ∃ (i' : Nat) (c' : Nat → List Ce), i' ≤ m ∧ i = .int .i64 i' ∧ Mod (LB V N) w wr ∧ Ow wr 40 1 (.slice (some ⟨lb, 0, none⟩) N lcap) N (rc V N) ∧ RSf wr N V c' ∧ (∀ a, (c' a).length = n a) ∧ (∀ a, a < j → c' a = cmarks a (n a)) ∧ (c' j).take i' = cmarks j i') (fun i _ => m - (intOf i).toNat)
      case atStart => exact ⟨0, c1, by omega, rfl, hm1, hl1, hr1, hn1, hk1, rfl⟩
      case round =>
        obtain ⟨i, c2, hi, rfl, hm2, hl2, hr2, hn2', hk2, ht2⟩ := hrel
        obtain ⟨lb', hlb', hc2⟩ := frow_at hl2 hlt
        injection hlb' with hlb'
        injection hlb' with hlb'
        subst hlb'
        rw [Hv.out] at hc2
        by_cases hil : i < m
        · have z1 : (i : Int) < m := by omega
          have ho := hr2 j hlt
          have hlm : (c2 j).length = m := by rw [hn2', Hmj.out]
          rw [Hv.out] at ho
          obtain ⟨g, rest, rfl, hB, hlen, hcl, _⟩ := ho.blk (by omega)
          have Hlm := Lib.hid hlm
          clear hlm hlen hcl
          go_wp2_with fail
          refine wp_region_T [⟨0, true, []⟩, ⟨1, true, []⟩, ⟨2, true, []⟩, ⟨3, true, []⟩, ⟨4, true, []⟩, ⟨5, true, []⟩, ⟨6, true, []⟩, ⟨7, false, [3]⟩, ⟨8, true, []⟩, ⟨9, false, []⟩] (by kernel_rfl) (by kernel_rfl) ?_
          have hx0 := Mod.drew [] wr
          obtain ⟨x0, hx0e⟩ : ∃ x, x = wr.drew := ⟨_, rfl⟩
          rw [← hx0e] at hx0 ⊢
          clear hx0e
          obtain ⟨lcs, hLB, hlc3⟩ := frow_blk (hl2.ext hx0) hlt
          rw [Hv.out] at hlc3
          have r0 := hLB.cell' hlc3
          iterate 7 (refine wpT_n rfl rfl (fun K hK => ?_); go_wp2_with fail)
          refine wpT_callh rfl rfl (fun K hK => ?_)
          go_wp2_with (go_at_call 154; refine (markFr_any j i _ (by omega) (by omega) (by omega) (by omega)).mono ?_; rintro e w3 ⟨rfl, hm3⟩)
          refine ⟨agains_cons rfl (again_load rfl rfl (hm3.block lb hLB.lt (by simp)) hLB.kinds) agains_nil, ?_⟩
          refine wpT_n rfl rfl (fun K hK => ?_)
          go_wp2_with fail
          refine wpT_e0 rfl rfl (fun K hK => ?_)
          refine wp_store (u := .agg #[.int .u64 0, .int .u64 (ms j i : Nat), .slice none 0 0]) (by rfl) (by rfl) (by kernel_rfl) (hB.ext (hx0.ext hm3)) (by rw [List.length_append, cv_length, Hlm.out]; simp [Value.cells]; omega) (by simp [Value.cells, Value.oneCell']) ?_
          intro w4 hm4 hB4
          refine hK _ _ ?_
          clear hK K
          refine wpT_nil ?_
          go_wp2_with fail
          go_roundw
          case rel =>
            have hB4 : Blk w4 g 97 (cv ((c2 j).set i (mce j i)) ++ rest) := by rw [← cv_set rest (c2 j) i (mce j i) (by rw [Hlm.out]; exact hil)]; exact hB4
            have hmg : Mod (blks (V j)) wr w4 := by rw [Hv.out]; exact ((hx0.ext hm3).weak (by simp) : Mod [g] wr w3).trans hm4
            have ho4 : Of w4 (V j) ((c2 j).set i (mce j i)) := by
              rw [Hv.out]
              have h5 := hr2 j hlt
              rw [Hv.out] at h5
              obtain ⟨g', rest', hg', hB', _, hcl', hcm'⟩ := h5.blk (by omega)
              injection hg' with hg'
              injection hg' with hg'
              subst hg'
              have hrr := (hB'.inj hB).2
              rw [List.append_cancel_left hrr] at hcl'
              unfold Of
              rw [List.length_set, Hlm.out]
              exact Ow.of_blk hB4 hv1 hcm' (by rw [← hcl', List.length_append, List.length_append, cv_length, cv_length, List.length_set]) (by rw [cv_length, List.length_set, Hlm.out])
            refine ⟨i + 1, updF c2 j ((c2 j).set i (mce j i)), by omega, by go_num, hm2.then hmg fun b hb => .inl (mem_LB hlt hb), frows_mod hl2 (hr2 j hlt) hmg, hr2.set hd hlt hmg ho4, fun a => ?_, fun a ha => ?_, ?_⟩
            · unfold updF
              split
              · rename_i h; rw [List.length_set, hn2', h]
              · exact hn2' a
            · unfold updF
              rw [if_neg (by omega)]
              exact hk2 a ha
            · unfold updF
              rw [if_pos rfl]
              exact take_cmarks ht2 (by rw [Hlm.out]; exact hil)
          case measure => simp [intOf]; omega
        · obtain rfl : i = m := by omega
          go_wp2_with fail
          go_roundw
          case rel =>
            refine ⟨j + 1, c2, by omega, by go_num, hm2, hl2, hr2, hn2', fun a ha => ?_⟩
            by_cases haj : a < j
            · exact hk2 a haj
            · obtain rfl : a = j := by omega
              rw [List.take_of_length_le (by rw [hn2', Hmj.out]; exact Nat.le_refl _)] at ht2
              rw [ht2, Hmj.out]
          case measure => simp [intOf]; omega
    · obtain rfl : j = N := by omega
      have hrM : RSf wr j V (fun a => cmarks a (n a)) := fun a ha => by show Of wr (V a) (cmarks a (n a)); rw [← hk1 a ha]; exact hr1 a ha
      clear hr1 hk1 hn1 hr hl hn
      go_wp2_with (with_reducible refine st_make ?_)
      refine StopOp.go rfl fun K hK => ?_
      refine wp_make (nl := j) (nc := j) stFrow (by rfl) (by rfl) rfl rfl (Nat.le_refl _) (by omega) (by omega) ?_
      intro gb w2 hgb1 hgb2 hm2 hB2
      simp only [put_some, List.set_cons_succ, List.set_cons_zero]
      refine hK _ _ ?_
      clear hK K
      have hBH : ∃ H, Blk w2 gb 40 (rc H j) := ⟨fun _ => .slice none 0 0, by simpa [rc, Value.cells, List.flatten_replicate_singleton, List.map_const'] using hB2⟩
      obtain ⟨H0, hB2'⟩ := hBH
      have hVlt : ∀ a, a < j → ∀ b ∈ blks (V a), b < w2.heap.size := fun a ha b hb => Nat.lt_of_lt_of_le (Ow.lt (hrM a ha) b hb) hm2.size
      have hgbV : w.heap.size ≤ gb := Nat.le_trans hm1.size hgb1
      have hrM2 := hrM.ext hm2
      have hl2 := hl1.ext hm2
      have hm12 := hm1.ext hm2
      have hlgb : ∀ b ∈ blks (.slice lao j lcap), b < gb := fun b hb => Nat.lt_of_lt_of_le (Ow.lt hl1 b hb) hgb1
      clear hB2 hrM hl1 hm1 hm2
      go_wp2_with fail
      go_loopw [6] (fun i wr => ∃ (k : Nat) (H : Nat → Value), k ≤ j ∧ i = .int .i64 k ∧ Mod (LB V j) w wr ∧ w2.heap.size ≤ wr.heap.size ∧ Ow wr 40 1 (.slice lao j lcap) j (rc V j) ∧ RSf wr j V (fun a => cmarks a (n a)) ∧ Blk wr gb 40 (rc H j) ∧ (∀ a, a < k → Of wr (H a) (cmarks a (n a + 64)) ∧ ∀ b ∈ blks (H a), b ∈ blks (V a) ∨ w2.heap.size ≤ b)) (fun i _ => j - (intOf i).toNat)
      case atStart => exact ⟨0, H0, by omega, rfl, hm12, Nat.le_refl _, hl2, hrM2, hB2', fun a ha => by omega⟩
      case round =>
        obtain ⟨k, H, hk, rfl, hm3, hs3, hl3, hr3, hB3, hH3⟩ := hrel
        by_cases hlt : k < j
        · have y1 : (k : Int) < j := by omega
          have hnj := hn2 k hlt
          obtain ⟨lb, rfl, hc⟩ := frow_at hl3 hlt
          obtain ⟨ao, cap, hv, hv1, hv2⟩ := (hr3 k hlt).n (cmarks_length _ _)
          rw [hv] at hc
          have Hv := Lib.hid hv
          clear hv
          obtain ⟨m, hmj⟩ : ∃ m, m = n k := ⟨_, rfl⟩
          rw [← hmj] at hc Hv hnj hv1
          have Hmj := Lib.hid hmj
          clear hmj
          go_wp2_with fail
          go_loopw [7, 8] (fun x i wr => ∃ (i' : Nat) (ao' : Option Addr) (cap' : Nat), i' ≤ 64 ∧ i = .int .i64 i' ∧ x = .slice ao' (m + i') cap' ∧ Mod (LB V j) w wr ∧ w2.heap.size ≤ wr.heap.size ∧ Ow wr 40 1 (.slice (some ⟨lb, 0, none⟩) j lcap) j (rc V j) ∧ RSf wr j V (fun a => cmarks a (n a)) ∧ Blk wr gb 40 (rc H j) ∧ (∀ a, a < k → Of wr (H a) (cmarks a (n a + 64)) ∧ ∀ b ∈ blks (H a), b ∉ blks (.slice ao' (m + i') cap')) ∧ Of wr (.slice ao' (m + i') cap') (cmarks k (m + i')) ∧ (∀ b ∈ blks (.slice ao' (m + i') cap'), b ∈ blks (V k) ∨ w2.heap.size ≤ b)) (fun _ i _ => 64 - (intOf i).toNat)
          case atStart =>
            have ho := hr3 k hlt
            rw [Hv.out] at ho
            dsimp only at ho
            refine ⟨0, ao, cap, by omega, rfl, by rw [Nat.add_zero], hm3, hs3, hl3, hr3, hB3, fun a ha => ⟨(hH3 a ha).1, fun b hb hb2 => ?_⟩, by rw [Nat.add_zero, Hmj.out]; rw [Hmj.out] at ho; exact ho, fun b hb => .inl (by rw [Hv.out]; simpa using hb)⟩
            have hbk : b ∈ blks (V k) := by rw [Hv.out]; simpa using hb2
            rcases (hH3 a ha).2 b hb with h | h
            · exact hd a k (by omega) hlt (by omega) b h hbk
            · have := hVlt k hlt b hbk
              omega
          case round =>
            obtain ⟨i, ao4, cap4, hi, rfl, rfl, hm4, hs4, hl4, hr4, hB4, hH4, ho4, hb4⟩ := hrel
            obtain ⟨lb', hlb', hc4⟩ := frow_at hl4 hlt
            injection hlb' with hlb'
            injection hlb' with hlb'
            subst hlb'
            rw [Hv.out] at hc4
            by_cases hil : i < 64
            · have z1 : (i : Int) < 64 := by omega
              go_wp2_with (first | (with_reducible refine st_bslice ?_) | (go_at_call 154; refine (markFr_any k ((m : Int) + i) _ (by omega) (by omega) (by omega) (by omega)).mono ?_; rintro e w3 ⟨rfl, hm30⟩))
              refine StopOp.go rfl fun K hK => ?_
              refine wp_bslice stFr [.agg #[.int .u64 0, .int .u64 (ms k ((m : Int) + i) : Nat), .slice none 0 0]] rfl (by decide) (by rfl) (by simp [Value.cells]) ?_
              intro q w5 hq1 hq2 hm50 hB5
              simp only [put_some, List.set_cons_succ, List.set_cons_zero]
              refine hK _ _ ?_
              clear hK K
              have hm5 := hm30.ext hm50
              have hb5 : Sl w5 3 (.slice (some ⟨q, 0, none⟩) 1 1) 1 (cv [mce k ((m : Int) + i)]) := (Ow.of_blk (xs := cv [mce k ((m : Int) + i)]) (rest := []) hB5 (Nat.le_refl _) (by omega) rfl rfl : Ow w5 97 3 (.slice (some ⟨q, 0, none⟩) 1 1) 1 (cv [mce k ((m : Int) + i)])).sl
              have ho5 : Ow w5 97 3 (.slice ao4 (m + i) cap4) (m + i) (cv (cmarks k (m + i))) := by
                have := ho4.ext hm5
                unfold Of at this
                rwa [cmarks_length] at this
              go_wp2_with (with_reducible refine st_append ?_)
              refine StopOp.go rfl fun K hK => ?_
              refine wp_append_kp stFr (by rfl) (by rfl) ho5 hb5 (by simp [cv, Ce.cells, mce, Value.oneCell']) (by omega) (by omega) (by omega) ?_
              intro v6 w6 ho6 hm6 hb6 hkp
              simp only [put_some, List.set_cons_succ, List.set_cons_zero]
              refine hK _ _ ?_
              clear hK K
              rw [Nat.add_assoc] at ho6
              obtain ⟨ao6, cap6, rfl, _, _⟩ := ho6.sl.form
              go_wp2_with fail
              go_roundw
              case rel =>
                have s5 := hm5.size
                have hL : ∀ b ∈ blks (.slice ao4 (m + i) cap4), b ∈ LB V j ∨ w.heap.size ≤ b := fun b hb => (hb4 b hb).imp (mem_LB hlt) fun h => by have := hm12.size; omega
                refine ⟨i + 1, ao6, cap6, by omega, by go_num, rfl, (hm4.ext hm5).then hm6 hL, by have := hm6.size; omega, frows_mod (hl4.ext hm5) (ho4.ext hm5) hm6, fun a ha => ?_, (hB4.ext hm5).mod hm6 (Ow.ne ho5 (hB4.ext hm5) ne_frows), fun a ha => ⟨?_, fun b hb hb2 => ?_⟩, ?_, fun b hb => ?_⟩
                · refine hkp _ _ _ ((hr4 a ha).ext hm5) ?_
                  by_cases hak : a = k
                  · left
                    subst hak
                    rw [cmarks_length, ← Hmj.out]
                    omega
                  · right
                    intro b hb hb2
                    rcases hb4 b hb2 with h | h
                    · exact hd a k ha hlt hak b hb h
                    · have := hVlt a ha b hb
                      omega
                · exact hkp _ _ _ ((hH4 a ha).1.ext hm5) (.inr (hH4 a ha).2)
                · rcases hb6 b hb2 with h | h
                  · exact (hH4 a ha).2 b hb h
                  · have := Ow.lt (hH4 a ha).1 b hb
                    omega
                · unfold Of
                  rw [cmarks_length, ← Nat.add_assoc, cmarks_succ, cv_append]
                  exact ho6
                · rcases hb6 b hb with h | h
                  · exact hb4 b h
                  · right
                    omega
              case measure => simp [intOf]; omega
            · obtain rfl : i = 64 := by omega
              have cg := hB4.cell' (rc_at H hlt)
              go_wp2_with (with_reducible refine st_store ?_)
              refine StopOp.go rfl fun K hK => ?_
              refine wp_store1 (by kernel_rfl) (by rfl) (u := .slice ao4 (m + 64) cap4) (by rfl) ⟨rfl, rfl⟩ hB4 (by rw [rc_length]; exact hlt) ?_
              intro w7 hm7 hB7
              refine hK _ _ ?_
              clear hK K
              rw [rc_set _ _ hlt] at hB7
              go_wp2_with fail
              go_roundw
              case rel =>
                have hne : ∀ (u : Value) (l : List Ce), Of wr u l → Of w7 u l := fun u l hu => Ow.mod hu hm7 fun b hb hg => Ow.ne hu hB4 ne_frows (by
                  have : b = gb := by simpa using hg
                  exact this ▸ hb)
                have hlb : lb ≠ gb := fun h => by
                  have h1 := hlgb lb (by simp [blks])
                  omega
                refine ⟨k + 1, _, by omega, by go_num, hm4.then hm7 (by simpa using .inr hgbV), by have := hm7.size; omega, Ow.mod hl4 hm7 (by simpa [blks] using hlb), fun a ha => hne _ _ (hr4 a ha), hB7, fun a ha => ?_⟩
                by_cases hak : a < k
                · rw [updV_ne _ _ hak]
                  exact ⟨hne _ _ (hH4 a hak).1, (hH3 a hak).2⟩
                · obtain rfl : a = k := by omega
                  rw [updV_eq, ← Hmj.out]
                  exact ⟨hne _ _ ho4, hb4⟩
              case measure => simp [intOf]; omega
        · obtain rfl : k = j := by omega
          clear hB2' hrM2 hm12
          obtain ⟨wr0, hwr0⟩ : ∃ x, x = wr := ⟨_, rfl⟩
          subst hwr0
          go_wp2_with fail
          go_loopw [9] (fun i wr => ∃ k' : Nat, k' ≤ k ∧ i = .int .i64 k' ∧ Mod (LB V k) w wr ∧ Mod [] wr0 wr) (fun i _ => k - (intOf i).toNat)
          case atStart => exact ⟨0, by omega, rfl, hm3, Mod.refl _ _⟩
          case round =>
            obtain ⟨a, ha, rfl, hm4, hx4⟩ := hrel
            by_cases hlt : a < k
            · have y1 : (a : Int) < k := by omega
              have hnj := hn2 a hlt
              have hl4 := hl3.ext hx4
              have ho := (hr3 a hlt).ext hx4
              have hoH := (hH3 a hlt).1.ext hx4
              have ho0 := hr3 a hlt
              have hoH0 := (hH3 a hlt).1
              obtain ⟨lb, rfl, hc⟩ := frow_at hl4 hlt
              obtain ⟨ao, cap, hv, hv1, hv2⟩ := ho.n (cmarks_length _ _)
              obtain ⟨aoh, caph, hvh, hvh1, hvh2⟩ := hoH.n (cmarks_length _ _)
              have hch := (hB3.ext hx4).cell' (rc_at H hlt)
              rw [hv] at hc ho0
              rw [hvh] at hch hoH0
              dsimp only at ho0
              have Hv := Lib.hid (And.intro hv hvh)
              clear hv hvh ho hoH
              obtain ⟨m, hmj⟩ : ∃ m, m = n a := ⟨_, rfl⟩
              rw [← hmj] at hc hch ho0 hoH0 Hv hnj hv1 hvh1
              clear hmj
              go_wp2_with fail
              go_loopw [10] (fun i wr => ∃ i' : Nat, i' ≤ m + 64 ∧ i = .int .i64 i' ∧ Mod (LB V k) w wr ∧ Mod [] wr0 wr) (fun i _ => m + 64 - (intOf i).toNat)
              case atStart => exact ⟨0, by omega, rfl, hm4, hx4⟩
              case round =>
                obtain ⟨i, hi, rfl, hm5, hx5⟩ := hrel
                obtain ⟨lb', hlb', hc5⟩ := frow_at (hl3.ext hx5) hlt
                injection hlb' with hlb'
                injection hlb' with hlb'
                subst hlb'
                have hch5 := (hB3.ext hx5).cell' (rc_at H hlt)
                rw [Hv.out.1] at hc5
                rw [Hv.out.2] at hch5
                have ho5 : Of wr (.slice ao m cap) (cmarks a m) := by
                  have := ho0.ext hx5
                  exact this
                have hoH5 : Of wr (.slice aoh (m + 64) caph) (cmarks a (m + 64)) := hoH0.ext hx5
                by_cases hil : i < m + 64
                · have z1 : (i : Int) < m + 64 := by omega
                  obtain ⟨gh, csh, rfl, hBH, e0, e1, e2⟩ := hoH5.mk3 (cmarks_at a hil)
                  by_cases him : i < m
                  · have z2 : (i : Int) < m := by omega
                    obtain ⟨gv, csv, rfl, hBV, d0, d1, d2⟩ := ho5.mk3 (cmarks_at a him)
                    go_wp2_with fail
                    refine wp_region_T [⟨0, true, []⟩, ⟨1, true, []⟩, ⟨2, true, []⟩, ⟨3, true, []⟩, ⟨4, true, []⟩, ⟨5, true, []⟩, ⟨6, true, []⟩, ⟨7, true, []⟩, ⟨8, true, []⟩, ⟨9, false, [3, 6]⟩, ⟨10, false, []⟩, ⟨11, true, []⟩, ⟨12, true, []⟩, ⟨13, true, []⟩, ⟨14, true, []⟩, ⟨15, true, []⟩, ⟨16, true, []⟩, ⟨17, true, []⟩, ⟨18, true, []⟩, ⟨19, true, []⟩, ⟨20, true, []⟩, ⟨21, true, []⟩, ⟨22, true, []⟩, ⟨23, true, []⟩, ⟨24, true, []⟩, ⟨25, true, []⟩, ⟨26, true, []⟩, ⟨27, true, []⟩, ⟨28, true, []⟩, ⟨29, true, []⟩, ⟨30, false, [24, 27]⟩, ⟨31, false, []⟩, ⟨32, true, []⟩, ⟨33, true, []⟩, ⟨34, true, []⟩] (by kernel_rfl) (by kernel_rfl) ?_
                    have hx0 := Mod.drew [] wr
                    obtain ⟨x0, hx0e⟩ : ∃ x, x = wr.drew := ⟨_, rfl⟩
                    rw [← hx0e] at hx0 ⊢
                    clear hx0e
                    have hG0 := (hB3.ext hx5).ext hx0
                    have g0 := hG0.cell' (rc_at H hlt)
                    rw [Hv.out.2] at g0
                    have hH0 := hBH.ext hx0
                    have c0 := hH0.cell' e0
                    have c1 := hH0.cell' e1
                    have c2 := hH0.cell' e2
                    iterate 9 (refine wpT_n rfl rfl (fun K hK => ?_); go_wp2_with fail)
                    refine wpT_callh rfl rfl (fun K hK => ?_)
                    go_wp2_with (go_at_call 154; refine (markFr_any a i _ (by omega) (by omega) (by omega) (by omega)).mono ?_; rintro e x1 ⟨rfl, hx1⟩)
                    refine ⟨agains_cons rfl (again_load rfl rfl (hx1.block gb hG0.lt (by simp)) hG0.kinds) (agains_cons rfl (again_load rfl rfl (hx1.block gh hH0.lt (by simp)) hH0.kinds) agains_nil), ?_⟩
                    clear g0 c0 c1 c2
                    refine wpT_call rfl rfl (fun K hK => ?_)
                    go_wp2_with (go_at_call 45; refine (sameM a i _).mono ?_; rintro e x2 ⟨rfl, hx2⟩)
                    have hw2 := (hx0.ext hx1).ext hx2
                    obtain ⟨lcs, hLB, hlc3⟩ := frow_blk ((hl3.ext hx5).ext hw2) hlt
                    rw [Hv.out.1] at hlc3
                    have r0 := hLB.cell' hlc3
                    have hV2 := hBV.ext hw2
                    have c0 := hV2.cell' d0
                    have c1 := hV2.cell' d1
                    have c2 := hV2.cell' d2
                    iterate 2 (refine wpT_n rfl rfl (fun K hK => ?_); go_wp2_with fail)
                    iterate 8 (refine wpT_gq (gi := 12) rfl rfl rfl rfl rfl (fun K hK => ?_); go_wp2_with fail)
                    iterate 9 (refine wpT_gq (gi := 20) rfl rfl rfl rfl rfl (fun K hK => ?_); go_wp2_with fail)
                    refine wpT_gcallh (gi := 20) rfl rfl rfl rfl (fun K hK => ?_)
                    go_wp2_with (go_at_call 154; refine (markFr_any a i _ (by omega) (by omega) (by omega) (by omega)).mono ?_; rintro e x3 ⟨rfl, hx3⟩)
                    refine ⟨agains_cons rfl (again_load rfl rfl (hx3.block lb hLB.lt (by simp)) hLB.kinds) (agains_cons rfl (again_load rfl rfl (hx3.block gv hV2.lt (by simp)) hV2.kinds) agains_nil), ?_⟩
                    clear r0 c0 c1 c2
                    refine wpT_gcall (gi := 20) rfl rfl rfl rfl (fun K hK => ?_)
                    go_wp2_with (go_at_call 45; refine (sameM a i _).mono ?_; rintro e x4 ⟨rfl, hx4'⟩)
                    have hw4 := (hw2.ext hx3).ext hx4'
                    refine wpT_gq (gi := 20) rfl rfl rfl rfl rfl (fun K hK => ?_)
                    go_wp2_with fail
                    refine wpT_gq (gi := 12) rfl rfl rfl rfl rfl (fun K hK => ?_)
                    go_wp2_with fail
                    refine wpT_n rfl rfl (fun K hK => ?_)
                    go_wp2_with fail
                    refine wpT_nil ?_
                    go_wp2_with fail
                    go_roundw
                    case rel => exact ⟨i + 1, by omega, by go_num, hm5.ext hw4, hx5.ext hw4⟩
                    case measure => simp [intOf]; omega
                  · have z2 : decide (i < m) = false := decide_eq_false him
                    go_wp2_with fail
                    refine wp_region_T [⟨0, true, []⟩, ⟨1, true, []⟩, ⟨2, true, []⟩, ⟨3, true, []⟩, ⟨4, true, []⟩, ⟨5, true, []⟩, ⟨6, true, []⟩, ⟨7, true, []⟩, ⟨8, true, []⟩, ⟨9, false, [3, 6]⟩, ⟨10, false, []⟩, ⟨11, true, []⟩, ⟨12, true, []⟩, ⟨13, true, []⟩, ⟨14, true, []⟩, ⟨15, true, []⟩, ⟨16, true, []⟩, ⟨17, true, []⟩, ⟨18, true, []⟩, ⟨19, true, []⟩, ⟨20, true, []⟩, ⟨21, true, []⟩, ⟨22, true, []⟩, ⟨23, true, []⟩, ⟨24, true, []⟩, ⟨25, true, []⟩, ⟨26, true, []⟩, ⟨27, true, []⟩, ⟨28, true, []⟩, ⟨29, true, []⟩, ⟨30, false, [24, 27]⟩, ⟨31, false, []⟩, ⟨32, true, []⟩, ⟨33, true, []⟩, ⟨34, true, []⟩] (by kernel_rfl) (by kernel_rfl) ?_
                    have hx0 := Mod.drew [] wr
                    obtain ⟨x0, hx0e⟩ : ∃ x, x = wr.drew := ⟨_, rfl⟩
                    rw [← hx0e] at hx0 ⊢
                    clear hx0e
                    have hG0 := (hB3.ext hx5).ext hx0
                    have g0 := hG0.cell' (rc_at H hlt)
                    rw [Hv.out.2] at g0
                    have hH0 := hBH.ext hx0
                    have c0 := hH0.cell' e0
                    have c1 := hH0.cell' e1
                    have c2 := hH0.cell' e2
                    iterate 9 (refine wpT_n rfl rfl (fun K hK => ?_); go_wp2_with fail)
                    refine wpT_callh rfl rfl (fun K hK => ?_)
                    go_wp2_with (go_at_call 154; refine (markFr_any a i _ (by omega) (by omega) (by omega) (by omega)).mono ?_; rintro e x1 ⟨rfl, hx1⟩)
                    refine ⟨agains_cons rfl (again_load rfl rfl (hx1.block gb hG0.lt (by simp)) hG0.kinds) (agains_cons rfl (again_load rfl rfl (hx1.block gh hH0.lt (by simp)) hH0.kinds) agains_nil), ?_⟩
                    clear g0 c0 c1 c2
                    refine wpT_call rfl rfl (fun K hK => ?_)
                    go_wp2_with (go_at_call 45; refine (sameM a i _).mono ?_; rintro e x2 ⟨rfl, hx2⟩)
                    have hw2 := (hx0.ext hx1).ext hx2
                    obtain ⟨lcs, hLB, hlc3⟩ := frow_blk ((hl3.ext hx5).ext hw2) hlt
                    rw [Hv.out.1] at hlc3
                    have r0 := hLB.cell' hlc3
                    iterate 2 (refine wpT_n rfl rfl (fun K hK => ?_); go_wp2_with fail)
                    iterate 8 (refine wpT_gq (gi := 12) rfl rfl rfl rfl rfl (fun K hK => ?_); go_wp2_with fail)
                    iterate 12 (refine wpT_gk (gi := 20) rfl rfl rfl rfl rfl rfl (fun K hK => ?_); go_wp2_with fail)
                    refine wpT_gq (gi := 12) rfl rfl rfl rfl rfl (fun K hK => ?_)
                    go_wp2_with fail
                    refine wpT_n rfl rfl (fun K hK => ?_)
                    go_wp2_with fail
                    refine wpT_nil ?_
                    go_wp2_with fail
                    go_roundw
                    case rel => exact ⟨i + 1, by omega, by go_num, hm5.ext hw2, hx5.ext hw2⟩
                    case measure => simp [intOf]; omega
                · obtain rfl : i = m + 64 := by omega
                  go_wp2_with fail
                  go_roundw
                  case rel => exact ⟨a + 1, by omega, by go_num, hm5, hx5⟩
                  case measure => simp [intOf]; omega
            · obtain rfl : a = k := by omega
              have hl4 := hl3.ext hx4
              have hr4 : RSf wr a V (fun x => cmarks x (n x)) := hr3.ext hx4
              have hB4 := hB3.ext hx4
              have hs4 := hx4.size
              have hs2 : w2.heap.size ≤ wr.heap.size := Nat.le_trans hs3 hs4
              clear hl3 hr3 hB3 hH3 hm3 hs3
              obtain ⟨wr4, hwr4⟩ : ∃ x, x = wr := ⟨_, rfl⟩
              subst hwr4
              go_wp2_with fail
              go_loopw [11] (fun i wr => ∃ (b : Nat) (H' : Nat → Value), b ≤ a ∧ i = .int .i64 b ∧ Mod (LB V a) w wr ∧ wr4.heap.size ≤ wr.heap.size ∧ Ow wr 40 1 (.slice lao a lcap) a (rc V a) ∧ RSf wr a V (fun x => cmarks x (n x)) ∧ Blk wr gb 40 (rc H' a) ∧ (∀ x, x < b → Of wr (H' x) (cmarks x (n x) ++ cmarks ((x : Int) + a) 64) ∧ ∀ y ∈ blks (H' x), y ∈ blks (V x) ∨ wr4.heap.size ≤ y)) (fun i _ => a - (intOf i).toNat)
              case atStart => exact ⟨0, H, by omega, rfl, hm4, Nat.le_refl _, hl4, hr4, hB4, fun x hx => by omega⟩
              case round =>
                obtain ⟨b, H5, hb, rfl, hm5, hs5, hl5, hr5, hB5, hH5⟩ := hrel
                by_cases hlt : b < a
                · have y1 : (b : Int) < a := by omega
                  have hnj := hn2 b hlt
                  obtain ⟨lb, rfl, hc⟩ := frow_at hl5 hlt
                  obtain ⟨ao, cap, hv, hv1, hv2⟩ := (hr5 b hlt).n (cmarks_length _ _)
                  have hvb := hr5 b hlt
                  rw [hv] at hc hvb
                  dsimp only at hvb
                  have Hv := Lib.hid hv
                  clear hv
                  obtain ⟨m, hmj⟩ : ∃ m, m = n b := ⟨_, rfl⟩
                  rw [← hmj] at hc Hv hnj hv1 hvb
                  have Hmj := Lib.hid hmj
                  clear hmj
                  go_wp2_with (with_reducible refine st_make ?_)
                  refine StopOp.go rfl fun K hK => ?_
                  refine wp_make (nl := 64) (nc := 64) stFr (by rfl) (by rfl) rfl rfl (Nat.le_refl _) (by omega) (by omega) ?_
                  intro q w6 hq1 hq2 hm6 hB6
                  simp only [put_some, List.set_cons_succ, List.set_cons_zero]
                  refine hK _ _ ?_
                  clear hK K
                  obtain ⟨wb, hwb⟩ : ∃ x, x = wr := ⟨_, rfl⟩
                  subst hwb
                  go_wp2_with fail
                  go_loopw [13] (fun i wr => ∃ i' : Nat, i' ≤ 64 ∧ i = .int .i64 i' ∧ Mod [] wb wr ∧ Blk wr q 97 (cv (cmarks ((b : Int) + a) i' ++ List.replicate (64 - i') zce))) (fun i _ => 64 - (intOf i).toNat)
                  case atStart => exact ⟨0, by omega, rfl, hm6, by rw [show cmarks ((b : Int) + a) 0 = [] from rfl, List.nil_append, cv_rep]; exact hB6⟩
                  case round =>
                    obtain ⟨i, hi, rfl, hm7, hB7⟩ := hrel
                    by_cases hil : i < 64
                    · have z1 : (i : Int) < 64 := by omega
                      go_wp2_with (first | (with_reducible refine st_store ?_) | (go_at_call 154; refine (markFr_any ((b : Int) + a) i _ (by omega) (by omega) (by omega) (by omega)).mono ?_; rintro e w3 ⟨rfl, hm3'⟩))
                      refine StopOp.go rfl fun K hK => ?_
                      refine wp_store (u := .agg #[.int .u64 0, .int .u64 (ms ((b : Int) + a) i : Nat), .slice none 0 0]) (by rfl) (by rfl) (by kernel_rfl) (hB7.ext hm3') (by rw [cv_length]; simp [cmarks_length, Value.cells]; omega) (by simp [Value.cells, Value.oneCell']) ?_
                      intro w8 hm8' hB8'
                      refine hK _ _ ?_
                      clear hK K
                      have hm8 : Mod [q] wr w8 := (hm3'.weak (by simp) : Mod [q] wr w3).trans hm8'
                      have hB8 : Blk w8 q 97 (cv (cmarks ((b : Int) + a) (i + 1) ++ List.replicate (64 - (i + 1)) zce)) := by
                        rw [← cmarks_set _ _ _ hil, ← List.append_nil (cv _), ← cv_set [] _ i (mce ((b : Int) + a) i) (by simp [cmarks_length]; omega), List.append_nil]
                        exact hB8'
                      go_wp2_with fail
                      go_roundw
                      case rel => exact ⟨i + 1, by omega, by go_num, hm7.fresh hm8 (by simpa using hq1), hB8⟩
                      case measure => simp [intOf]; omega
                    · obtain rfl : i = 64 := by omega
                      have hc7 := (frow_at (hl5.ext hm7) hlt)
                      obtain ⟨lb', hlb', hc8⟩ := hc7
                      injection hlb' with hlb'
                      injection hlb' with hlb'
                      subst hlb'
                      rw [Hv.out] at hc8
                      have hl7 := hl5.ext hm7
                      have hr7 := hr5.ext hm7
                      have hBg7 := hB5.ext hm7
                      have hvb7 : Ow wr 97 3 (.slice ao m cap) m (cv (cmarks b m)) := by
                        have := hvb.ext hm7
                        unfold Of at this
                        rwa [cmarks_length] at this
                      have hq64' : Sl wr 3 (.slice (some ⟨q, 0, none⟩) 64 64) 64 (cv (cmarks ((b : Int) + a) 64)) := (Ow.of_blk (rest := []) (by rw [List.append_nil]; simpa using hB7) (Nat.le_refl _) (by omega) (by rw [List.append_nil, cv_length, cmarks_length]) (by rw [cv_length, cmarks_length]) : Ow wr 97 3 (.slice (some ⟨q, 0, none⟩) 64 64) 64 (cv (cmarks ((b : Int) + a) 64))).sl
                      clear hm6 hB6 hB7 hc
                      go_wp2_with (with_reducible refine st_append ?_)
                      refine StopOp.go rfl fun K hK => ?_
                      refine wp_append_kp stFr (by rfl) (by rfl) hvb7 hq64' (cm_one _ _) (by omega) (by omega) (by omega) ?_
                      intro v9 w9 ho9 hm9 hb9 hkp
                      simp only [put_some, List.set_cons_succ, List.set_cons_zero]
                      refine hK _ _ ?_
                      clear hK K
                      obtain ⟨ao9, cap9, rfl, _, _⟩ := ho9.sl.form
                      have hBg9 := hBg7.mod hm9 (Ow.ne hvb7 hBg7 ne_frows)
                      have hl9 := frows_mod (u := .slice ao m cap) (l := cmarks b m) hl7 (by unfold Of; rw [cmarks_length]; exact hvb7) hm9
                      have hLb : ∀ y ∈ blks (.slice ao m cap), y ∈ LB V a ∨ w.heap.size ≤ y := fun y hy => .inl (mem_LB hlt (by rw [Hv.out]; exact hy))
                      go_wp2_with (with_reducible refine st_store ?_)
                      refine StopOp.go rfl fun K hK => ?_
                      refine wp_store1 (by kernel_rfl) (by rfl) (u := .slice ao9 (m + 64) cap9) (by rfl) ⟨rfl, rfl⟩ hBg9 (by rw [rc_length]; exact hlt) ?_
                      intro w10 hm10 hB10
                      refine hK _ _ ?_
                      clear hK K
                      rw [rc_set _ _ hlt] at hB10
                      go_wp2_with fail
                      go_roundw
                      case rel =>
                        have s7 := hm7.size
                        have s9 := hm9.size
                        have s10 := hm10.size
                        have hne : ∀ (u : Value) (l : List Ce), Of w9 u l → Of w10 u l := fun u l hu => Ow.mod hu hm10 fun y hy hg => Ow.ne hu hBg9 ne_frows (by
                          have : y = gb := by simpa using hg
                          exact this ▸ hy)
                        have hlb : lb ≠ gb := fun h => by
                          have h1 := hlgb lb (by simp [blks])
                          omega
                        have hVk : ∀ x, x < a → x ≠ b → ∀ y ∈ blks (V x), y ∉ blks (.slice ao m cap) := fun x hx hxb y hy hy2 => hd x b hx hlt hxb y hy (by rw [Hv.out]; exact hy2)
                        refine ⟨b + 1, _, by omega, by go_num, ((hm5.ext hm7).then hm9 hLb).then hm10 (by simpa using .inr hgbV), by omega, Ow.mod hl9 hm10 (by simpa [blks] using hlb), fun x hx => hne _ _ ?_, hB10, fun x hx => ?_⟩
                        · refine hkp _ _ _ (hr7 x hx) ?_
                          by_cases hxb : x = b
                          · left
                            subst hxb
                            rw [cmarks_length, ← Hmj.out]
                            exact Nat.le_refl _
                          · exact .inr (hVk x hx hxb)
                        · by_cases hxb : x < b
                          · rw [updV_ne _ _ hxb]
                            refine ⟨hne _ _ (hkp _ _ _ ((hH5 x hxb).1.ext hm7) (.inr fun y hy hy2 => ?_)), (hH5 x hxb).2⟩
                            rcases (hH5 x hxb).2 y hy with h | h
                            · exact hVk x (by omega) (by omega) y h hy2
                            · have h1 := Ow.lt (hr4 b hlt) y (by rw [Hv.out]; exact hy2)
                              omega
                          · obtain rfl : x = b := by omega
                            rw [updV_eq, ← Hmj.out]
                            refine ⟨hne _ _ ?_, fun y hy => ?_⟩
                            · unfold Of
                              rw [cv_append, List.length_append, cmarks_length, cmarks_length]
                              exact ho9
                            · rcases hb9 y hy with h | h
                              · left
                                rw [Hv.out]
                                exact h
                              · right
                                omega
                      case measure => simp [intOf]; omega
                · obtain rfl : b = a := by omega
                  obtain ⟨wr5, hwr5⟩ : ∃ x, x = wr := ⟨_, rfl⟩
                  subst hwr5
                  go_wp2_with fail
                  go_loopw [14] (fun i wr => ∃ k' : Nat, k' ≤ b ∧ i = .int .i64 k' ∧ Mod [] wr5 wr) (fun i _ => b - (intOf i).toNat)
                  case atStart => exact ⟨0, by omega, rfl, Mod.refl _ _⟩
                  case round =>
                    obtain ⟨x, hx, rfl, hx6⟩ := hrel
                    by_cases hlt : x < b
                    · have y1 : (x : Int) < b := by omega
                      have hnj := hn2 x hlt
                      obtain ⟨lb, rfl, hc⟩ := frow_at (hl5.ext hx6) hlt
                      have ho0 := hr5 x hlt
                      have hoH0 := (hH5 x hlt).1
                      obtain ⟨ao, cap, hv, hv1, hv2⟩ := ho0.n (cmarks_length _ _)
                      obtain ⟨aoh, caph, hvh, hvh1, hvh2⟩ := hoH0.n (n := n x + 64) (by rw [List.length_append, cmarks_length, cmarks_length])
                      have hch := (hB5.ext hx6).cell' (rc_at H5 hlt)
                      rw [hv] at hc ho0
                      rw [hvh] at hch hoH0
                      dsimp only at ho0
                      have Hv := Lib.hid (And.intro hv hvh)
                      clear hv hvh
                      obtain ⟨m, hmj⟩ : ∃ m, m = n x := ⟨_, rfl⟩
                      rw [← hmj] at hc hch ho0 hoH0 Hv hnj hv1 hvh1
                      clear hmj
                      go_wp2_with fail
                      go_loopw [15] (fun i wr => ∃ i' : Nat, i' ≤ m ∧ i = .int .i64 i' ∧ Mod [] wr5 wr) (fun i _ => m - (intOf i).toNat)
                      case atStart => exact ⟨0, by omega, rfl, hx6⟩
                      case round =>
                        obtain ⟨i, hi, rfl, hx7⟩ := hrel
                        obtain ⟨lb', hlb', hc7⟩ := frow_at (hl5.ext hx7) hlt
                        injection hlb' with hlb'
                        injection hlb' with hlb'
                        subst hlb'
                        have hch7 := (hB5.ext hx7).cell' (rc_at H5 hlt)
                        rw [Hv.out.1] at hc7
                        rw [Hv.out.2] at hch7
                        by_cases hil : i < m
                        · have z1 : (i : Int) < m := by omega
                          have z3 : (i : Int) < m + 64 := by omega
                          obtain ⟨gh, csh, rfl, hBH, e0, e1, e2⟩ := (show Of wr (.slice aoh (m + 64) caph) _ from hoH0.ext hx7).mk3 (cmarks_atl x (by omega) _)
                          obtain ⟨gv, csv, rfl, hBV, d0, d1, d2⟩ := (show Of wr (.slice ao m cap) _ from ho0.ext hx7).mk3 (cmarks_at x (by omega))
                          go_wp2_with fail
                          refine wp_region_T [⟨0, true, []⟩, ⟨1, true, []⟩, ⟨2, true, []⟩, ⟨3, true, []⟩, ⟨4, true, []⟩, ⟨5, true, []⟩, ⟨6, true, []⟩, ⟨7, true, []⟩, ⟨8, true, []⟩, ⟨9, false, [3, 6]⟩, ⟨10, false, []⟩, ⟨11, true, []⟩, ⟨12, true, []⟩, ⟨13, true, []⟩, ⟨14, true, []⟩, ⟨15, true, []⟩, ⟨16, true, []⟩, ⟨17, true, []⟩, ⟨18, true, []⟩, ⟨19, true, []⟩, ⟨20, true, []⟩, ⟨21, true, []⟩, ⟨22, false, [16, 19]⟩, ⟨23, false, []⟩, ⟨24, true, []⟩, ⟨25, true, []⟩] (by kernel_rfl) (by kernel_rfl) ?_
                          have hx0 := Mod.drew [] wr
                          obtain ⟨x0, hx0e⟩ : ∃ x, x = wr.drew := ⟨_, rfl⟩
                          rw [← hx0e] at hx0 ⊢
                          clear hx0e
                          obtain ⟨lcs, hLB, hlc3⟩ := frow_blk ((hl5.ext hx7).ext hx0) hlt
                          rw [Hv.out.1] at hlc3
                          have r0 := hLB.cell' hlc3
                          have hV0 := hBV.ext hx0
                          have c0 := hV0.cell' d0
                          have c1 := hV0.cell' d1
                          have c2 := hV0.cell' d2
                          iterate 9 (refine wpT_n rfl rfl (fun K hK => ?_); go_wp2_with fail)
                          refine wpT_callh rfl rfl (fun K hK => ?_)
                          go_wp2_with (go_at_call 154; refine (markFr_any x i _ (by omega) (by omega) (by omega) (by omega)).mono ?_; rintro e x1 ⟨rfl, hx1⟩)
                          refine ⟨agains_cons rfl (again_load rfl rfl (hx1.block lb hLB.lt (by simp)) hLB.kinds) (agains_cons rfl (again_load rfl rfl (hx1.block gv hV0.lt (by simp)) hV0.kinds) agains_nil), ?_⟩
                          clear r0 c0 c1 c2
                          refine wpT_call rfl rfl (fun K hK => ?_)
                          go_wp2_with (go_at_call 45; refine (sameM x i _).mono ?_; rintro e x2 ⟨rfl, hx2⟩)
                          have hw2 := (hx0.ext hx1).ext hx2
                          have hG0 := (hB5.ext hx7).ext hw2
                          have g0 := hG0.cell' (rc_at H5 hlt)
                          rw [Hv.out.2] at g0
                          have hH0 := hBH.ext hw2
                          have c0 := hH0.cell' e0
                          have c1 := hH0.cell' e1
                          have c2 := hH0.cell' e2
                          iterate 2 (refine wpT_n rfl rfl (fun K hK => ?_); go_wp2_with fail)
                          iterate 9 (refine wpT_gq (gi := 12) rfl rfl rfl rfl rfl (fun K hK => ?_); go_wp2_with fail)
                          refine wpT_gcallh (gi := 12) rfl rfl rfl rfl (fun K hK => ?_)
                          go_wp2_with (go_at_call 154; refine (markFr_any x i _ (by omega) (by omega) (by omega) (by omega)).mono ?_; rintro e x3 ⟨rfl, hx3⟩)
                          refine ⟨agains_cons rfl (again_load rfl rfl (hx3.block gb hG0.lt (by simp)) hG0.kinds) (agains_cons rfl (again_load rfl rfl (hx3.block gh hH0.lt (by simp)) hH0.kinds) agains_nil), ?_⟩
                          clear g0 c0 c1 c2
                          refine wpT_gcall (gi := 12) rfl rfl rfl rfl (fun K hK => ?_)
                          go_wp2_with (go_at_call 45; refine (sameM x i _).mono ?_; rintro e x4 ⟨rfl, hx4'⟩)
                          have hw4 := (hw2.ext hx3).ext hx4'
                          refine wpT_gq (gi := 12) rfl rfl rfl rfl rfl (fun K hK => ?_)
                          go_wp2_with fail
                          refine wpT_n rfl rfl (fun K hK => ?_)
                          go_wp2_with fail
                          refine wpT_nil ?_
                          go_wp2_with fail
                          go_roundw
                          case rel => exact ⟨i + 1, by omega, by go_num, hx7.ext hw4⟩
                          case measure => simp [intOf]; omega
                        · obtain rfl : i = m := by omega
                          go_wp2_with fail
                          go_roundw
                          case rel => exact ⟨x + 1, by omega, by go_num, hx7⟩
                          case measure => simp [intOf]; omega
                    · obtain rfl : x = b := by omega
                      go_wp2_with fail
                      go_ret
                      exact ⟨rfl, hm5.ext hx6⟩
end Go.Proofs.YtfepggdljhiemaaGreatDoor
