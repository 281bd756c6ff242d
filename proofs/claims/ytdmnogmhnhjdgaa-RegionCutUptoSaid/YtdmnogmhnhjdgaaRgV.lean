import Derived.Test.YtdmnogmhnhjdgaaGRs
/-! RegionCut: its walk (under way). -/
set_option linter.unusedVariables false
set_option linter.unusedSimpArgs false
set_option maxRecDepth 100000
namespace Go.Proofs.Ytdmnogmhnhjdgaa
open Go.RowKit Gw

set_option maxRecDepth 1000000 in
set_option maxHeartbeats 16000000 in
theorem regionCut_core (a0 b0 n_ : Int) (o1 o2 : Pt) (W : World) (h1 : OkPt W o1) (h2 : OkPt W o2) (wa : i64 a0) (wb : i64 b0) (wn : i64 n_) :
    Calls Try.prog 9 #[.int .i64 a0, .int .i64 b0, .agg o1.cells.toArray, .agg o2.cells.toArray, .int .i64 n_] W fun e w' => e = .returned (.bool true) ∧ Mod [] W w' := by
  have IN := fun w => inner_any a0 b0 w wa wb
  obtain ⟨i1, i2, i3⟩ := in_le a0 b0
  obtain ⟨F, hF⟩ : ∃ F, F = inF a0 := ⟨_, rfl⟩
  obtain ⟨C, hC⟩ : ∃ F, F = inC a0 b0 := ⟨_, rfl⟩
  rw [← hF] at i1 i3
  rw [← hC] at i2 i3
  simp only [← hF, ← hC] at IN
  unfold InnP at IN
  obtain ⟨G, hG⟩ : ∃ G, G = 64 * F := ⟨_, rfl⟩
  simp only [← hG] at IN
  have HG := Lib.hid hG
  clear hF hC hG
  have BY := fun w r p h => gBytes_any r p F C 64 w h (by omega)
  have AW := fun w => gawake_any w
  have hS0 := Bm.zero F C
  have hz0 : abs (dev0 6 64) 64 (F * 64) (C * 64) = zeros (C * 64) := abs_zero fun i _ => ab_dev0 6 64 i
  obtain ⟨m0, hm0⟩ : ∃ m, m = dev0 6 64 := ⟨_, rfl⟩
  rw [← hm0] at hS0 hz0
  simp only [← hm0] at IN
  clear hm0
  obtain ⟨N, hN⟩ : ∃ N, N = C * 64 := ⟨_, rfl⟩
  have hNl : N ≤ 384 := by omega
  rw [← hN] at hz0
  simp only [← hN] at BY
  have y0 : (N : Int) ≤ 384 := by omega
  -- the first Write
  have FT := fun w h => fits_any o1 N w h (by omega)
  have hA1 := o1.at_le N
  have hB1 := o1.by_le N
  obtain ⟨A, hA⟩ : ∃ A, A = o1.at N := ⟨_, rfl⟩
  obtain ⟨B, hB⟩ : ∃ A, A = o1.by N := ⟨_, rfl⟩
  rw [← hA] at hA1 hB1
  rw [← hB] at hB1
  simp only [← hA, ← hB] at FT
  clear hA hB
  have hAB : A + B.length ≤ N := by omega
  have FT2 := fun w h => fits_any o2 N w h (by omega)
  have hA1' := o2.at_le N
  have hB1' := o2.by_le N
  obtain ⟨A2, hA⟩ : ∃ A, A = o2.at N := ⟨_, rfl⟩
  obtain ⟨B2, hB⟩ : ∃ A, A = o2.by N := ⟨_, rfl⟩
  rw [← hA] at hA1' hB1'
  rw [← hB] at hB1'
  simp only [← hA, ← hB] at FT2
  clear hA hB
  have hAB2 : A2 + B2.length ≤ N := by omega
  clear hA1' hB1'
  obtain ⟨m1, n1, hw, hWL⟩ := wrA_lv F C 64 m0 0 A B hS0.ok hS0.sz (by rw [hS0.len]; omega) (by omega)
  have hS1 := hS0.put hWL (by omega) (by omega)
  have hput := abs_put hWL (by omega : A + B.length ≤ C * 64)
  have q1 := hS1.n
  have q2 := hS1.row
  have WR := fun w r p q L bw h hR hb h1 h2 => gWrite_any r p q F C 64 (Lv m0 0) L A B bw w h hR hb hS0.sz (by show F + C ≤ m0.dur.length; rw [hS0.len]; omega) (by show 0 + 2 * (C * 64) ≤ 1000000; omega) (by show m0.row.length + C * 64 ≤ 1000000; have := hS0.row; omega) ⟨by omega, by omega⟩ h1 h2
  rw [hw] at WR
  unfold GWrP PdP at WR
  dsimp only at WR
  have SY : ∀ w r p q L, Rgn w r p F C 64 → Pd w p q (Lv m1 n1) L → Calls Try.prog 41 #[.pointer (some ⟨r, 0, none⟩)] w fun e w' => e = .returned (.int .i64 0) ∧ PdP w p q (Lv m1.sync (n1 + 1)) L w' := fun w r p q L hR h => gSync_any r p q F C 64 (Lv m1 n1) L w hR h (by show n1 ≤ 1000000; omega) (by show m1.row.length ≤ 1000000; omega)
  unfold PdP at SY
  have HNC := Lib.hid hN
  have HS := Lib.hid (And.intro hS1 hput)
  have hBl : B.length ≤ 384 := by omega
  have y3 : (A : Int) ≤ N := by omega
  have y4 : (A : Int) + B.length ≤ N := by omega
  clear hN hw hWL hS0 hS1 hput q1 q2 hA1 hB1
  obtain ⟨P1, u1, l1⟩ := o1
  obtain ⟨P2, u2, l2⟩ := o2
  obtain ⟨aou1, capu1, hue, _, _⟩ := h1.1.form
  dsimp only at hue
  subst hue
  obtain ⟨aou2, capu2, hue, _, _⟩ := h2.1.form
  dsimp only at hue
  subst hue
  unfold Pt.cells
  dsimp only at FT FT2 ⊢
  go_enter Try.func9, Try.ntmps9
  go_wp2_with (with_reducible refine st_box ?_)
  refine StopOp.go rfl fun K hK => ?_
  refine wp_box (v := .agg #[.int .i64 P1, .slice aou1 l1.length capu1]) (by rfl) ?_
  intro t1 w1 ht1 ht2 hm1 hT1
  simp only [put_some, List.set_cons_succ, List.set_cons_zero]
  refine hK _ _ ?_
  clear hK K
  go_wp2_with (with_reducible refine st_box ?_)
  refine StopOp.go rfl fun K hK => ?_
  refine wp_box (v := .agg #[.int .i64 P2, .slice aou2 l2.length capu2]) (by rfl) ?_
  intro t2 w2 hu1 hu2 hm2 hT2
  simp only [put_some, List.set_cons_succ, List.set_cons_zero]
  refine hK _ _ ?_
  clear hK K
  have hX1 : Blk w2 t1 69 [.int .i64 P1, .slice aou1 l1.length capu1] := Blk.ext (show Blk w1 t1 69 [.int .i64 P1, .slice aou1 l1.length capu1] from hT1) hm2
  have hX2 : Blk w2 t2 69 [.int .i64 P2, .slice aou2 l2.length capu2] := hT2
  clear hT1 hT2
  have hm02 := hm1.ext hm2
  clear hm1 hm2
  go_wp2_with (first
                | (with_reducible refine st_make ?_)
                | (go_at_call 46; refine (IN _).mono ?_; rintro e w3 ⟨p, q, L, r, rfl, hP3, hR3⟩; have hr3 := hR3.1)
                | (go_at_call 42; refine (BY _ _ _ hr3).mono ?_; rintro e w4 ⟨rfl, hm4⟩))
  refine StopOp.go rfl fun K hK => ?_
  refine wp_make (nl := N) (nc := N) stB (by rfl) (by rfl) rfl rfl (Nat.le_refl _) (by omega) (by omega) ?_
  intro g w5 hg1 hg2 hm5 hB5
  simp only [put_some, List.set_cons_succ, List.set_cons_zero]
  refine hK _ _ ?_
  clear hK K
  rw [show (List.replicate N (Value.int .u8 0).cells.toList).flatten = bv (zeros N) from (bv_zeros N).symm, ← hz0] at hB5
  have s02 := hm02.size
  have hm03 := hm02.ext hP3.m
  have hP5 := (hP3.d.ext hm4).ext hm5
  have hR5 := (hR3.ext hm4).ext hm5
  have hM5 := (hm03.ext hm4).ext hm5
  have hgL : g ∉ p :: L := fun hh => by have := (hP3.d.ext hm4).lt0 g hh; omega
  have hX15 := ((hX1.ext hP3.m).ext hm4).ext hm5
  have hX25 := ((hX2.ext hP3.m).ext hm4).ext hm5
  have hl5 : ∀ k ∈ p :: L, W.heap.size ≤ k := fun k hk => Nat.le_trans s02 (hP3.ge k hk)
  have c0 := hX15.cell' (i := 0) rfl
  have c1 := hX15.cell' (i := 1) rfl
  have hok1 : OkPt w5 ⟨P1, .slice aou1 l1.length capu1, l1⟩ := h1.ext hM5
  have hPs5 : Ps W w5 p q (Lv m0 0) L := ⟨hP5, hM5, hl5 p List.mem_cons_self, fun k hk => hl5 k (List.mem_cons_of_mem _ hk)⟩
  have hou1 := h1.1
  dsimp only at hou1
  have hgw5 : W.heap.size ≤ g := by have := (hm03.ext hm4).size; omega
  have hl2 : ∀ k ∈ p :: L, w2.heap.size ≤ k := hP3.ge
  have hsz5 := Nat.le_trans hm4.size hm5.size
  have hw23 := hP3.m.size
  have htg : t2 ≠ g := fun e => by have := hm4.size; have := hP3.m.size; omega
  have hgR5 : g ≠ r := fun e => by have := Rgn.lt (hR3.1.ext hm4); omega
  clear hP3 hR3 hr3 hX1 hX2 hm4 hm5 IN BY hP5 hl5 hm03
  go_upto_region 8 with (first
                | (go_at_call 32; refine (FT _ hok1).mono ?_; rintro e w6 ⟨v6, rfl, hu6, hm6⟩; have hbW := hu6 W hou1; obtain ⟨ao6, cap6, rfl, _, _⟩ := hbW.form; have hPs6 := hPs5.ext hm6; have hb6 := hbW.ext hPs6.m)
                | (go_at_call 38; refine (copy_any B _ _ hb6 (by omega)).mono ?_; rintro e w7 ⟨v7, rfl, ho7, hn7, hm7⟩; obtain ⟨ao7, cap7, rfl, _, _⟩ := ho7.sl.form; have hPs7 := hPs6.ext hm7; have hd7 := hPs7.d; have hR7 := (hR5.ext hm6).ext hm7; have hr7 := hR7.1; have hrn7 : (r ∉ p :: L) := hR7.2; have hs7 := Ob.bs ho7; have hl6 := hPs6.d.lt0; have hbb7 : (∀ x ∈ blks (.slice ao7 B.length cap7), x < w7.heap.size ∧ x ∉ p :: L) := (fun x hx => ⟨Ow.lt ho7 x hx, fun hh => by have := hn7 x hx; have := hl6 x hh; omega⟩))
                | (go_at_call 34; refine (WR _ _ _ _ _ _ hd7 hr7 hs7 hrn7 hbb7).mono ?_; rintro e w8 ⟨rfl, L8, hP8, hm8, hL8⟩; have hPs8 := hPs7.turn hP8 hm8 hL8; have hR8 := hR7.turn hm8 hL8; have hr8 := hR8.1)
                | (go_at_call 41; (with_reducible refine (SY _ _ _ _ _ hr8 hP8).mono ?_); rintro e w9 ⟨rfl, L9, hP9, hm9, hL9⟩))
  have hPs9 := hPs8.turn hP9 hm9 hL9
  have hR9 := hR8.turn hm9 hL9
  have hg5 : g < w5.heap.size := hg2
  have hgL8 : g ∉ p :: L8 := fun hh => (List.mem_cons.1 hh).elim (fun e => hgL (by simp [e])) (fun hx => (hL8 g hx).elim (fun hx => hgL (by simp [hx])) (fun hx => by have := (hm6.ext hm7).size; omega))
  have hgL9 : g ∉ p :: L9 := fun hh => (List.mem_cons.1 hh).elim (fun e => hgL (by simp [e])) (fun hx => (hL9 g hx).elim (fun hx => hgL8 (by simp [hx])) (fun hx => by have := (hm6.ext hm7).size; have := hm8.size; omega))
  have hB5' : Blk w5 g 5 (bv (abs m0 64 (F * 64) N)) := hB5
  obtain ⟨P, hP⟩ : ∃ P, P = abs m0 64 (F * 64) N := ⟨_, rfl⟩
  have hPl : P.length = N := by rw [hP, abs_len]
  have hput := HS.out.2
  rw [← HNC.out, ← hP] at hput
  rw [← hP] at hB5'
  have HP := Lib.hid (And.intro hput hPl)
  have hG9 : Blk w9 g 5 (bv P) := (((hB5'.ext hm6).ext hm7).mod hm8 hgL).mod hm9 hgL8
  have hb9 := hbW.ext hPs9.m
  clear hput hPl hP hB5' hB5 c0 c1
  go_cut [] (fun wx => Blk wx g 5 (bv (abs m1 64 (F * 64) N)) ∧ Mod [g] w9 wx)
  case first =>
    by_cases hkN : N = A
    · obtain rfl : A = N := hkN.symm
      go_wp2_with (with_reducible refine st_copy ?_)
      refine StopOp.go rfl fun K hK => ?_
      refine wp_copy_at B.length (o := A) (n := 0) (by omega) Try.underlying35 (by kernel_rfl) (by rfl) (by rfl) hG9 (by rw [bv_length]; have := HP.out.2; omega) (fun h => by first | (exfalso; omega) | simp [add_addr]) hb9 (bv_one B) ?_
      intro w10 hB10 hm10
      simp only [put_some, List.set_cons_succ, List.set_cons_zero]
      refine hK _ _ ?_
      clear hK K
      rw [bv_put P B A (by have := HP.out.2; omega), ← HP.out.1] at hB10
      go_wp2_with fail
      go_meet
      exact ⟨hB10, hm10⟩
    · skip
      go_wp2_with (with_reducible refine st_copy ?_)
      refine StopOp.go rfl fun K hK => ?_
      refine wp_copy_at B.length (o := A) (n := (N - A)) (by omega) Try.underlying35 (by kernel_rfl) (by rfl) (by rfl) hG9 (by rw [bv_length]; have := HP.out.2; omega) (fun h => by first | (exfalso; omega) | simp [add_addr]) hb9 (bv_one B) ?_
      intro w10 hB10 hm10
      simp only [put_some, List.set_cons_succ, List.set_cons_zero]
      refine hK _ _ ?_
      clear hK K
      rw [bv_put P B A (by have := HP.out.2; omega), ← HP.out.1] at hB10
      go_wp2_with fail
      go_meet
      exact ⟨hB10, hm10⟩
  case rest =>
  obtain ⟨hG10, hm10⟩ := hcut
  have hS1 := HS.out.1
  have v1 := hS1.n
  have v2 := hS1.row
  have sN := HNC.out
  have ok2 : m1.sync.ok := sync_okR hS1.ok
  have sz2 : m1.sync.sz = 64 := hS1.sz
  have len2 : m1.sync.dur.length = 6 := by rw [sync_len]; exact hS1.len
  have ab2 : abs m1.sync 64 (F * 64) N = abs m1 64 (F * 64) N := by
    refine List.ext_getElem (by rw [abs_len, abs_len]) fun j j1 j2 => ?_
    rw [abs_len] at j1
    rw [abs_get, abs_get, sync_ab hS1.ok (by omega) (by rw [hS1.len]; omega)]
  have z2 : ∀ i, i < 384 → (i < F * 64 ∨ F * 64 + N ≤ i) → ab m1.sync 64 i = 0 := fun i h3 h4 => by rw [sync_ab hS1.ok (by omega) (by rw [hS1.len]; omega)]; exact hS1.z i (by omega)
  have row2 : m1.sync.row = [] := sync_row m1
  rw [← ab2] at hG10
  obtain ⟨m2, hm2⟩ : ∃ m, m = m1.sync := ⟨_, rfl⟩
  rw [← hm2] at ok2 sz2 len2 z2 row2 hG10
  simp only [← hm2] at hPs9 hP9
  clear hm2 ab2 hS1
  obtain ⟨S5, qS⟩ : ∃ S : Nat, (B2.length : Int) / 64 = (S : Nat) := ⟨B2.length / 64, by omega⟩
  have hS5 : (S5 : Int) ≤ 6 := by omega
  obtain ⟨ar, har⟩ := Int.eq_ofNat_of_zero_le (pick_ge n_ ((S5 : Int) + 5))
  have PK := fun w => pick_any n_ ((S5 : Int) + 5) w wn.1 wn.2 (by omega) (by omega)
  have harl : ar ≤ 100 := by have := pick_lt n_ ((S5 : Int) + 5) (by omega); omega
  rw [har] at PK
  clear har
  obtain ⟨v3, E, d, hwr, hD, hn3, hE⟩ := wrA_ar F C m2 ar (n1 + 1) A2 B2 ok2 sz2 (by omega) (by omega)
  have kb := chK_le (a := A2) (e := A2 + B2.length)
  have AR := fun w L h => pArm_any p q (Lv m2 (n1 + 1)) L ar w h (by omega)
  have f0 : (if (Lv m2 (n1 + 1)).off = true then (60 : Int) else 0) = 0 := rfl
  rw [f0, arm_av] at AR
  have WR2 := fun w L bw h hR hb h1 h2 => gWrite_any r p q F C 64 (Av m2 ar (n1 + 1)) L A2 B2 bw w h hR hb sz2 (by show F + C ≤ m2.dur.length; omega) (by show n1 + 1 + 2 * (C * 64) ≤ 1000000; omega) (by show m2.row.length + C * 64 ≤ 1000000; rw [row2]; simp; omega) ⟨by omega, by omega⟩ h1 h2
  rw [hwr] at WR2
  unfold GWrP PdP at WR2
  dsimp only at WR2
  have hrow3 := hD.row
  rw [row2, List.length_nil, Nat.zero_add] at hrow3
  have HD := Lib.hid (And.intro hD (And.intro ok2 (And.intro len2 (And.intro z2 hrow3))))
  have hB2l : B2.length ≤ 384 := by omega
  have x3 : (A2 : Int) ≤ N := by omega
  have x4 : (A2 : Int) + B2.length ≤ N := by omega
  clear hwr hD hrow3 f0 ok2 len2 z2 row2 sz2
  have s67 := (hm6.ext hm7).size
  have ht2n : t2 ∉ p :: L := fun hh => by have := hl2 t2 hh; omega
  have ht2n8 : t2 ∉ p :: L8 := fun hh => (List.mem_cons.1 hh).elim (fun e => ht2n (by simp [e])) (fun hx => (hL8 t2 hx).elim (fun hx => ht2n (by simp [hx])) (fun hx => by omega))
  have hX210 := ((((hX25.ext hm6).ext hm7).mod hm8 ht2n).mod hm9 ht2n8).mod hm10 (by simpa using htg)
  have hP10 := hP9.keep0 hm10 (fun k hk hh => hgL9 (by have e : k = g := (by simpa using hh); exact e ▸ hk))
  have hR10 : Rs wc r p F C 64 L9 := ⟨hR9.1.mod hm10 (by simpa using fun e => hgR5 e.symm), hR9.2⟩
  have hM10 : Mod [] W wc := hPs9.m.fresh hm10 (by simpa using hgw5)
  have hPs10 : Ps W wc p q (Lv m2 (n1 + 1)) L9 := ⟨hP10, hM10, hPs9.p1, hPs9.l1⟩
  have d0 := hX210.cell' (i := 0) rfl
  have d1 := hX210.cell' (i := 1) rfl
  have hok2 : OkPt wc ⟨P2, .slice aou2 l2.length capu2, l2⟩ := h2.ext hM10
  have hou2 := h2.1
  dsimp only at hou2
  clear hm6 hm7 hm8 hm9 hm10 hX25 hX15 hX210 sN hPs5 hPs6 hPs7 hPs8 hPs9 hR5 hR7 hR8 hR9 hP8 hP9 hd7 hr7 hr8 hG9 hb9 hb6 hs7 ho7 hn7 FT WR SY hL8 hL9 hbb7
  have hgn9 : g ∉ p :: L9 := hgL9
  obtain ⟨m3, off3, ar3, n3⟩ := v3
  dsimp only at hn3 hE HD WR2
  have hd3 : d ≤ 8 := by omega
  have hn3' : n3 ≤ 1000 := by have := HS.out.1.n; omega
  have HE := Lib.hid hE
  clear hE
  have DN : ∀ w, Rgn w r p F C 64 → Blk w p 55 (Pv.cells ⟨m3, off3, ar3, n3⟩ q) → Calls Try.prog 45 #[.pointer (some ⟨r, 0, none⟩)] w fun e w' => e = .returned (.bool off3) ∧ w = w' := fun w h hb => gDown_any r p q F C 64 ⟨m3, off3, ar3, n3⟩ w h hb
  go_upto_region 13 with (first
                | (go_at_call 32; (with_reducible refine (FT2 _ hok2).mono ?_); rintro e w11 ⟨v11, rfl, hu11, hm11⟩; have hbV := hu11 W hou2; obtain ⟨ao11, cap11, rfl, _, _⟩ := hbV.form; have hPs11 := hPs10.ext hm11; have hd11 := hPs11.d)
                | (go_at_call 11; (with_reducible refine (PK _).mono ?_); rintro e w12 ⟨rfl, rfl⟩)
                | (go_at_call 14; (with_reducible refine (AR _ _ hd11).mono ?_); rintro e w12 ⟨rfl, hP12, hm12⟩; have hPs12 := hPs11.turn hP12 (hm12.weak (by simp)) (fun x hx => .inl hx); have hR12 := (hR10.ext hm11).turn (hm12.weak (by simp)) (fun x hx => .inl hx); have hb12 := hbV.ext hPs12.m)
                | (go_at_call 38; (with_reducible refine (copy_any B2 _ _ hb12 (by omega)).mono ?_); rintro e w13 ⟨v13, rfl, ho13, hn13, hm13⟩; obtain ⟨ao13, cap13, rfl, _, _⟩ := ho13.sl.form; have hPs13 := hPs12.ext hm13; have hd13 := hPs13.d; have hR13 := hR12.ext hm13; have hr13 := hR13.1; have hrn13 : (r ∉ p :: L9) := hR13.2; have hs13 := Ob.bs ho13; have hl12 := hPs12.d.lt0; have hbb13 : (∀ x ∈ blks (.slice ao13 B2.length cap13), x < w13.heap.size ∧ x ∉ p :: L9) := (fun x hx => ⟨Ow.lt ho13 x hx, fun hh => by have := hn13 x hx; have := hl12 x hh; omega⟩))
                | (go_at_call 34; (with_reducible refine (WR2 _ _ _ hd13 hr13 hs13 hrn13 hbb13).mono ?_); rintro e w14 ⟨rfl, L14, hP14, hm14, hL14⟩))
  have hPs14 := hPs13.turn hP14 hm14 hL14
  have hR14 := hR13.turn hm14 hL14
  have hr14 := hR14.1
  have hb14 := hP14.b
  have hgp : g ∉ [p] := fun hh => hgn9 (by have e : g = p := (by simpa using hh); simp [e])
  have hG14 : Blk w14 g 5 (bv (abs m2 64 (F * 64) N)) := (((hG10.ext hm11).mod hm12 hgp).ext hm13).mod hm14 hgn9
  have hgn14 : g ∉ p :: L14 := fun hh => (List.mem_cons.1 hh).elim (fun e => hgn9 (by simp [e])) (fun hx => (hL14 g hx).elim (fun hx => hgn9 (by simp [hx])) (fun hx => by have := hG10.lt; have := hm11.size; have := hm12.size; have := hm13.size; omega))
  have hbW : Bs W (.slice ao11 B2.length cap11) B2 := hbV
  clear hd11 hPs11 hPs12 hP12 hR12 hb12 hPs13 hd13 hR13 hr13 hrn13 hs13 hl12 hbb13 ho13 hn13 hm11 hm12 hm13 hm14 hL14 hPs10 hP10 hR10 hG10 hbV FT2 PK AR WR2 d0 d1 hok2
  go_cut [94] (fun u wx => u = .bool false ∧ w14 = wx)
  case first =>
    rcases HE.out with ⟨rfl, rfl, _⟩ | ⟨rfl, rfl, _⟩
    · go_wp2_with (go_at_call 45; (with_reducible refine (DN _ hr14 hb14).mono ?_); rintro e w15 ⟨rfl, rfl⟩)
      go_meet
      exact ⟨rfl, rfl⟩
    · go_wp2_with (go_at_call 45; (with_reducible refine (DN _ hr14 hb14).mono ?_); rintro e w15 ⟨rfl, rfl⟩)
      go_meet
      exact ⟨rfl, rfl⟩
  case rest =>
  obtain ⟨rfl, rfl⟩ := hcut
  obtain ⟨hD, ok2, len2, z2, hrow3⟩ := HD.out
  have WT : ∀ w L, Pd w p q ⟨m3, off3, ar3, n3⟩ L → Calls Try.prog 21 #[.pointer (some ⟨p, 0, none⟩)] w fun e w' => e = .returned (.int .i64 (d : Nat)) ∧ w = w' := fun w L h => by
    have H := pWaiting_any p q ⟨m3, off3, ar3, n3⟩ L w h
    dsimp only at H
    rwa [hrow3] at H
  have RE := fun w L fv h hF hFL => pRestart_any p q ⟨m3, off3, ar3, n3⟩ L (List.replicate d (1, 0)) fv w h (by dsimp only; omega) hF hFL
  have IM := fun w L h => pImage_any p q (Pv.re ⟨m3, off3, ar3, n3⟩ (List.replicate d (1, 0))) L w h
  unfold Pv.re at RE IM
  unfold PdP at RE
  unfold ImgPost at IM
  dsimp only at RE IM
  have hl3 : m3.dur.length = 6 := by rw [hD.dur]; exact len2
  have hlk : (m3.crash (List.replicate d (1, 0))).dur.length = 6 := by rw [keep_len]; exact hl3
  have hkf : ∀ D : List (Value × List UInt8), D.map (·.2) = (m3.crash (List.replicate d (1, 0))).dur → D.flatMap (·.2) = abs m3 64 0 384 := by
    have H := keep_flat hD.ok hD.sz hl3
    rw [hrow3] at H
    exact H
  obtain ⟨m4, hm4⟩ : ∃ x, x = m3.crash (List.replicate d (1, 0)) := ⟨_, rfl⟩
  rw [← hm4] at RE IM hlk hkf
  have hov := wrd_ovl hD hAB2
  have hZs := abs_sub m3 64 0 384 (F * 64) N (by have := HNC.out; omega)
  rw [Nat.zero_add] at hZs
  have hZl := abs_len m3 64 0 384
  obtain ⟨Z, hZ⟩ : ∃ X, X = abs m3 64 0 384 := ⟨_, rfl⟩
  rw [← hZ] at hkf hZs hZl
  rw [hov] at hZs
  obtain ⟨P4, hP4⟩ : ∃ X, X = abs m2 64 (F * 64) N := ⟨_, rfl⟩
  have hP4l : P4.length = N := by rw [hP4, abs_len]
  rw [← hP4] at hZs hG14
  rw [← hP4] at hov
  have HZ := Lib.hid (And.intro hZs (And.intro hZl (And.intro hkf (And.intro hlk hP4l))))
  clear hov hZ hP4 hm4 hD ok2 len2 z2 hrow3 hl3 hlk hkf hZs hZl hP4l HD DN
  obtain ⟨Q, qQ⟩ : ∃ S : Nat, (A2 : Int) / 64 = (S : Nat) := ⟨A2 / 64, by omega⟩
  have hQ : Q = A2 / 64 := by omega
  have HQ := Lib.hid hQ
  have hQ6 : (Q : Int) ≤ 6 := by omega
  have yd : (d : Int) ≤ 8 := by omega
  clear hQ
  obtain ⟨T, hT⟩ : ∃ T, T = laidN A2 B2.length d := ⟨_, rfl⟩
  have hTle : T ≤ B2.length := by rw [hT]; exact laidN_le _ _ _
  have HT := Lib.hid hT
  clear hT
  have hm14W := hPs14.m
  go_upto_region 16 with (go_at_call 21; (with_reducible refine (WT _ _ hP14).mono ?_); rintro e w15 ⟨rfl, rfl⟩)
  go_wp2_with fail
  go_loopw [20, 21] (fun o i wr => ∃ k : Nat, k ≤ d ∧ i = .int .i64 k ∧ Ow wr 99 2 o k (fcells (List.replicate k (1, 0))) ∧ (∀ b ∈ blks o, w14.heap.size ≤ b) ∧ Mod [] w14 wr) (fun _ i _ => d - (intOf i).toNat)
  case atStart => exact ⟨0, by omega, rfl, Ow.nil _ _ _, by simp [blks], Mod.refl _ _⟩
  case round =>
    obtain ⟨k, hk, rfl, hO, hN, hM⟩ := hrel
    obtain ⟨aoo, capo, rfl, hco, _⟩ := hO.sl.form
    by_cases hlt2 : k < d
    · have y0 : (k : Int) < d := by omega
      go_wp2_with (with_reducible refine st_bslice ?_)
      refine StopOp.go rfl fun K hK => ?_
      refine wp_bslice stF [.agg #[.int .i64 1, .int .i64 0]] rfl (by decide) (by rfl) (by simp [Value.cells]) ?_
      intro g3 w3 hg1 hg2 hm3 hB3
      simp only [put_some, List.set_cons_succ, List.set_cons_zero]
      refine hK _ _ ?_
      clear hK K
      have hS3 : Sl w3 2 (.slice (some ⟨g3, 0, none⟩) 1 1) 1 [.int .i64 1, .int .i64 0] := (Ow.of_blk (rest := []) hB3 (Nat.le_refl _) (by omega) rfl rfl : Ow w3 99 2 (.slice (some ⟨g3, 0, none⟩) 1 1) 1 [.int .i64 1, .int .i64 0]).sl
      go_wp2_with (with_reducible refine st_append ?_)
      refine StopOp.go rfl fun K hK => ?_
      refine wp_append_ow stF (by rfl) (by rfl) (hO.ext hm3) hS3 (by simp [Value.oneCell']) (by omega) (by omega) ?_
      intro v4 w4 ho4 hm4 hb4
      simp only [put_some, List.set_cons_succ, List.set_cons_zero]
      refine hK _ _ ?_
      clear hK K
      have hM4 : Mod [] w14 w4 := (hM.ext hm3).fresh hm4 hN
      have hs3 := (hM.ext hm3).size
      have hO4 : Ow w4 99 2 v4 (k + 1) (fcells (List.replicate (k + 1) (1, 0))) := by rw [List.replicate_succ', fcells_app]; exact ho4
      obtain ⟨ao4, cap4, rfl, _, _⟩ := ho4.sl.form
      go_wp2_with fail
      go_roundw
      case rel => exact ⟨k + 1, by omega, by go_num, hO4, fun b hb => (hb4 b hb).elim (hN b) (fun h => by omega), hM4⟩
      case measure => simp [intOf]; omega
    · obtain rfl : d = k := by omega
      have hF : Fs wr (.slice aoo d capo) (List.replicate d (1, 0)) := by
        unfold Fs
        rw [List.length_replicate]
        exact hO.sl
      have hFL : ∀ b ∈ blks (.slice aoo d capo), b ∉ L14 := fun b hb hh => by have := hN b hb; have := hPs14.d.d.lt b hh; omega
      have hPsr := hPs14.ext hM
      have hdr := hPsr.d
      have hGr := hG14.ext hM
      go_upto_region 24 with (first
                    | (go_at_call 23; (with_reducible refine (RE _ _ _ hdr hF (fun _ => hFL)).mono ?_); rintro e w17 ⟨rfl, L17, hP17, hm17, hL17⟩; have hPs17 := hPsr.turn hP17 hm17 hL17; have hG17 := hGr.mod hm17 hgn14)
                    | (go_at_call 27; (with_reducible refine (IM _ L17 hP17).mono ?_); rintro e w8 ⟨v8, dq, rfl, hO8, hdq, hm8⟩; have hl8 : (dq.length = 6) := (by have h := congrArg List.length hdq; rw [List.length_map] at h; exact h.trans HZ.out.2.2.2.1); have hZ8 := HZ.out.2.2.1 dq hdq; have hr8 := hO8.r; obtain ⟨ao8, cap8, hv8, _, _⟩ := hO8.ow.sl.form; rw [hl8] at hv8; subst hv8; have hf8 := flat_any dq _ _ hr8 (by omega) (by rw [hZ8, HZ.out.2.1]; omega))
                    | (go_at_call 47; (with_reducible refine (hf8).mono ?_); rintro e w9 ⟨v9, rfl, ho9, hn9, hm9⟩))
      rw [hZ8] at ho9
      obtain ⟨ao9, cap9, rfl, hc9, _⟩ := Ob.nxR (n := 384) ho9 HZ.out.2.1
      have hG9 := (hG17.ext hm8).ext hm9
      have hM9 := (hPs17.m.ext hm8).ext hm9
      have hn9' : ∀ b ∈ blks (.slice ao9 384 cap9), b ≠ g := fun b hb e => by have := hn9 b hb; have := (hG17.ext hm8).lt; omega
      have hs9 : Bs w9 (.slice ao9 384 cap9) Z := Ob.bs ho9
      obtain ⟨g9, rfl⟩ : ∃ g9 : Nat, ao9 = some ⟨g9, 0, none⟩ := by
        rcases Ow.blk ho9 with ⟨_, h0, _⟩ | ⟨g9, c9, rest9, hv9, _⟩
        · rw [HZ.out.2.1] at h0
          omega
        · injection hv9 with e1 e2 e3
          exact ⟨g9, e1⟩
      clear hO hN hM hF hFL hPsr hdr hGr hPs17 hP17 hm17 hL17 hG17 hm8 hm9 hO8 hdq hl8 hZ8 hr8 ho9 hn9 RE IM WT hP14 hPs14 hR14 hr14 hb14 hG14
      rw [← ovl_0 P4 B2 A2] at hG9
      go_wp2_with fail
      go_loopw [24] (fun iv wr => ∃ i : Nat, iv = .int .i64 i ∧ i ≤ T ∧ Blk wr g 5 (bv (ovl P4 B2 A2 i)) ∧ Mod [g] w9 wr) (fun iv _ => T - (intOf iv).toNat)
      case atStart => exact ⟨0, rfl, by omega, hG9, Mod.refl _ _⟩
      case round =>
        obtain ⟨i, rfl, hi, hGi, hMi⟩ := hrel
        obtain ⟨c, hc⟩ : ∃ c, c = decide (i < T) := ⟨_, rfl⟩
        have HC := Lib.hid hc
        clear hc
        go_upto_region 25 with fail
        go_cut [131] (fun u wx => u = .bool c ∧ wr = wx)
        case first =>
          have hTl : i < T ↔ (i < B2.length ∧ A2 + i < (Q + d) * 64) := by have := HQ.out; rw [HT.out] at hi ⊢; rw [this]; exact laidN_lt hi
          by_cases h1 : i < B2.length
          · have y1 : (i : Int) < B2.length := by omega
            rcases HE.out with ⟨rfl, _, hkd⟩ | ⟨rfl, _, _⟩
            · have h2 : B2.length ≤ T := by rw [HT.out, laidN_all hkd]; exact Nat.le_refl _
              clear hkd
              go_wp2_with fail
              go_meet
              exact ⟨by rw [HC.out, decide_eq_true (show i < T by omega)]; try (simp; omega), rfl⟩
            · by_cases h2 : (A2 : Int) + i < ((Q : Int) + d) * 64
              · go_wp2_with fail
                go_meet
                exact ⟨by rw [HC.out, decide_eq_true (show i < T by omega)]; try (simp; omega), rfl⟩
              · have y2 : ((Q : Int) + d) * 64 ≤ (A2 : Int) + i := by omega
                go_wp2_with fail
                go_meet
                exact ⟨by rw [HC.out, decide_eq_false (show ¬ i < T by omega)]; try (simp; omega), rfl⟩
          · have y1 : (B2.length : Int) ≤ i := by omega
            go_wp2_with fail
            go_meet
            exact ⟨by rw [HC.out, decide_eq_false (show ¬ i < T by omega)]; try (simp; omega), rfl⟩
        case rest =>
        obtain ⟨rfl, rfl⟩ := hcut
        cases c with
        | true =>
          have hlt : i < T := of_decide_eq_true HC.out.symm
          have hiB : i < B2.length := by omega
          have y1 : (i : Int) < B2.length := by omega
          have y5 : (A2 : Int) + i < N := by omega
          obtain ⟨J, hJ⟩ : ∃ J, J = A2 + i := ⟨_, rfl⟩
          have y6 : (A2 : Int) + (i : Int) = (J : Nat) := by omega
          have y7 : (J : Int) < N := by omega
          have HJ := Lib.hid hJ
          clear hJ y5
          clear HC
          obtain ⟨b, o, rfl, ca⟩ := sl_at' (Sl.ext hbW (hM9.fresh hMi (by simpa using hgw5)) : Sl wr 1 (.slice ao11 B2.length cap11) B2.length (bv B2)) (by rw [bv_length]; exact hiB)
          rw [bvx_get _ _ _ (List.getElem?_eq_getElem hiB)] at ca
          go_wp2_with (with_reducible refine st_store ?_)
          refine StopOp.go rfl fun K hK => ?_
          refine wp_store1 (by kernel_rfl) (by rfl) (u := .int .u8 B2[i].toNat) (by rfl) ⟨rfl, rfl⟩ hGi (by rw [bv_length, ovl_len (by omega) (by rw [HZ.out.2.2.2.2]; omega), HZ.out.2.2.2.2]; omega) ?_
          intro w10 hm10 hB10
          refine hK _ _ ?_
          clear hK K
          go_wp2_with fail
          go_roundw
          case rel =>
            have hol := ovl_len (P := P4) (B := B2) (A := A2) (k := i) (by omega) (by rw [HZ.out.2.2.2.2]; omega)
            have hst := ovl_step (P := P4) (B := B2) (A := A2) (k := i) hiB (by rw [HZ.out.2.2.2.2]; omega)
            have hB11 : Blk w10 g 5 ((bv (ovl P4 B2 A2 i) ++ []).set J (.int .u8 B2[i].toNat)) := by rw [List.append_nil]; exact hB10
            rw [bv_set _ _ _ _ (by rw [hol, HZ.out.2.2.2.2]; omega), List.append_nil, HJ.out, hst] at hB11
            exact ⟨i + 1, by go_num, by omega, hB11, hMi.trans hm10⟩
          case measure => simp [intOf]; omega
        | false =>
          obtain rfl : i = T := by have := of_decide_eq_false HC.out.symm; omega
          clear HC
          rw [HT.out, ← HZ.out.1] at hGi
          obtain ⟨H, hH⟩ : ∃ H, H = G + N := ⟨_, rfl⟩
          have z1 : (G : Int) + (N : Int) = (H : Nat) := by omega
          have hGF : G = F * 64 := by have := HG.out; omega
          have hH384 : H ≤ 384 := by have := HNC.out; omega
          have z2 : (G : Int) ≤ H := by omega
          have z3 : (H : Int) ≤ 384 := by omega
          have z5 : (384 : Int) ≤ cap9 := by omega
          have hct : ¬ cap9 = G := by have := HNC.out; omega
          have hs9r : Bs wr (.slice (some ⟨g9, 0, none⟩) 384 cap9) Z := Sl.mod hs9 hMi (fun x hx hh => hn9' x hx (by simpa using hh))
          have hsub := Bs.subR (lo := G) (hi := H) hs9r (by omega) (by rw [HZ.out.2.1]; omega) hc9 HZ.out.2.1.symm (by omega)
          rw [show (Z.drop G).take (H - G) = (Z.drop (F * 64)).take N from by rw [hGF, show H - F * 64 = N by omega]] at hsub
          have hXl : ((Z.drop (F * 64)).take N).length = N := by rw [List.length_take, List.length_drop, HZ.out.2.1]; omega
          have hsg : Bs wr (.slice (some ⟨g, 0, none⟩) N N) ((Z.drop (F * 64)).take N) := Ob.bs (Ob.new4 hGi hXl.symm (by omega))
          obtain ⟨X, hX⟩ : ∃ X, X = (Z.drop (F * 64)).take N := ⟨_, rfl⟩
          rw [← hX] at hsub hsg
          rw [Option.map_some, add_addr, Nat.zero_add] at hsub
          have hMf : Mod [] W wr := hM9.fresh hMi (by simpa using hgw5)
          clear hH hGF hX hXl hGi hs9r hi hMi
          go_wp2_with (first
                        | (go_at_call 19; (with_reducible refine (same_yes X X _ _ _ hsub hsg rfl).mono ?_); rintro e w11 ⟨rfl, hm11⟩)
                        | (go_at_call 40; (with_reducible refine (AW _).mono ?_); rintro e w12 ⟨rfl, hm12⟩))
          go_ret
          exact ⟨rfl, (hMf.ext hm11).ext hm12⟩
end Go.Proofs.Ytdmnogmhnhjdgaa
