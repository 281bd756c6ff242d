import Derived.Test.YtdmnogmhnhjdgaaRgE
/-! Regions: a chunk of Write. -/
set_option linter.unusedVariables false
set_option linter.unusedSimpArgs false
set_option maxRecDepth 100000
namespace Go.Proofs.Ytdmnogmhnhjdgaa
open Go.RowKit Gw

theorem writeE_ok {m : Dm} {S n : Nat} (h : S < m.dur.length) (hn : n = m.sz) : writeE m (S : Nat) n = 0 := by
  unfold writeE
  rw [if_pos (noneE_ok h), if_pos hn]
def Wr1P (W : World) (p q bc : Nat) (bv : Value) (b : List UInt8) (k : Nat) (L : List Nat) (R : Pv × Int) (e : Ending) (W' : World) : Prop :=
  ∃ L' bv', e = .returned (.int .i64 R.2) ∧ Pd W' p q R.1 L' ∧ Blk W' bc 35 [bv'] ∧ Bs W' bv' (b.drop k) ∧ (∀ x ∈ blks bv', x ∈ blks bv) ∧ Mod (bc :: p :: L) W W' ∧ ∀ x ∈ L', x ∈ L ∨ W.heap.size ≤ x
theorem wr_e (v : Pv) (S : Nat) (x : List UInt8) : (if v.go = true then (v.wr S x, (0 : Int)) else (v.md, 60)) = (v.wr S x, v.e 0) := by
  unfold Pv.wr Pv.e
  split <;> rfl
theorem take_subR {l : List UInt8} {M : Nat} (h : M ≤ l.length) : (l.take M).length = M := by rw [List.length_take]; omega
set_option maxRecDepth 1000000 in
set_option maxHeartbeats 8000000 in
theorem wr1a_any (r p q f c z rc bc S M T k : Nat) (v : Pv) (L : List Nat) (b : List UInt8) (aob : Option Addr) (capb : Nat) (W : World) (hP : Pd W p q v L) (hR : Rgn W r p f c z) (hrc : Blk W rc 61 [.pointer (some ⟨r, 0, none⟩)]) (hbc : Blk W bc 35 [.slice aob b.length capb]) (hb : Bs W (.slice aob b.length capb) b)
    (hS : S < v.m.dur.length) (hz : v.m.sz = z) (hMT : M < T) (hTz : T ≤ z) (hk : k = T - M) (hbl : k ≤ b.length) (hbl2 : b.length ≤ 1000000) (hn : v.n + 2 ≤ 1000000) (hr : v.m.row.length ≤ 1000000) (hdis : bc ∉ p :: L) (hdb : ∀ x ∈ blks (.slice aob b.length capb), x ∉ bc :: p :: L) (hrL : r ∉ bc :: p :: L) (hrcL : rc ∉ bc :: p :: L) (hck : k = capb) :
    Calls Try.prog 77 #[.int .i64 (S : Nat), .int .i64 (M : Nat), .int .i64 (T : Nat), .pointer (some ⟨bc, 0, none⟩), .pointer (some ⟨rc, 0, none⟩)] W (Wr1P W p q bc (.slice aob b.length capb) b k L (wrC v S M T z (b.take k))) := by
  obtain ⟨_, _, _, hcb, hcb2⟩ := hb.form
  rename_i hcv
  injection hcv with e1 e2 e3
  subst e1 e3
  clear e2
  have hz2 := hP.ok.m.s2
  have hz1 := hP.ok.m.s1
  rw [hz] at hz2 hz1
  have hlen : (v.m.read S).length = z := by rw [hP.ok.m.read hS, hz]
  have q1 : (T : Int) - (M : Int) = (k : Nat) := by omega
  have hpre := hb.prefR rfl (k := k) hbl (by omega)
  have hsuf := hb.sufR rfl (p := k) hbl hcb
  subst hck
  rw [if_pos rfl, Nat.sub_self, show b.length - k = 0 by omega] at hsuf
  have hsb : ∀ x ∈ blks (.slice aob 0 0), x ∈ blks (.slice aob b.length k) := fun x hx => by cases aob <;> exact hx
  have y0 : (b.length : Int) ≤ 1000000 := by omega
  have y1 : (k : Int) ≤ b.length := by omega
  have y2 : (z : Int) ≤ 4096 := by omega
  have y3 : (b.length : Int) ≤ k := by omega
  have hkl : (b.take k).length = k := by rw [List.length_take]; omega
  obtain ⟨b1, hb1⟩ : ∃ x, x = b.take k := ⟨_, rfl⟩
  obtain ⟨b2, hb2⟩ : ∃ x, x = b.drop k := ⟨_, rfl⟩
  rw [← hb1] at hpre hkl ⊢
  rw [← hb2] at hsuf
  unfold Wr1P
  rw [← hb2]
  have HH := Lib.hid (And.intro hb1 (And.intro hb2 (And.intro hk hbl)))
  have hpre' : ∀ {w' : World} {G : List Nat}, Mod G W w' → (∀ x ∈ blks (.slice aob b.length k), x ∉ G) → Bs w' (.slice aob k k) b1 := fun hm hG => Sl.mod hpre hm (fun x hx => hG x (by cases aob <;> exact hx))
  have hsuf' : ∀ {w' : World} {G : List Nat}, Mod G W w' → (∀ x ∈ blks (.slice aob b.length k), x ∉ G) → Bs w' (.slice aob 0 0) b2 := fun hm hG => Sl.mod hsuf hm (fun x hx => hG x (hsb x hx))
  have c0 := hrc.cell' (i := 0) rfl
  have c1 := Blk.cell' hR (i := 0) rfl
  have c3 := Blk.cell' hR (i := 3) rfl
  have d0 := hbc.cell' (i := 0) rfl
  by_cases hpart : k < z
  · have y4 : (k : Int) < z := by omega
    have eC : wrC v S M T z b1 = if v.go = true then if v.md.go = true then (v.md.wr S ((v.m.read S).take M ++ b1 ++ (v.m.read S).drop T), 0) else (v.md.md, 60) else (v.md, 60) := by unfold wrC; rw [if_pos (by omega)]
    rw [eC]
    clear eC
    have RD := fun w h => pRead_any p q v L (S : Nat) w h (by omega)
    rw [noneE_ok hS] at RD
    cases hg : v.go with
    | false =>
      rw [show v.e 0 = 60 from if_neg (by rw [hg]; decide), show v.rd (S : Nat) = [] from by unfold Pv.rd; rw [if_neg (by rw [hg]; decide)]] at RD
      rw [if_neg (by decide)]
      obtain ⟨V, hV⟩ : ∃ V, V = v.md := ⟨_, rfl⟩
      rw [← hV] at RD ⊢
      clear hb1 hb2 hk hlen hz hS hV hg
      go_enter Try.func77, Try.ntmps77
      go_wp2_with (with_reducible refine st_store ?_)
      refine StopOp.go rfl fun K hK => ?_
      refine wp_store1 (by kernel_rfl) (by rfl) (u := .slice aob 0 0) (by rfl) ⟨rfl, rfl⟩ hbc (by simp) ?_
      intro w1 hm1 hB1
      refine hK _ _ ?_
      clear hK K
      have hP1 := hP.keep0 hm1 (fun x hx hh => hdis (by have e : x = bc := (by simpa using hh); exact e ▸ hx))
      have hR1 := hR.mod hm1 (fun hh => hrL (by have e : r = bc := (by simpa using hh); simp [e]))
      have hrc1 := hrc.mod hm1 (fun hh => hrcL (by have e : rc = bc := (by simpa using hh); simp [e]))
      clear c0 c1 c3 d0
      have c0 := hrc1.cell' (i := 0) rfl
      have c1 := Blk.cell' hR1 (i := 0) rfl
      have c3 := Blk.cell' hR1 (i := 3) rfl
      go_wp2_with (go_at_call 55; (with_reducible refine (RD _ hP1).mono ?_); rintro e w2 ⟨v2, rfl, ho2, hn2, hP2, hm2⟩; obtain ⟨ao2, cap2, rfl, _, _⟩ := Ob.nxR (n := 0) ho2 rfl)
      go_ret
      have hm02 : Mod (bc :: p :: L) W w2 := (hm1.weak (by simp)).then hm2 (fun g hg => .inl (by simp at hg; simp [hg]))
      exact ⟨L, _, rfl, hP2, Blk.mod hB1 hm2 (by simpa using fun e => hdis (by simp [e])), hsuf' hm02 hdb, hsb, hm02, fun x hx => .inl hx⟩
    | true =>
      rw [show v.e 0 = 0 from if_pos hg, rd_sec hg hS] at RD
      rw [if_pos rfl]
      have hS' : S < v.md.m.dur.length := by rw [v.md_m]; exact hS
      have hX : ((v.m.read S).take M ++ b1 ++ (v.m.read S).drop T).length = v.md.m.sz := by
        rw [v.md_m, hz, List.length_append, List.length_append, List.length_drop, take_subR (by omega), hkl, hlen]; omega
      have hw0 := writeE_ok (m := v.md.m) hS' hX
      have hE : (if v.md.go = true then (v.md.wr S ((v.m.read S).take M ++ b1 ++ (v.m.read S).drop T), (0 : Int)) else (v.md.md, 60)) = (v.md.wr S ((v.m.read S).take M ++ b1 ++ (v.m.read S).drop T), v.md.e 0) := wr_e _ _ _
      rw [hE]
      clear hE
      obtain ⟨B, hB⟩ : ∃ B, B = v.m.read S := ⟨_, rfl⟩
      rw [← hB] at RD hlen hw0 hX ⊢
      have hvn : v.md.n ≤ v.n + 1 := md_n2 v
      have hvr : v.md.m.row.length ≤ 1000000 := by rw [v.md_m]; exact hr
      obtain ⟨V, hV⟩ : ∃ V, V = v.md := ⟨_, rfl⟩
      rw [← hV] at RD hw0 hX hvn hvr ⊢
      have hok : V.m.ok := by rw [hV, v.md_m]; exact hP.ok.m
      obtain ⟨X, hXe⟩ : ∃ X, X = B.take M ++ b1 ++ B.drop T := ⟨_, rfl⟩
      rw [← hXe] at hw0 hX ⊢
      have WR := fun w bw h hb hbp => pWrite_any p q V L (S : Nat) X bw w h hb hbp (by omega) hvr
      rw [hw0] at WR
      obtain ⟨V2, hV2⟩ : ∃ x, x = V.wr S X := ⟨_, rfl⟩
      obtain ⟨E, hE'⟩ : ∃ x, x = V.e 0 := ⟨_, rfl⟩
      rw [← hV2, ← hE'] at WR
      rw [← hV2, ← hE']
      have H2 := Lib.hid (And.intro hV (And.intro hV2 (And.intro hE' (And.intro hB (And.intro hlen (And.intro hXe hX))))))
      have y5 : (M : Int) ≤ T := by omega
      have y6 : (T : Int) ≤ z := by omega
      clear hb1 hb2 hk hlen hz hS hV hV2 hE' hg hX hXe hw0 hB hS' hvn hvr
      go_enter Try.func77, Try.ntmps77
      go_wp2_with (with_reducible refine st_store ?_)
      refine StopOp.go rfl fun K hK => ?_
      refine wp_store1 (by kernel_rfl) (by rfl) (u := .slice aob 0 0) (by rfl) ⟨rfl, rfl⟩ hbc (by simp) ?_
      intro w1 hm1 hB1
      refine hK _ _ ?_
      clear hK K
      have hP1 := hP.keep0 hm1 (fun x hx hh => hdis (by have e : x = bc := (by simpa using hh); exact e ▸ hx))
      have hR1 := hR.mod hm1 (fun hh => hrL (by have e : r = bc := (by simpa using hh); simp [e]))
      have hrc1 := hrc.mod hm1 (fun hh => hrcL (by have e : rc = bc := (by simpa using hh); simp [e]))
      clear c0 c1 c3 d0
      have c0 := hrc1.cell' (i := 0) rfl
      have c1 := Blk.cell' hR1 (i := 0) rfl
      have c3 := Blk.cell' hR1 (i := 3) rfl
      go_wp2_with (go_at_call 55; (with_reducible refine (RD _ hP1).mono ?_); rintro e w2 ⟨v2, rfl, ho2, hn2, hP2, hm2⟩; obtain ⟨ao2, cap2, rfl, hc2, hc22⟩ := Ob.nxR (n := z) ho2 H2.out.2.2.2.2.1; have y7 : (z : Int) ≤ cap2 := (by omega))
      have hm02 : Mod (bc :: p :: L) W w2 := (hm1.weak (by simp)).then hm2 (fun g hg => .inl (by simp at hg; simp [hg]))
      have hbc2 := Blk.mod hB1 hm2 (by simpa using fun e => hdis (by simp [e]))
      have hR2 := hR.mod hm02 hrL
      have hrc2 := hrc.mod hm02 hrcL
      have hs2 := Ob.bs ho2
      have hsx := hs2.prefR (k := M) H2.out.2.2.2.2.1.symm (by omega) (by omega)
      have hsy := hs2.sufR (p := T) H2.out.2.2.2.2.1.symm (by omega) hc2
      have hmL : ∀ x ∈ L, x ∉ blks (.slice ao2 z cap2) := fun x hx hh => by have := hn2 x hh; have := hP1.lt0 x (List.mem_cons_of_mem _ hx); omega
      clear c0 c1 c3
      by_cases hct : cap2 = T
      · skip
        obtain rfl : T = cap2 := hct.symm
        rw [if_pos rfl, Nat.sub_self, show z - T = 0 by omega] at hsy
        refine wp_region_T [⟨0, true, []⟩, ⟨1, true, []⟩, ⟨2, true, []⟩, ⟨3, true, []⟩, ⟨4, true, []⟩, ⟨5, true, []⟩, ⟨6, true, []⟩, ⟨7, false, []⟩, ⟨8, false, []⟩, ⟨9, true, []⟩] (by kernel_rfl) (by kernel_rfl) ?_
        have hmD := Mod.drew [] w2
        obtain ⟨x, hx⟩ : ∃ x, x = w2.drew := ⟨_, rfl⟩
        rw [← hx] at hmD ⊢
        clear hx
        iterate 7 (refine wpT_n rfl rfl (fun K hK => ?_); go_wp2_with fail)
        refine wpT_e0 rfl rfl (fun K hK => ?_)
        refine wp_bslice stRow [.slice ao2 M T, .slice aob k k, .slice ao2 0 0] rfl (by decide) (by rfl) (by simp [Value.cells]) ?_
        intro g w3 hg1 hg2 hm3 hB3
        simp only [put_some, List.set_cons_succ, List.set_cons_zero]
        refine hK _ _ ?_
        clear hK K
        have hm23 := hmD.ext hm3
        have hpm := hpre' (hm02.ext hm23) hdb
        have hRR : RowsR w3 (.slice (some ⟨g, 0, none⟩) 3 3) [((.slice ao2 M T : Value), B.take M), ((.slice aob k k : Value), b1), ((.slice ao2 0 0 : Value), B.drop T)] := by
          refine ⟨(Ow.of_blk (rest := []) hB3 (Nat.le_refl _) (by omega) rfl rfl : Ow w3 35 1 (.slice (some ⟨g, 0, none⟩) 3 3) 3 [.slice ao2 M T, .slice aob k k, .slice ao2 0 0]).sl, fun x hx => ?_⟩
          simp only [List.mem_cons, List.not_mem_nil, or_false] at hx
          rcases hx with rfl | rfl | rfl
          · exact hsx.ext hm23
          · exact hpm
          · exact hsy.ext hm23
        have CC := fun w h => concat_any [((.slice ao2 M T : Value), B.take M), ((.slice aob k k : Value), b1), ((.slice ao2 0 0 : Value), B.drop T)] (.slice (some ⟨g, 0, none⟩) 3 3) w h (by simp) (by simp [H2.out.2.2.2.2.1, hkl]; omega)
        rw [show ([((.slice ao2 M T : Value), B.take M), ((.slice aob k k : Value), b1), ((.slice ao2 0 0 : Value), B.drop T)].flatMap (·.2)) = X from by rw [H2.out.2.2.2.2.2.1]; simp] at CC
        refine wpT_call rfl rfl (fun K hK => ?_)
        go_wp2_with (go_at_call 78; refine (CC _ hRR).mono ?_; rintro e w4 ⟨v4, rfl, ho4, hn4, hm4⟩)
        obtain ⟨ao4, cap4, rfl, _, _⟩ := ho4.sl.form
        have hm24 := hm23.ext hm4
        have hR4 := hR2.ext hm24
        have hrc4 := hrc2.ext hm24
        have hP4 := hP2.ext hm24
        have c0 := hrc4.cell' (i := 0) rfl
        have c1 := Blk.cell' hR4 (i := 0) rfl
        refine wpT_n rfl rfl (fun K hK => ?_)
        go_wp2_with fail
        refine wpT_nil ?_
        go_wp2_with fail
        go_wp2_with (go_at_call 53; refine (WR _ _ hP4 (Ob.bs ho4) (fun x hx e => by have := hn4 x hx; have := hP2.lt0 p List.mem_cons_self; have := hm23.size; omega)).mono ?_; rintro e w5 ⟨rfl, hp5⟩)
        obtain ⟨L5, k1, k2, k3⟩ := hp5
        go_ret
        have hm05 : Mod (bc :: p :: L) W w5 := (hm02.ext hm24).then k2 (fun g hg => .inl (List.mem_cons_of_mem _ hg))
        have s0 := hm02.size
        have s2 := hm24.size
        exact ⟨L5, _, rfl, k1, (hbc2.ext hm24).mod k2 hdis, hsuf' hm05 hdb, hsb, hm05, fun x hx => (k3 x hx).imp id (fun h => by omega)⟩
      · skip
        rw [if_neg hct] at hsy
        refine wp_region_T [⟨0, true, []⟩, ⟨1, true, []⟩, ⟨2, true, []⟩, ⟨3, true, []⟩, ⟨4, true, []⟩, ⟨5, true, []⟩, ⟨6, true, []⟩, ⟨7, false, []⟩, ⟨8, false, []⟩, ⟨9, true, []⟩] (by kernel_rfl) (by kernel_rfl) ?_
        have hmD := Mod.drew [] w2
        obtain ⟨x, hx⟩ : ∃ x, x = w2.drew := ⟨_, rfl⟩
        rw [← hx] at hmD ⊢
        clear hx
        iterate 7 (refine wpT_n rfl rfl (fun K hK => ?_); go_wp2_with fail)
        refine wpT_e0 rfl rfl (fun K hK => ?_)
        refine wp_bslice stRow [.slice ao2 M cap2, .slice aob k k, .slice (Option.map (fun x => x.add T) ao2) (z - T) (cap2 - T)] rfl (by decide) (by rfl) (by simp [Value.cells]) ?_
        intro g w3 hg1 hg2 hm3 hB3
        simp only [put_some, List.set_cons_succ, List.set_cons_zero]
        refine hK _ _ ?_
        clear hK K
        have hm23 := hmD.ext hm3
        have hpm := hpre' (hm02.ext hm23) hdb
        have hRR : RowsR w3 (.slice (some ⟨g, 0, none⟩) 3 3) [((.slice ao2 M cap2 : Value), B.take M), ((.slice aob k k : Value), b1), ((.slice (Option.map (fun x => x.add T) ao2) (z - T) (cap2 - T) : Value), B.drop T)] := by
          refine ⟨(Ow.of_blk (rest := []) hB3 (Nat.le_refl _) (by omega) rfl rfl : Ow w3 35 1 (.slice (some ⟨g, 0, none⟩) 3 3) 3 [.slice ao2 M cap2, .slice aob k k, .slice (Option.map (fun x => x.add T) ao2) (z - T) (cap2 - T)]).sl, fun x hx => ?_⟩
          simp only [List.mem_cons, List.not_mem_nil, or_false] at hx
          rcases hx with rfl | rfl | rfl
          · exact hsx.ext hm23
          · exact hpm
          · exact hsy.ext hm23
        have CC := fun w h => concat_any [((.slice ao2 M cap2 : Value), B.take M), ((.slice aob k k : Value), b1), ((.slice (Option.map (fun x => x.add T) ao2) (z - T) (cap2 - T) : Value), B.drop T)] (.slice (some ⟨g, 0, none⟩) 3 3) w h (by simp) (by simp [H2.out.2.2.2.2.1, hkl]; omega)
        rw [show ([((.slice ao2 M cap2 : Value), B.take M), ((.slice aob k k : Value), b1), ((.slice (Option.map (fun x => x.add T) ao2) (z - T) (cap2 - T) : Value), B.drop T)].flatMap (·.2)) = X from by rw [H2.out.2.2.2.2.2.1]; simp] at CC
        refine wpT_call rfl rfl (fun K hK => ?_)
        go_wp2_with (go_at_call 78; refine (CC _ hRR).mono ?_; rintro e w4 ⟨v4, rfl, ho4, hn4, hm4⟩)
        obtain ⟨ao4, cap4, rfl, _, _⟩ := ho4.sl.form
        have hm24 := hm23.ext hm4
        have hR4 := hR2.ext hm24
        have hrc4 := hrc2.ext hm24
        have hP4 := hP2.ext hm24
        have c0 := hrc4.cell' (i := 0) rfl
        have c1 := Blk.cell' hR4 (i := 0) rfl
        refine wpT_n rfl rfl (fun K hK => ?_)
        go_wp2_with fail
        refine wpT_nil ?_
        go_wp2_with fail
        go_wp2_with (go_at_call 53; refine (WR _ _ hP4 (Ob.bs ho4) (fun x hx e => by have := hn4 x hx; have := hP2.lt0 p List.mem_cons_self; have := hm23.size; omega)).mono ?_; rintro e w5 ⟨rfl, hp5⟩)
        obtain ⟨L5, k1, k2, k3⟩ := hp5
        go_ret
        have hm05 : Mod (bc :: p :: L) W w5 := (hm02.ext hm24).then k2 (fun g hg => .inl (List.mem_cons_of_mem _ hg))
        have s0 := hm02.size
        have s2 := hm24.size
        exact ⟨L5, _, rfl, k1, (hbc2.ext hm24).mod k2 hdis, hsuf' hm05 hdb, hsb, hm05, fun x hx => (k3 x hx).imp id (fun h => by omega)⟩
  · have hkz : k = z := by omega
    have eC : wrC v S M T z b1 = if v.go = true then (v.wr S b1, 0) else (v.md, 60) := by unfold wrC; rw [if_neg (by omega)]
    rw [eC, wr_e]
    clear eC
    have hw0 := writeE_ok (m := v.m) hS (show b1.length = v.m.sz by rw [hkl, hkz, hz])
    have WR := fun w h hb => pWrite_any p q v L (S : Nat) b1 (.slice aob k k) w h hb (fun x hx e => hdb x (by cases aob <;> exact hx) (by simp [e])) (by omega) hr
    rw [hw0] at WR
    obtain ⟨V, hV⟩ : ∃ V, V = v.wr S b1 := ⟨_, rfl⟩
    obtain ⟨E, hE'⟩ : ∃ V, V = v.e 0 := ⟨_, rfl⟩
    rw [← hV, ← hE'] at WR
    rw [← hV, ← hE']
    have y4 : ¬ ((k : Int) < z) := by omega
    have y5 : decide (k < z) = false := decide_eq_false hpart
    clear hb1 hb2 hk hlen hz hS hw0 hV hE' hpart hkz
    go_enter Try.func77, Try.ntmps77
    go_wp2_with (with_reducible refine st_store ?_)
    refine StopOp.go rfl fun K hK => ?_
    refine wp_store1 (by kernel_rfl) (by rfl) (u := .slice aob 0 0) (by rfl) ⟨rfl, rfl⟩ hbc (by simp) ?_
    intro w1 hm1 hB1
    refine hK _ _ ?_
    clear hK K
    have hP1 := hP.keep0 hm1 (fun x hx hh => hdis (by have e : x = bc := (by simpa using hh); exact e ▸ hx))
    have hR1 := hR.mod hm1 (fun hh => hrL (by have e : r = bc := (by simpa using hh); simp [e]))
    have hrc1 := hrc.mod hm1 (fun hh => hrcL (by have e : rc = bc := (by simpa using hh); simp [e]))
    clear c0 c1 c3 d0
    have c0 := hrc1.cell' (i := 0) rfl
    have c1 := Blk.cell' hR1 (i := 0) rfl
    have c3 := Blk.cell' hR1 (i := 3) rfl
    have hp1 := hpre' hm1 (fun x hx hh => hdb x hx (by simp at hh; simp [hh]))
    go_wp2_with (go_at_call 53; (with_reducible refine (WR _ hP1 hp1).mono ?_); rintro e w2 ⟨rfl, hp2⟩)
    obtain ⟨L2, k1, k2, k3⟩ := hp2
    go_ret
    have hm02 : Mod (bc :: p :: L) W w2 := (hm1.weak (by simp)).then k2 (fun g hg => .inl (List.mem_cons_of_mem _ hg))
    have s1 := hm1.size
    exact ⟨L2, _, rfl, k1, Blk.mod hB1 k2 hdis, hsuf' hm02 hdb, hsb, hm02, fun x hx => (k3 x hx).imp id (fun h => by omega)⟩
set_option maxRecDepth 1000000 in
set_option maxHeartbeats 8000000 in
theorem wr1b_any (r p q f c z rc bc S M T k : Nat) (v : Pv) (L : List Nat) (b : List UInt8) (aob : Option Addr) (capb : Nat) (W : World) (hP : Pd W p q v L) (hR : Rgn W r p f c z) (hrc : Blk W rc 61 [.pointer (some ⟨r, 0, none⟩)]) (hbc : Blk W bc 35 [.slice aob b.length capb]) (hb : Bs W (.slice aob b.length capb) b)
    (hS : S < v.m.dur.length) (hz : v.m.sz = z) (hMT : M < T) (hTz : T ≤ z) (hk : k = T - M) (hbl : k ≤ b.length) (hbl2 : b.length ≤ 1000000) (hn : v.n + 2 ≤ 1000000) (hr : v.m.row.length ≤ 1000000) (hdis : bc ∉ p :: L) (hdb : ∀ x ∈ blks (.slice aob b.length capb), x ∉ bc :: p :: L) (hrL : r ∉ bc :: p :: L) (hrcL : rc ∉ bc :: p :: L) (hck : capb ≠ k) :
    Calls Try.prog 77 #[.int .i64 (S : Nat), .int .i64 (M : Nat), .int .i64 (T : Nat), .pointer (some ⟨bc, 0, none⟩), .pointer (some ⟨rc, 0, none⟩)] W (Wr1P W p q bc (.slice aob b.length capb) b k L (wrC v S M T z (b.take k))) := by
  obtain ⟨_, _, _, hcb, hcb2⟩ := hb.form
  rename_i hcv
  injection hcv with e1 e2 e3
  subst e1 e3
  clear e2
  have hz2 := hP.ok.m.s2
  have hz1 := hP.ok.m.s1
  rw [hz] at hz2 hz1
  have hlen : (v.m.read S).length = z := by rw [hP.ok.m.read hS, hz]
  have q1 : (T : Int) - (M : Int) = (k : Nat) := by omega
  have hpre := hb.prefR rfl (k := k) hbl (by omega)
  have hsuf := hb.sufR rfl (p := k) hbl hcb
  rw [if_neg hck] at hsuf
  have hsb : ∀ x ∈ blks (.slice (Option.map (fun x => x.add k) aob) (b.length - k) (capb - k)), x ∈ blks (.slice aob b.length capb) := fun x hx => by
    cases aob with
    | none => simp [blks] at hx
    | some ad =>
      have e : (ad.add k).block = ad.block := by unfold Addr.add; split <;> rfl
      have hx' : x ∈ [(ad.add k).block] := hx
      rw [e] at hx'
      exact hx'
  have y0 : (b.length : Int) ≤ 1000000 := by omega
  have y1 : (k : Int) ≤ b.length := by omega
  have y2 : (z : Int) ≤ 4096 := by omega
  have y3 : (b.length : Int) ≤ capb := by omega
  have hkl : (b.take k).length = k := by rw [List.length_take]; omega
  obtain ⟨b1, hb1⟩ : ∃ x, x = b.take k := ⟨_, rfl⟩
  obtain ⟨b2, hb2⟩ : ∃ x, x = b.drop k := ⟨_, rfl⟩
  rw [← hb1] at hpre hkl ⊢
  rw [← hb2] at hsuf
  unfold Wr1P
  rw [← hb2]
  have HH := Lib.hid (And.intro hb1 (And.intro hb2 (And.intro hk hbl)))
  have hpre' : ∀ {w' : World} {G : List Nat}, Mod G W w' → (∀ x ∈ blks (.slice aob b.length capb), x ∉ G) → Bs w' (.slice aob k capb) b1 := fun hm hG => Sl.mod hpre hm (fun x hx => hG x (by cases aob <;> exact hx))
  have hsuf' : ∀ {w' : World} {G : List Nat}, Mod G W w' → (∀ x ∈ blks (.slice aob b.length capb), x ∉ G) → Bs w' (.slice (Option.map (fun x => x.add k) aob) (b.length - k) (capb - k)) b2 := fun hm hG => Sl.mod hsuf hm (fun x hx => hG x (hsb x hx))
  have c0 := hrc.cell' (i := 0) rfl
  have c1 := Blk.cell' hR (i := 0) rfl
  have c3 := Blk.cell' hR (i := 3) rfl
  have d0 := hbc.cell' (i := 0) rfl
  by_cases hpart : k < z
  · have y4 : (k : Int) < z := by omega
    have eC : wrC v S M T z b1 = if v.go = true then if v.md.go = true then (v.md.wr S ((v.m.read S).take M ++ b1 ++ (v.m.read S).drop T), 0) else (v.md.md, 60) else (v.md, 60) := by unfold wrC; rw [if_pos (by omega)]
    rw [eC]
    clear eC
    have RD := fun w h => pRead_any p q v L (S : Nat) w h (by omega)
    rw [noneE_ok hS] at RD
    cases hg : v.go with
    | false =>
      rw [show v.e 0 = 60 from if_neg (by rw [hg]; decide), show v.rd (S : Nat) = [] from by unfold Pv.rd; rw [if_neg (by rw [hg]; decide)]] at RD
      rw [if_neg (by decide)]
      obtain ⟨V, hV⟩ : ∃ V, V = v.md := ⟨_, rfl⟩
      rw [← hV] at RD ⊢
      clear hb1 hb2 hk hlen hz hS hV hg
      go_enter Try.func77, Try.ntmps77
      go_wp2_with (with_reducible refine st_store ?_)
      refine StopOp.go rfl fun K hK => ?_
      refine wp_store1 (by kernel_rfl) (by rfl) (u := .slice (Option.map (fun x => x.add k) aob) (b.length - k) (capb - k)) (by rfl) ⟨rfl, rfl⟩ hbc (by simp) ?_
      intro w1 hm1 hB1
      refine hK _ _ ?_
      clear hK K
      have hP1 := hP.keep0 hm1 (fun x hx hh => hdis (by have e : x = bc := (by simpa using hh); exact e ▸ hx))
      have hR1 := hR.mod hm1 (fun hh => hrL (by have e : r = bc := (by simpa using hh); simp [e]))
      have hrc1 := hrc.mod hm1 (fun hh => hrcL (by have e : rc = bc := (by simpa using hh); simp [e]))
      clear c0 c1 c3 d0
      have c0 := hrc1.cell' (i := 0) rfl
      have c1 := Blk.cell' hR1 (i := 0) rfl
      have c3 := Blk.cell' hR1 (i := 3) rfl
      go_wp2_with (go_at_call 55; (with_reducible refine (RD _ hP1).mono ?_); rintro e w2 ⟨v2, rfl, ho2, hn2, hP2, hm2⟩; obtain ⟨ao2, cap2, rfl, _, _⟩ := Ob.nxR (n := 0) ho2 rfl)
      go_ret
      have hm02 : Mod (bc :: p :: L) W w2 := (hm1.weak (by simp)).then hm2 (fun g hg => .inl (by simp at hg; simp [hg]))
      exact ⟨L, _, rfl, hP2, Blk.mod hB1 hm2 (by simpa using fun e => hdis (by simp [e])), hsuf' hm02 hdb, hsb, hm02, fun x hx => .inl hx⟩
    | true =>
      rw [show v.e 0 = 0 from if_pos hg, rd_sec hg hS] at RD
      rw [if_pos rfl]
      have hS' : S < v.md.m.dur.length := by rw [v.md_m]; exact hS
      have hX : ((v.m.read S).take M ++ b1 ++ (v.m.read S).drop T).length = v.md.m.sz := by
        rw [v.md_m, hz, List.length_append, List.length_append, List.length_drop, take_subR (by omega), hkl, hlen]; omega
      have hw0 := writeE_ok (m := v.md.m) hS' hX
      have hE : (if v.md.go = true then (v.md.wr S ((v.m.read S).take M ++ b1 ++ (v.m.read S).drop T), (0 : Int)) else (v.md.md, 60)) = (v.md.wr S ((v.m.read S).take M ++ b1 ++ (v.m.read S).drop T), v.md.e 0) := wr_e _ _ _
      rw [hE]
      clear hE
      obtain ⟨B, hB⟩ : ∃ B, B = v.m.read S := ⟨_, rfl⟩
      rw [← hB] at RD hlen hw0 hX ⊢
      have hvn : v.md.n ≤ v.n + 1 := md_n2 v
      have hvr : v.md.m.row.length ≤ 1000000 := by rw [v.md_m]; exact hr
      obtain ⟨V, hV⟩ : ∃ V, V = v.md := ⟨_, rfl⟩
      rw [← hV] at RD hw0 hX hvn hvr ⊢
      have hok : V.m.ok := by rw [hV, v.md_m]; exact hP.ok.m
      obtain ⟨X, hXe⟩ : ∃ X, X = B.take M ++ b1 ++ B.drop T := ⟨_, rfl⟩
      rw [← hXe] at hw0 hX ⊢
      have WR := fun w bw h hb hbp => pWrite_any p q V L (S : Nat) X bw w h hb hbp (by omega) hvr
      rw [hw0] at WR
      obtain ⟨V2, hV2⟩ : ∃ x, x = V.wr S X := ⟨_, rfl⟩
      obtain ⟨E, hE'⟩ : ∃ x, x = V.e 0 := ⟨_, rfl⟩
      rw [← hV2, ← hE'] at WR
      rw [← hV2, ← hE']
      have H2 := Lib.hid (And.intro hV (And.intro hV2 (And.intro hE' (And.intro hB (And.intro hlen (And.intro hXe hX))))))
      have y5 : (M : Int) ≤ T := by omega
      have y6 : (T : Int) ≤ z := by omega
      clear hb1 hb2 hk hlen hz hS hV hV2 hE' hg hX hXe hw0 hB hS' hvn hvr
      go_enter Try.func77, Try.ntmps77
      go_wp2_with (with_reducible refine st_store ?_)
      refine StopOp.go rfl fun K hK => ?_
      refine wp_store1 (by kernel_rfl) (by rfl) (u := .slice (Option.map (fun x => x.add k) aob) (b.length - k) (capb - k)) (by rfl) ⟨rfl, rfl⟩ hbc (by simp) ?_
      intro w1 hm1 hB1
      refine hK _ _ ?_
      clear hK K
      have hP1 := hP.keep0 hm1 (fun x hx hh => hdis (by have e : x = bc := (by simpa using hh); exact e ▸ hx))
      have hR1 := hR.mod hm1 (fun hh => hrL (by have e : r = bc := (by simpa using hh); simp [e]))
      have hrc1 := hrc.mod hm1 (fun hh => hrcL (by have e : rc = bc := (by simpa using hh); simp [e]))
      clear c0 c1 c3 d0
      have c0 := hrc1.cell' (i := 0) rfl
      have c1 := Blk.cell' hR1 (i := 0) rfl
      have c3 := Blk.cell' hR1 (i := 3) rfl
      go_wp2_with (go_at_call 55; (with_reducible refine (RD _ hP1).mono ?_); rintro e w2 ⟨v2, rfl, ho2, hn2, hP2, hm2⟩; obtain ⟨ao2, cap2, rfl, hc2, hc22⟩ := Ob.nxR (n := z) ho2 H2.out.2.2.2.2.1; have y7 : (z : Int) ≤ cap2 := (by omega))
      have hm02 : Mod (bc :: p :: L) W w2 := (hm1.weak (by simp)).then hm2 (fun g hg => .inl (by simp at hg; simp [hg]))
      have hbc2 := Blk.mod hB1 hm2 (by simpa using fun e => hdis (by simp [e]))
      have hR2 := hR.mod hm02 hrL
      have hrc2 := hrc.mod hm02 hrcL
      have hs2 := Ob.bs ho2
      have hsx := hs2.prefR (k := M) H2.out.2.2.2.2.1.symm (by omega) (by omega)
      have hsy := hs2.sufR (p := T) H2.out.2.2.2.2.1.symm (by omega) hc2
      have hmL : ∀ x ∈ L, x ∉ blks (.slice ao2 z cap2) := fun x hx hh => by have := hn2 x hh; have := hP1.lt0 x (List.mem_cons_of_mem _ hx); omega
      clear c0 c1 c3
      by_cases hct : cap2 = T
      · skip
        obtain rfl : T = cap2 := hct.symm
        rw [if_pos rfl, Nat.sub_self, show z - T = 0 by omega] at hsy
        refine wp_region_T [⟨0, true, []⟩, ⟨1, true, []⟩, ⟨2, true, []⟩, ⟨3, true, []⟩, ⟨4, true, []⟩, ⟨5, true, []⟩, ⟨6, true, []⟩, ⟨7, false, []⟩, ⟨8, false, []⟩, ⟨9, true, []⟩] (by kernel_rfl) (by kernel_rfl) ?_
        have hmD := Mod.drew [] w2
        obtain ⟨x, hx⟩ : ∃ x, x = w2.drew := ⟨_, rfl⟩
        rw [← hx] at hmD ⊢
        clear hx
        iterate 7 (refine wpT_n rfl rfl (fun K hK => ?_); go_wp2_with fail)
        refine wpT_e0 rfl rfl (fun K hK => ?_)
        refine wp_bslice stRow [.slice ao2 M T, .slice aob k capb, .slice ao2 0 0] rfl (by decide) (by rfl) (by simp [Value.cells]) ?_
        intro g w3 hg1 hg2 hm3 hB3
        simp only [put_some, List.set_cons_succ, List.set_cons_zero]
        refine hK _ _ ?_
        clear hK K
        have hm23 := hmD.ext hm3
        have hpm := hpre' (hm02.ext hm23) hdb
        have hRR : RowsR w3 (.slice (some ⟨g, 0, none⟩) 3 3) [((.slice ao2 M T : Value), B.take M), ((.slice aob k capb : Value), b1), ((.slice ao2 0 0 : Value), B.drop T)] := by
          refine ⟨(Ow.of_blk (rest := []) hB3 (Nat.le_refl _) (by omega) rfl rfl : Ow w3 35 1 (.slice (some ⟨g, 0, none⟩) 3 3) 3 [.slice ao2 M T, .slice aob k capb, .slice ao2 0 0]).sl, fun x hx => ?_⟩
          simp only [List.mem_cons, List.not_mem_nil, or_false] at hx
          rcases hx with rfl | rfl | rfl
          · exact hsx.ext hm23
          · exact hpm
          · exact hsy.ext hm23
        have CC := fun w h => concat_any [((.slice ao2 M T : Value), B.take M), ((.slice aob k capb : Value), b1), ((.slice ao2 0 0 : Value), B.drop T)] (.slice (some ⟨g, 0, none⟩) 3 3) w h (by simp) (by simp [H2.out.2.2.2.2.1, hkl]; omega)
        rw [show ([((.slice ao2 M T : Value), B.take M), ((.slice aob k capb : Value), b1), ((.slice ao2 0 0 : Value), B.drop T)].flatMap (·.2)) = X from by rw [H2.out.2.2.2.2.2.1]; simp] at CC
        refine wpT_call rfl rfl (fun K hK => ?_)
        go_wp2_with (go_at_call 78; refine (CC _ hRR).mono ?_; rintro e w4 ⟨v4, rfl, ho4, hn4, hm4⟩)
        obtain ⟨ao4, cap4, rfl, _, _⟩ := ho4.sl.form
        have hm24 := hm23.ext hm4
        have hR4 := hR2.ext hm24
        have hrc4 := hrc2.ext hm24
        have hP4 := hP2.ext hm24
        have c0 := hrc4.cell' (i := 0) rfl
        have c1 := Blk.cell' hR4 (i := 0) rfl
        refine wpT_n rfl rfl (fun K hK => ?_)
        go_wp2_with fail
        refine wpT_nil ?_
        go_wp2_with fail
        go_wp2_with (go_at_call 53; refine (WR _ _ hP4 (Ob.bs ho4) (fun x hx e => by have := hn4 x hx; have := hP2.lt0 p List.mem_cons_self; have := hm23.size; omega)).mono ?_; rintro e w5 ⟨rfl, hp5⟩)
        obtain ⟨L5, k1, k2, k3⟩ := hp5
        go_ret
        have hm05 : Mod (bc :: p :: L) W w5 := (hm02.ext hm24).then k2 (fun g hg => .inl (List.mem_cons_of_mem _ hg))
        have s0 := hm02.size
        have s2 := hm24.size
        exact ⟨L5, _, rfl, k1, (hbc2.ext hm24).mod k2 hdis, hsuf' hm05 hdb, hsb, hm05, fun x hx => (k3 x hx).imp id (fun h => by omega)⟩
      · skip
        rw [if_neg hct] at hsy
        refine wp_region_T [⟨0, true, []⟩, ⟨1, true, []⟩, ⟨2, true, []⟩, ⟨3, true, []⟩, ⟨4, true, []⟩, ⟨5, true, []⟩, ⟨6, true, []⟩, ⟨7, false, []⟩, ⟨8, false, []⟩, ⟨9, true, []⟩] (by kernel_rfl) (by kernel_rfl) ?_
        have hmD := Mod.drew [] w2
        obtain ⟨x, hx⟩ : ∃ x, x = w2.drew := ⟨_, rfl⟩
        rw [← hx] at hmD ⊢
        clear hx
        iterate 7 (refine wpT_n rfl rfl (fun K hK => ?_); go_wp2_with fail)
        refine wpT_e0 rfl rfl (fun K hK => ?_)
        refine wp_bslice stRow [.slice ao2 M cap2, .slice aob k capb, .slice (Option.map (fun x => x.add T) ao2) (z - T) (cap2 - T)] rfl (by decide) (by rfl) (by simp [Value.cells]) ?_
        intro g w3 hg1 hg2 hm3 hB3
        simp only [put_some, List.set_cons_succ, List.set_cons_zero]
        refine hK _ _ ?_
        clear hK K
        have hm23 := hmD.ext hm3
        have hpm := hpre' (hm02.ext hm23) hdb
        have hRR : RowsR w3 (.slice (some ⟨g, 0, none⟩) 3 3) [((.slice ao2 M cap2 : Value), B.take M), ((.slice aob k capb : Value), b1), ((.slice (Option.map (fun x => x.add T) ao2) (z - T) (cap2 - T) : Value), B.drop T)] := by
          refine ⟨(Ow.of_blk (rest := []) hB3 (Nat.le_refl _) (by omega) rfl rfl : Ow w3 35 1 (.slice (some ⟨g, 0, none⟩) 3 3) 3 [.slice ao2 M cap2, .slice aob k capb, .slice (Option.map (fun x => x.add T) ao2) (z - T) (cap2 - T)]).sl, fun x hx => ?_⟩
          simp only [List.mem_cons, List.not_mem_nil, or_false] at hx
          rcases hx with rfl | rfl | rfl
          · exact hsx.ext hm23
          · exact hpm
          · exact hsy.ext hm23
        have CC := fun w h => concat_any [((.slice ao2 M cap2 : Value), B.take M), ((.slice aob k capb : Value), b1), ((.slice (Option.map (fun x => x.add T) ao2) (z - T) (cap2 - T) : Value), B.drop T)] (.slice (some ⟨g, 0, none⟩) 3 3) w h (by simp) (by simp [H2.out.2.2.2.2.1, hkl]; omega)
        rw [show ([((.slice ao2 M cap2 : Value), B.take M), ((.slice aob k capb : Value), b1), ((.slice (Option.map (fun x => x.add T) ao2) (z - T) (cap2 - T) : Value), B.drop T)].flatMap (·.2)) = X from by rw [H2.out.2.2.2.2.2.1]; simp] at CC
        refine wpT_call rfl rfl (fun K hK => ?_)
        go_wp2_with (go_at_call 78; refine (CC _ hRR).mono ?_; rintro e w4 ⟨v4, rfl, ho4, hn4, hm4⟩)
        obtain ⟨ao4, cap4, rfl, _, _⟩ := ho4.sl.form
        have hm24 := hm23.ext hm4
        have hR4 := hR2.ext hm24
        have hrc4 := hrc2.ext hm24
        have hP4 := hP2.ext hm24
        have c0 := hrc4.cell' (i := 0) rfl
        have c1 := Blk.cell' hR4 (i := 0) rfl
        refine wpT_n rfl rfl (fun K hK => ?_)
        go_wp2_with fail
        refine wpT_nil ?_
        go_wp2_with fail
        go_wp2_with (go_at_call 53; refine (WR _ _ hP4 (Ob.bs ho4) (fun x hx e => by have := hn4 x hx; have := hP2.lt0 p List.mem_cons_self; have := hm23.size; omega)).mono ?_; rintro e w5 ⟨rfl, hp5⟩)
        obtain ⟨L5, k1, k2, k3⟩ := hp5
        go_ret
        have hm05 : Mod (bc :: p :: L) W w5 := (hm02.ext hm24).then k2 (fun g hg => .inl (List.mem_cons_of_mem _ hg))
        have s0 := hm02.size
        have s2 := hm24.size
        exact ⟨L5, _, rfl, k1, (hbc2.ext hm24).mod k2 hdis, hsuf' hm05 hdb, hsb, hm05, fun x hx => (k3 x hx).imp id (fun h => by omega)⟩
  · have hkz : k = z := by omega
    have eC : wrC v S M T z b1 = if v.go = true then (v.wr S b1, 0) else (v.md, 60) := by unfold wrC; rw [if_neg (by omega)]
    rw [eC, wr_e]
    clear eC
    have hw0 := writeE_ok (m := v.m) hS (show b1.length = v.m.sz by rw [hkl, hkz, hz])
    have WR := fun w h hb => pWrite_any p q v L (S : Nat) b1 (.slice aob k capb) w h hb (fun x hx e => hdb x (by cases aob <;> exact hx) (by simp [e])) (by omega) hr
    rw [hw0] at WR
    obtain ⟨V, hV⟩ : ∃ V, V = v.wr S b1 := ⟨_, rfl⟩
    obtain ⟨E, hE'⟩ : ∃ V, V = v.e 0 := ⟨_, rfl⟩
    rw [← hV, ← hE'] at WR
    rw [← hV, ← hE']
    have y4 : ¬ ((k : Int) < z) := by omega
    have y5 : decide (k < z) = false := decide_eq_false hpart
    clear hb1 hb2 hk hlen hz hS hw0 hV hE' hpart hkz
    go_enter Try.func77, Try.ntmps77
    go_wp2_with (with_reducible refine st_store ?_)
    refine StopOp.go rfl fun K hK => ?_
    refine wp_store1 (by kernel_rfl) (by rfl) (u := .slice (Option.map (fun x => x.add k) aob) (b.length - k) (capb - k)) (by rfl) ⟨rfl, rfl⟩ hbc (by simp) ?_
    intro w1 hm1 hB1
    refine hK _ _ ?_
    clear hK K
    have hP1 := hP.keep0 hm1 (fun x hx hh => hdis (by have e : x = bc := (by simpa using hh); exact e ▸ hx))
    have hR1 := hR.mod hm1 (fun hh => hrL (by have e : r = bc := (by simpa using hh); simp [e]))
    have hrc1 := hrc.mod hm1 (fun hh => hrcL (by have e : rc = bc := (by simpa using hh); simp [e]))
    clear c0 c1 c3 d0
    have c0 := hrc1.cell' (i := 0) rfl
    have c1 := Blk.cell' hR1 (i := 0) rfl
    have c3 := Blk.cell' hR1 (i := 3) rfl
    have hp1 := hpre' hm1 (fun x hx hh => hdb x hx (by simp at hh; simp [hh]))
    go_wp2_with (go_at_call 53; (with_reducible refine (WR _ hP1 hp1).mono ?_); rintro e w2 ⟨rfl, hp2⟩)
    obtain ⟨L2, k1, k2, k3⟩ := hp2
    go_ret
    have hm02 : Mod (bc :: p :: L) W w2 := (hm1.weak (by simp)).then k2 (fun g hg => .inl (List.mem_cons_of_mem _ hg))
    have s1 := hm1.size
    exact ⟨L2, _, rfl, k1, Blk.mod hB1 k2 hdis, hsuf' hm02 hdb, hsb, hm02, fun x hx => (k3 x hx).imp id (fun h => by omega)⟩
end Go.Proofs.Ytdmnogmhnhjdgaa
