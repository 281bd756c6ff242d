import Derived.Test.YtminfegoldgjpaaGreatDoorSwL
import Derived.Test.YtminfegoldgjpaaGreatDoorFilS
import Derived.Test.YtminfegoldgjpaaGreatDoorGFl
/-! SlotsKeeps. -/
set_option linter.unusedVariables false
set_option linter.unusedSimpArgs false
set_option maxRecDepth 100000
namespace Go.Proofs.YtminfegoldgjpaaGreatDoor
open Go.RowKit Gw

theorem Bw.off {W w0 w w' : World} {p q P Q : Nat} {v0 v u0 u : Pv} {L M G : List Nat} {O : List (Nat × TypeId × List Value)} (h0 : Bw W w0 p q P Q v0 u0 L M O) (h : Bw W w p q P Q v u L M O) (hm : Mod G w w') (hG : ∀ k ∈ G, w0.heap.size ≤ k) : Bw W w' p q P Q v u L M O :=
  ⟨h.D.keep0 hm (fun k hk hh => by have := h0.D.lt0 k hk; have := hG k hh; omega), h.E.keep1 hm (fun k hk hh => by have := h0.E.lt1 k hk; have := hG k hh; omega), h.ap,
    fun x hx => ⟨(h.O x hx).1, (h.O x hx).2.1, (h.O x hx).2.2.1, (h.O x hx).2.2.2.mod hm (fun hh => by have := (h0.O x hx).2.2.2.lt; have := hG _ hh; omega)⟩, h.m.fresh hm (fun k hk => Nat.le_trans h0.m.size (hG k hk)), h.dn, h.rn⟩
theorem Fam.two {w : World} {va vb : Value} {la lb : List UInt8} {base : Nat} (ha : Ob w va la) (hb : Ob w vb lb) (h1 : ∀ k ∈ blks va, base ≤ k) (h2 : ∀ k ∈ blks vb, base ≤ k) (h3 : ∀ k ∈ blks va, k ∉ blks vb) : Fam w base [(va, la), (vb, lb)] := by
  refine ⟨fun p hp => ?_, ?_⟩
  · simp only [List.mem_cons, List.not_mem_nil, or_false] at hp
    rcases hp with rfl | rfl
    · exact ⟨ha, h1⟩
    · exact ⟨hb, h2⟩
  · refine List.Pairwise.cons (fun q hq => ?_) (List.pairwise_singleton _ _)
    rw [List.mem_singleton.1 hq]
    exact h3
set_option maxRecDepth 1000000 in
set_option maxHeartbeats 20000000 in
theorem slotsKeeps_core (nn : Int) (H : Hd) (W : World) (hnn : i64 nn) (hw : H.wf) (hT : TabC W) :
    Calls Tryz.prog 3 #[.int .i64 nn, H.v] W fun e w' => e = .returned (.bool true) ∧ Mod [] W w' := by
  have AW := fun w h => slawake_any w h
  have MD := fun w => made0_any w
  unfold Made0 at MD
  have T0 : Turn (dev0 10 64) 0 5 4 0 hd0 [] := Turn.zero 10 0 5 4 (by omega) (by omega)
  have hd0' : (dev0 10 64).dur.length = 10 := rfl
  obtain ⟨m0, hm0⟩ : ∃ d, d = dev0 10 64 := ⟨_, rfl⟩
  rw [← hm0] at MD T0 hd0'
  clear hm0
  have PK := fun w => pick_any nn 193 w hnn.1 hnn.2 (by omega) (by omega)
  have k1 := pick_ge nn 193
  have k2 := pick_lt nn 193 (by omega)
  obtain ⟨K, hK0⟩ : ∃ K : Nat, pick nn 193 = K := ⟨_, (Int.toNat_of_nonneg k1).symm⟩
  rw [hK0] at PK k2
  clear k1 hK0
  have hK : K ≤ 192 := by omega
  have FI := fun w => sfill_blk nn K w (by omega)
  obtain ⟨Bd, hBd⟩ : ∃ B, B = filS nn K := ⟨_, rfl⟩
  have hBl : Bd.length = K := by rw [hBd]; exact filS_len _ _
  rw [← hBd] at FI
  clear hBd k2
  subst hBl
  obtain ⟨cr, hcr⟩ : ∃ c, c = crcS Bd := ⟨_, rfl⟩
  have HBL := Lib.hid hcr
  clear hcr
  have HP := fun w h => hput_any H hw w h
  unfold HputP at HP
  obtain ⟨pe, hpe⟩ : ∃ R, R = putE H := ⟨_, rfl⟩
  have hpl : (putB H).length ≤ 32 := by unfold putB; split; (rw [hdr_len]; exact Nat.le_refl _); simp
  obtain ⟨pb, hpb⟩ : ∃ R, R = putB H := ⟨_, rfl⟩
  rw [← hpe, ← hpb] at HP
  rw [← hpb] at hpl
  have SB1 := fun va vb w ha hb => same_any Bd Bd va vb w ha hb
  have SB2 := fun va vb w ha hb => same_any pb pb va vb w ha hb
  rw [decide_eq_true (rfl : Bd = Bd)] at SB1
  rw [decide_eq_true (rfl : pb = pb)] at SB2
  have CP := fun v w h => copy_any Bd v w h (by omega)
  clear hpe hpb
  obtain ⟨g0, c0, l0, s0⟩ := H
  unfold Hd.v at *
  dsimp only at *
  clear hw
  have yK : (Bd.length : Int) ≤ 192 := by omega
  have yP : (pb.length : Int) ≤ 32 := by omega
  go_enter Tryz.func3, Tryz.ntmps3
  go_wp2_with (with_reducible refine st_box ?_)
  refine StopOp.go rfl fun K hK => ?_
  refine wp_box (v := .agg #[.int .u64 (g0 : Nat), .int .u64 (c0 : Nat), .int .i64 l0, .int .u32 (s0 : Nat)]) (by rfl) ?_
  intro t w0 ht1 ht2 hm0 hB0
  simp only [put_some, List.set_cons_succ, List.set_cons_zero]
  refine hK _ _ ?_
  clear hK K
  have hB0' : Blk w0 t 25 [.int .u64 (g0 : Nat), .int .u64 (c0 : Nat), .int .i64 l0, .int .u32 (s0 : Nat)] := hB0
  clear hB0
  go_upto_region 6 with (first
                | (go_at_call 6; (with_reducible refine (AW _ (hT.ext hm0)).mono ?_); rintro e w1 ⟨rfl, hm1⟩)
                | (go_at_call 7; (with_reducible refine (MD _).mono ?_); rintro e w2 ⟨x, p, q, P, Q, s, r, a, b, h, k, L0, M, rfl, B2⟩))
  have hM1 := hm0.ext hm1
  have hT1 := hT.ext hM1
  have hB1 := hB0'.ext hm1
  have BY : ∀ w, Sls w s a b → Rgn w a p 0 4 64 → Calls Tryz.prog 11 #[.pointer (some ⟨s, 0, none⟩)] w fun e w' => e = .returned (.int .i64 192) ∧ Mod [] w w' := fun w h1 h2 => sBytes_any s a b p 0 4 64 w h1 h2 (by omega) (by omega)
  go_wp2_with fail
  refine wp_region_T [⟨0, true, []⟩, ⟨1, true, []⟩, ⟨2, true, []⟩, ⟨3, true, []⟩, ⟨4, true, []⟩, ⟨5, true, []⟩, ⟨6, true, []⟩, ⟨7, true, []⟩, ⟨8, true, []⟩, ⟨9, true, []⟩, ⟨10, false, [1, 3]⟩, ⟨11, true, []⟩, ⟨12, false, [1, 3]⟩, ⟨13, false, [1, 3]⟩, ⟨14, false, []⟩] (by kernel_rfl) (by kernel_rfl) ?_
  have hmd := Mod.drew [] w2
  obtain ⟨x6, hx6⟩ : ∃ x, x = w2.drew := ⟨_, rfl⟩
  rw [← hx6] at hmd ⊢
  clear hx6
  have B6 := B2.ext hmd
  have e1 := (B6.blk 0 rfl).cell' (i := 1) rfl
  have S1 : Sls x6 s a b := B6.blk 1 rfl
  have S2 : Rgn x6 a p 0 4 64 := B6.blk 3 rfl
  iterate 10 (refine wpT_n rfl rfl (fun K hK => ?_); go_wp2_with fail)
  refine wpT_callh rfl rfl (fun K hK => ?_)
  go_wp2_with (go_at_call 11; (with_reducible refine (BY _ S1 S2).mono ?_); rintro e w3 ⟨rfl, hm3⟩)
  refine ⟨agains_cons rfl (again_const (fun _ => rfl)) (agains_cons rfl (again_load rfl rfl (hm3.block x (B6.blk 0 rfl).lt (by simp)) (B6.blk 0 rfl).kinds) agains_nil), ?_⟩
  have B3 := B6.ext hm3
  refine wpT_n rfl rfl (fun K hK => ?_)
  go_wp2_with fail
  refine wpT_callh rfl rfl (fun K hK => ?_)
  go_wp2_with (go_at_call 10; (with_reducible refine (PK _).mono ?_); rintro e w4 ⟨rfl, rfl⟩)
  refine ⟨agains_same, ?_⟩
  refine wpT_callh rfl rfl (fun K hK => ?_)
  go_wp2_with (go_at_call 9; (with_reducible refine (FI _).mono ?_); rintro e w5 ⟨g, rfl, hBg, hg1, hm5⟩)
  refine ⟨agains_cons rfl (again_const (fun _ => rfl)) (agains_cons rfl (again_load rfl rfl (hm5.block x (B3.blk 0 rfl).lt (by simp)) (B3.blk 0 rfl).kinds) agains_nil), ?_⟩
  have B5 := B3.ext hm5
  have hgb : Bs w5 (.slice (some ⟨g, 0, none⟩) Bd.length Bd.length) Bd := Bs.of_blk (rest := []) (by rw [List.append_nil]; exact hBg) (Nat.le_refl _) (by omega)
  have SV : Calls Tryz.prog 8 #[.pointer (some ⟨s, 0, none⟩), .slice (some ⟨g, 0, none⟩) Bd.length Bd.length, .int .u64 1] w5 (fun e w' => e = .returned (.tuple #[.agg #[.int .u64 1, .int .u64 1, .int .i64 (Bd.length : Nat), .int .u32 (cr : Nat)], .int .i64 0]) ∧ ∃ L2 m2 n2, Bw w1 w' p q P Q (Lv m2 n2) dvS L2 M (osB x p P s r a b h k 0 5 4) ∧ Mod (p :: L0) w5 w' ∧ Turn m2 0 5 4 1 ⟨1, 1, (Bd.length : Nat), cr⟩ Bd ∧ m2.dur.length = 10 ∧ n2 ≤ 0 + 4 * 4 + 20) := by
    rw [HBL.out]
    exact B5.turnS (fun _ h => h) T0 hT1 hd0' (by omega) (by omega) (by omega) (by omega) (by omega) Bd _ 1 hgb (fun y hy => by have e : y = g := (by simpa [blks] using hy); subst e; exact ⟨hBg.lt, fun hh => by have := B3.D.lt0 y hh; omega⟩) (by omega) (by omega) (by omega)
  refine wpT_call rfl rfl (fun K hK => ?_)
  go_wp2_with (go_at_call 8; (with_reducible refine (SV).mono ?_); rintro e w6 ⟨rfl, L, m1, n1, B7, hm6, T1, hd1, hn1⟩)
  refine wpT_nil ?_
  have htw := hB1.lt
  have htp : t ∉ p :: L0 := fun hh => by have := B2.dn t hh; have := hB1.lt; omega
  have hB7 := (((hB1.ext B2.m).ext hmd).ext (hm3.ext hm5)).mod hm6 htp
  clear e1 S1 S2 SV hgb hBg B2 B3 B5 B6 T0 hd0' hmd hm3 hm5 hm6 FI PK BY hB0' hB1 htp
  have LDg : ∀ (w : World) (nn : Nat), Bw w1 w p q P Q (Lv m1 nn) dvS L M (osB x p P s r a b h k 0 5 4) → nn ≤ 100 → Calls Tryz.prog 12 #[.pointer (some ⟨s, 0, none⟩)] w (fun e w' => ∃ bw n4, e = .returned (.tuple #[.agg #[.int .u64 1, .int .u64 1, .int .i64 (Bd.length : Nat), .int .u32 (cr : Nat)], bw, .int .i64 0, .int .i64 0]) ∧ Ob w' bw Bd ∧ New w bw ∧ Bw w1 w' p q P Q (Lv m1 n4) dvS L M (osB x p P s r a b h k 0 5 4) ∧ Mod [p] w w' ∧ n4 ≤ nn + 2 * 4 + 6) := fun w nn hB hn =>
    hB.turnL (fun _ h => h) T1 hT1 hd1 (by omega) (by omega) (by omega) (by omega) (by omega)
  have hpL : p ∈ p :: L := List.mem_cons_self
  have hplt := B7.D.lt0 p hpL
  have e1 := (B7.blk 0 rfl).cell' (i := 1) rfl
  have htl := hB7.lt
  have hHX : Blk w6 t 25 [.int .u64 (g0 : Nat), .int .u64 (c0 : Nat), .int .i64 l0, .int .u32 (s0 : Nat)] := hB7
  have htp : t ∉ [p] := fun hh => by have e : t = p := (by simpa using hh); have h1 := B7.dn p hpL; omega
  go_wp2_with (first
                | (with_reducible refine st_alloc ?_)
                | (go_at_call 12; (with_reducible refine (LDg _ _ B7 (by omega)).mono ?_); rintro e w7 ⟨bwa, n2, rfl, hoa, hna, B8, hm7, hn2⟩; obtain ⟨aoa, capa, rfl, _, _⟩ := hoa.sl.form))
  have halt := hoa.lt
  have hX7 := hHX.mod hm7 htp
  refine StopOp.go rfl fun K hK => ?_
  refine wp_alloc zero_header ?_
  intro t7 w8 h81 h82 hm8 hB8
  simp only [put_some, List.set_cons_succ, List.set_cons_zero]
  refine hK _ _ ?_
  clear hK K
  go_wp2_with (with_reducible refine st_store ?_)
  refine StopOp.go rfl fun K hK => ?_
  refine wp_store (u := .agg #[.int .u64 1, .int .u64 1, .int .i64 (Bd.length : Nat), .int .u32 (cr : Nat)]) (by rfl) (by rfl) (by kernel_rfl) hB8 (by simp [Value.cells]) (by simp [Value.cells, Value.oneCell']) ?_
  intro w9 hm9 hB9
  refine hK _ _ ?_
  clear hK K
  have hm79 : Mod [] w7 w9 := hm8.fresh hm9 (by simpa using h81)
  have B9 := B8.ext hm79
  have hoa9 := Ow.ext hoa hm79
  have hX9 := hX7.ext hm79
  have s67 := hm7.size
  have s79 := hm79.size
  clear hB8 hB9 hm8 hm9 e1 hoa hX7 B8 hm7 hB7
  have e1 := (B9.blk 0 rfl).cell' (i := 1) rfl
  go_wp2_with (first
                | (with_reducible refine st_alloc ?_)
                | (go_at_call 12; (with_reducible refine (LDg _ _ B9 (by omega)).mono ?_); rintro e w10 ⟨bwb, n3, rfl, hob, hnb, B10, hm10, hn3⟩; obtain ⟨aob, capb, rfl, _, _⟩ := hob.sl.form))
  have hapn : ∀ y ∈ blks (.slice aoa Bd.length capa), y ∉ [p] := fun y hy hh => by have e : y = p := (by simpa using hh); have := hna y hy; omega
  have hoa10 := Ow.mod hoa9 hm10 hapn
  have hblt := hob.lt
  have hX10 := hX9.mod hm10 htp
  have s910 := hm10.size
  refine StopOp.go rfl fun K hK => ?_
  refine wp_alloc zero_header ?_
  intro t11 w11 h111 h112 hm11 hB11
  simp only [put_some, List.set_cons_succ, List.set_cons_zero]
  refine hK _ _ ?_
  clear hK K
  go_wp2_with (with_reducible refine st_store ?_)
  refine StopOp.go rfl fun K hK => ?_
  refine wp_store (u := .agg #[.int .u64 1, .int .u64 1, .int .i64 (Bd.length : Nat), .int .u32 (cr : Nat)]) (by rfl) (by rfl) (by kernel_rfl) hB11 (by simp [Value.cells]) (by simp [Value.cells, Value.oneCell']) ?_
  intro w12 hm12 hB12
  refine hK _ _ ?_
  clear hK K
  have hm1012 : Mod [] w10 w12 := hm11.fresh hm12 (by simpa using h111)
  have B12 := B10.ext hm1012
  have hoa12 := Ow.ext hoa10 hm1012
  have hob12 := Ow.ext hob hm1012
  have hX12 := hX10.ext hm1012
  have s1012 := hm1012.size
  clear hB11 hB12 hm11 hm12 e1 hoa10 hoa9 hob hX9 hX10 B10 B9 hm10
  have hoa12b := Ob.bs hoa12
  have hT12 := hT1.ext B12.m
  go_wp2_with (first
                | (with_reducible refine st_bslice ?_)
                | (go_at_call 13; (with_reducible refine (CP _ _ hoa12b).mono ?_); rintro e w13 ⟨wv, rfl, how, hnw, hm13⟩; obtain ⟨aow, capw, rfl, _, _⟩ := how.sl.form; have B13 := B12.ext hm13; have hT13 := hT1.ext B13.m; have hX13 := hX12.ext hm13; have b0 := hX13.cell' (i := 0) rfl; have b1 := hX13.cell' (i := 1) rfl; have b2 := hX13.cell' (i := 2) rfl; have b3 := hX13.cell' (i := 3) rfl)
                | (go_at_call 14; (with_reducible refine (HP _ hT13).mono ?_); rintro e w14 ⟨vc, rfl, hoc, hnc, hm14⟩; obtain ⟨aoc, capc, rfl, _, _⟩ := hoc.sl.form; have B14 := B13.ext hm14; have hT14 := hT1.ext B14.m; have hX14 := hX13.ext hm14; have d0 := hX14.cell' (i := 0) rfl; have d1 := hX14.cell' (i := 1) rfl; have d2 := hX14.cell' (i := 2) rfl; have d3 := hX14.cell' (i := 3) rfl)
                | (go_at_call 14; (with_reducible refine (HP _ hT14).mono ?_); rintro e w15 ⟨vd, rfl, hod, hnd, hm15⟩; obtain ⟨aod, capd, rfl, _, _⟩ := hod.sl.form; have B15 := B14.ext hm15; have hoa15 : Ob w15 (.slice aoa Bd.length capa) Bd := Ow.ext hoa12 ((hm13.ext hm14).ext hm15); have hob15 : Ob w15 (.slice aob Bd.length capb) Bd := Ow.ext hob12 ((hm13.ext hm14).ext hm15); have hoc15 := Ow.ext hoc hm15; have how15 := Ow.ext how (hm14.ext hm15); have hoa15b := Ob.bs hoa15; have hob15b := Ob.bs hob15)
                | (go_at_call 15; (with_reducible refine (SB1 _ _ _ hoa15b hob15b).mono ?_); rintro e w16 ⟨rfl, hm16⟩))
  have s1213 := hm13.size
  have s1314 := hm14.size
  have s1415 := hm15.size
  have hclt := hoc.lt
  have hdlt := hod.lt
  refine StopOp.gw rfl fun K hK => ?_
  refine wp_bslice stDR [.slice aoa Bd.length capa, .slice aob Bd.length capb] rfl (by decide) (by rfl) (by simp [Value.cells]) ?_
  intro z1 w17 hz1 hz2 hm17 hB17
  simp only [put_some, List.set_cons_succ, List.set_cons_zero]
  refine hK _ _ ?_
  clear hK K
  have hm1517 := hm16.ext hm17
  have hS17 : Sl w17 1 (.slice (some ⟨z1, 0, none⟩) 2 2) 2 [.slice aoa Bd.length capa, .slice aob Bd.length capb] := (Ow.of_blk (rest := []) hB17 (Nat.le_refl _) (by omega) rfl rfl : Ow w17 39 1 (.slice (some ⟨z1, 0, none⟩) 2 2) 2 [.slice aoa Bd.length capa, .slice aob Bd.length capb]).sl
  have hab : ∀ k ∈ blks (.slice aoa Bd.length capa), k ∉ blks (.slice aob Bd.length capb) := fun k h1 h2 => by have := halt k h1; have := hnb k h2; omega
  have AP1 := apart_fam [((.slice aoa Bd.length capa), Bd), ((.slice aob Bd.length capb), Bd)] w6.heap.size 2 _ w17 rfl hS17 (Fam.two (Ow.ext hoa15 hm1517) (Ow.ext hob15 hm1517) hna (fun k hk => by have := hnb k hk; omega) hab) (by omega) (by intro p hp; simp only [List.mem_cons, List.not_mem_nil, or_false] at hp; rcases hp with rfl | rfl <;> (dsimp only; omega))
  clear hB17 hS17 hoa12 hob12 hoa15 hob15 hX12 hX13 hX14 b0 b1 b2 b3 d0 d1 d2 d3 B12 B13 B14
  have B17 := B15.ext hm1517
  have hoc17 := Ow.ext hoc15 hm1517
  have hod17 := Ow.ext hod hm1517
  have how17 := Ow.ext how15 hm1517
  have hwlt := how.lt
  go_wp2_with (first
                | (with_reducible refine st_bslice ?_)
                | (go_at_call 16; (with_reducible refine (AP1).mono ?_); rintro e w18 ⟨rfl, G1, hm18, hG1⟩; have hGk : ∀ k ∈ G1, w6.heap.size ≤ k ∧ k < w12.heap.size := (fun k hk => by obtain ⟨y, hy, hyk⟩ := hG1 k hk; simp only [List.mem_cons, List.not_mem_nil, or_false] at hy; rcases hy with rfl | rfl; (have h1 := hna k hyk; have h2 := halt k hyk; omega); (have h1 := hnb k hyk; have h2 := hblt k hyk; omega)); have B18 := B7.off B17 hm18 (fun k hk => (hGk k hk).1); have hoc18 := Ow.mod hoc17 hm18 (fun y hy hh => by have := hnc y hy; have := (hGk y hh).2; omega); have hod18 := Ow.mod hod17 hm18 (fun y hy hh => by have := hnd y hy; have := (hGk y hh).2; omega); have how18 := Ow.mod how17 hm18 (fun y hy hh => by have := hnw y hy; have := (hGk y hh).2; omega); have hoc18b : Bs w18 (.slice aoc pb.length capc) pb := Ob.bs hoc18; have hod18b : Bs w18 (.slice aod pb.length capd) pb := Ob.bs hod18)
                | (go_at_call 15; (with_reducible refine (SB2 _ _ _ hoc18b hod18b).mono ?_); rintro e w19 ⟨rfl, hm19⟩))
  refine StopOp.gw rfl fun K hK => ?_
  refine wp_bslice stDR [.slice aoc pb.length capc, .slice aod pb.length capd] rfl (by decide) (by rfl) (by simp [Value.cells]) ?_
  intro z2 w20 hz21 hz22 hm20 hB20
  simp only [put_some, List.set_cons_succ, List.set_cons_zero]
  refine hK _ _ ?_
  clear hK K
  have hm1820 := hm19.ext hm20
  have hS20 : Sl w20 1 (.slice (some ⟨z2, 0, none⟩) 2 2) 2 [.slice aoc pb.length capc, .slice aod pb.length capd] := (Ow.of_blk (rest := []) hB20 (Nat.le_refl _) (by omega) rfl rfl : Ow w20 39 1 (.slice (some ⟨z2, 0, none⟩) 2 2) 2 [.slice aoc pb.length capc, .slice aod pb.length capd]).sl
  have hcd : ∀ k ∈ blks (.slice aoc pb.length capc), k ∉ blks (.slice aod pb.length capd) := fun k h1 h2 => by have := hclt k h1; have := hnd k h2; omega
  have AP2 := apart_fam [((.slice aoc pb.length capc : Value), pb), ((.slice aod pb.length capd : Value), pb)] w13.heap.size 2 _ w20 rfl hS20 (Fam.two (Ow.ext hoc18 hm1820) (Ow.ext hod18 hm1820) hnc (fun k hk => by have := hnd k hk; omega) hcd) (by omega) (by intro p hp; simp only [List.mem_cons, List.not_mem_nil, or_false] at hp; rcases hp with rfl | rfl <;> (dsimp only; omega))
  have B20 := B18.ext hm1820
  have how20 := Ow.ext how18 hm1820
  clear hB20 hS20
  go_wp2_with (first
                | (with_reducible refine st_alloc ?_)
                | (go_at_call 16; (with_reducible refine (AP2).mono ?_); rintro e w21 ⟨rfl, G2, hm21, hG2⟩; have hGk2 : ∀ k ∈ G2, w13.heap.size ≤ k := (fun k hk => by obtain ⟨y, hy, hyk⟩ := hG2 k hk; simp only [List.mem_cons, List.not_mem_nil, or_false] at hy; rcases hy with rfl | rfl; (exact hnc k hyk); (have h1 := hnd k hyk; omega)); have B21 := B7.off B20 hm21 (fun k hk => by have := hGk2 k hk; omega); have how21 := Ow.mod how20 hm21 (fun y hy hh => by have := hwlt y hy; have := hGk2 y hh; omega); have e1 := (B21.blk 0 rfl).cell' (i := 1) rfl)
                | (go_at_call 12; (with_reducible refine (LDg _ _ B21 (by omega)).mono ?_); rintro e w22 ⟨bwe, n5, rfl, hoe, hne, B22, hm22, hn5⟩; obtain ⟨aoe, cape, rfl, _, _⟩ := hoe.sl.form; have how22 := Ow.mod how21 hm22 (fun y hy hh => by have e : y = p := (by simpa using hh); have := hnw y hy; omega)))
  refine StopOp.go rfl fun K hK => ?_
  refine wp_alloc zero_header ?_
  intro t20 w23 h231 h232 hm23 hB23
  simp only [put_some, List.set_cons_succ, List.set_cons_zero]
  refine hK _ _ ?_
  clear hK K
  go_wp2_with (with_reducible refine st_store ?_)
  refine StopOp.go rfl fun K hK => ?_
  refine wp_store (u := .agg #[.int .u64 1, .int .u64 1, .int .i64 (Bd.length : Nat), .int .u32 (cr : Nat)]) (by rfl) (by rfl) (by kernel_rfl) hB23 (by simp [Value.cells]) (by simp [Value.cells, Value.oneCell']) ?_
  intro w24 hm24 hB24
  refine hK _ _ ?_
  clear hK K
  have hm2224 : Mod [] w22 w24 := hm23.fresh hm24 (by simpa using h231)
  have hoe24 : Bs w24 (.slice aoe Bd.length cape) Bd := Ob.bs (Ow.ext hoe hm2224)
  have how24 : Bs w24 (.slice aow Bd.length capw) Bd := Ob.bs (Ow.ext how22 hm2224)
  have B24 := B22.ext hm2224
  go_wp2_with (go_at_call 15; (with_reducible refine (SB1 _ _ _ hoe24 how24).mono ?_); rintro e w25 ⟨rfl, hm25⟩)
  go_ret
  exact ⟨rfl, (hM1.ext B24.m).ext hm25⟩
end Go.Proofs.YtminfegoldgjpaaGreatDoor
