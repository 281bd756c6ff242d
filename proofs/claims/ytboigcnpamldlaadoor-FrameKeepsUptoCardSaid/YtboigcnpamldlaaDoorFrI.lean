import Derived.Test.YtboigcnpamldlaaDoorFrH
import Derived.Deep.DeepCutAuto
/-! FramePuts, FrameGets: their walks. -/
set_option linter.unusedVariables false
set_option linter.unusedSimpArgs false
set_option maxRecDepth 100000
namespace Go.Proofs.YtboigcnpamldlaaDoor
open Go.RowKit Gw

theorem sizeF_len (e s : Nat) (l : List UInt8) : sizeF (l.length : Nat) = ((if 32 < l.length then [] else frame e s l).length : Nat) := by
  unfold sizeF
  split
  · rename_i h
    rw [if_pos (by omega)]
    rfl
  · rename_i h
    rw [if_neg (by omega), frame_len]
    omega
set_option maxRecDepth 1000000 in
set_option maxHeartbeats 4000000 in
theorem framePuts_core (f : Fv) (v : Value) (n : Int) (W : World) (hv : Bs W v f.l) (hl : f.l.length ≤ 1048576) (he : f.e < 18446744073709551616) (hs : f.s < 18446744073709551616) (hT : TabC W) :
    Calls Tryd.prog 3 #[f.v v, .int .i64 n] W fun e w' => e = .returned (.bool true) ∧ Mod [] W w' := by
  have AW := fun w h => frawake_any w h
  have LF := fun w v h => lentFr_any f v w h (by omega)
  have PU := fun w v h hT => fput_any f.e f.s f.l v w h he hs hT
  have RP := fun w v h => rfput_any f.e f.s f.l v w h he hs
  have KF := fun w g cap v h hv => keptFr_any f g cap v w h hv
  have OF := fun w g cap h => overFr_any f g cap w h (by omega)
  have SN := fun w => size_any n w
  have RN := fun w => rsize_any n w
  have SL := fun w => size_any (f.l.length : Nat) w
  have hsl := sizeF_len f.e f.s f.l
  unfold PutF at PU RP
  obtain ⟨R, hR⟩ : ∃ R, R = (if 32 < f.l.length then [] else frame f.e f.s f.l) := ⟨_, rfl⟩
  obtain ⟨E, hE⟩ : ∃ E : Int, E = (if 32 < f.l.length then 3 else 0) := ⟨_, rfl⟩
  obtain ⟨Z, hZ⟩ : ∃ Z, Z = sizeF n := ⟨_, rfl⟩
  rw [← hR] at PU RP hsl
  rw [← hE] at PU RP
  rw [← hZ] at SN RN
  rw [hsl] at SL
  clear hR hE hZ hsl
  obtain ⟨e, s, l⟩ := f
  obtain ⟨ao, cap, rfl, _, _⟩ := hv.form
  unfold Fv.v at *
  dsimp only at *
  go_enter Tryd.func3, Tryd.ntmps3
  go_wp2_with (with_reducible refine st_box ?_)
  refine StopOp.go rfl fun K hK => ?_
  refine wp_box (v := .agg #[.int .u64 (e : Nat), .int .u64 (s : Nat), .slice ao l.length cap]) (by rfl) ?_
  intro g w1 hg1 hg2 hm1 hB1
  simp only [put_some, List.set_cons_succ, List.set_cons_zero]
  refine hK _ _ ?_
  clear hK K
  have hG1 : Blk w1 g 25 [.int .u64 (e : Nat), .int .u64 (s : Nat), .slice ao l.length cap] := hB1
  have hT1 := hT.ext hm1
  go_wp2_with (first
                | (with_reducible refine st_alloc ?_)
                | (go_at_call 10; (with_reducible refine (AW _ hT1).mono ?_); rintro e w2 ⟨rfl, hm2⟩; have hG2 := hG1.ext hm2; have x0 := hG2.cell' (i := 0) rfl; have x1 := hG2.cell' (i := 1) rfl; have x2 := hG2.cell' (i := 2) rfl; have hv2 := (hv.ext hm1).ext hm2)
                | (go_at_call 11; refine (LF _ _ hv2).mono ?_; rintro e w3 ⟨k, capk, rfl, hk, hL3, hm3⟩))
  refine StopOp.go rfl fun K hK => ?_
  refine wp_alloc zero_frame ?_
  intro h w4 hh1 hh2 hm4 hB4
  simp only [put_some, List.set_cons_succ, List.set_cons_zero]
  refine hK _ _ ?_
  clear hK K
  clear x0 x1 x2
  go_wp2_with (with_reducible refine st_store ?_)
  refine StopOp.go rfl fun K hK => ?_
  refine wp_store (u := .agg #[.int .u64 e, .int .u64 s, .slice (some ⟨k, 0, none⟩) l.length capk]) (by rfl) (by rfl) (by kernel_rfl) hB4 (by simp [Value.cells]) (by simp [Value.cells, Value.oneCell']) ?_
  intro w5 hm5 hB5
  refine hK _ _ ?_
  clear hK K
  have hH5 : Blk w5 h 25 [.int .u64 (e : Nat), .int .u64 (s : Nat), .slice (some ⟨k, 0, none⟩) l.length capk] := hB5
  have hm35 : Mod [] w3 w5 := hm4.fresh hm5 (by simpa using hh1)
  have hG5 := (hG2.ext hm3).ext hm35
  have hL5 := hL3.ext hm35
  have hM5 := ((hm1.ext hm2).ext hm3).ext hm35
  have hkw : W.heap.size ≤ k := by have := (hm1.ext hm2).size; omega
  have hgk : g ≠ k := by have := hG2.lt; omega
  have hkh : h ≠ k := by obtain ⟨_, hB, _⟩ := hL5; exact hH5.ne hB (by decide)
  have hs5 := hL5.bs
  have hT5 := hT.ext hM5
  have y0 := hH5.cell' (i := 0) rfl
  have y1 := hH5.cell' (i := 1) rfl
  have y2 := hH5.cell' (i := 2) rfl
  clear hB4 hB5 hm4 hm5 hG2 hL3 hm1 hm2 hm3 hm35 hG1
  go_wp2_with (first
                | (go_at_call 12; refine (PU _ _ hs5 hT5).mono ?_; rintro e w6 ⟨v6, rfl, ho6, hn6, hm6⟩; obtain ⟨ao6, cap6, rfl, _, _⟩ := ho6.sl.form; have hG6 := hG5.ext hm6; have x0 := hG6.cell' (i := 0) rfl; have x1 := hG6.cell' (i := 1) rfl; have x2 := hG6.cell' (i := 2) rfl; have hv6 := hv.ext (hM5.ext hm6))
                | (go_at_call 13; refine (RP _ _ hv6).mono ?_; rintro e w7 ⟨v7, rfl, ho7, hn7, hm7⟩; obtain ⟨ao7, cap7, rfl, _, _⟩ := ho7.sl.form; have hG7 := hG6.ext hm7; have u0 := hG7.cell' (i := 0) rfl; have u1 := hG7.cell' (i := 1) rfl; have u2 := hG7.cell' (i := 2) rfl; have hH7 := (hH5.ext hm6).ext hm7; have q0 := hH7.cell' (i := 0) rfl; have q1 := hH7.cell' (i := 1) rfl; have q2 := hH7.cell' (i := 2) rfl; have hv7 := hv6.ext hm7; have hL7 := (hL5.ext hm6).ext hm7)
                | (go_at_call 14; refine (KF _ _ _ _ hL7 hv7).mono ?_; rintro e w8 ⟨rfl, hm8⟩; have hH8 := hH7.ext hm8; have r0 := hH8.cell' (i := 0) rfl; have r1 := hH8.cell' (i := 1) rfl; have r2 := hH8.cell' (i := 2) rfl; have hL8 := hL7.ext hm8)
                | (go_at_call 15; refine (OF _ _ _ hL8).mono ?_; rintro e w9 ⟨rfl, hm9⟩; have ho69 := ((ho6.ext hm7).ext hm8).mod hm9 (fun b hb hh => by have := hn6 b hb; obtain ⟨_, hB, _⟩ := hL5; have := hB.lt; have e1 : b = k := (by simpa using hh); omega); have ho79 := (ho7.ext hm8).mod hm9 (fun b hb hh => by have := hn7 b hb; obtain ⟨_, hB, _⟩ := hL5; have := hB.lt; have := hm6.size; have e1 : b = k := (by simpa using hh); omega); have hG9 := (hG7.ext hm8).mod hm9 (by simpa using hgk); have a1 := Ob.bs ho69; have a2 := Ob.bs ho79)
                | (go_at_call 16; refine (same_yes R R _ _ _ a1 a2 rfl).mono ?_; rintro e w10 ⟨rfl, hm10⟩; have hG10 := hG9.ext hm10; have t2 := hG10.cell' (i := 2) rfl)
                | (go_at_call 17; (with_reducible refine (SN _).mono ?_); rintro e w11 ⟨rfl, rfl⟩)
                | (go_at_call 18; (with_reducible refine (RN _).mono ?_); rintro e w11 ⟨rfl, rfl⟩)
                | (go_at_call 17; (with_reducible refine (SL _).mono ?_); rintro e w11 ⟨rfl, rfl⟩))
  go_ret
  exact ⟨rfl, ((((hM5.ext hm6).ext hm7).ext hm8).fresh hm9 (by simpa using hkw)).ext hm10⟩
set_option maxRecDepth 1000000 in
set_option maxHeartbeats 4000000 in
theorem frameGets_core (b : List UInt8) (v : Value) (W : World) (hb : Bs W v b) (hl : b.length ≤ 1048576) (hT : TabC W) :
    Calls Tryd.prog 4 #[v] W fun e w' => e = .returned (.bool true) ∧ Mod [] W w' := by
  have AW := fun w h => frawake_any w h
  have LB := fun w v h => lent_any b v w h (by omega)
  have GE := fun w v h hT => fget_any b v w h (by omega) hT
  have RG := fun w v h => rfget_any b v w h (by omega)
  have KB := fun w g cap v h hv => kept_any g cap b v w h hv
  have OB := fun w g cap h => over_any g cap b w h (by omega)
  unfold GetF at GE RG
  obtain ⟨f, hf⟩ : ∃ f, f = getF b := ⟨_, rfl⟩
  obtain ⟨N, hN⟩ : ∃ f, f = numF b := ⟨_, rfl⟩
  obtain ⟨E, hE⟩ : ∃ f, f = errF b := ⟨_, rfl⟩
  rw [← hf, ← hN, ← hE] at GE RG
  clear hf hN hE
  have SF := fun w va vb h1 h2 => sameF_yes f va vb w h1 h2
  obtain ⟨e, s, l⟩ := f
  unfold Fv.v at SF
  dsimp only at GE RG SF
  obtain ⟨ao, cap, rfl, _, _⟩ := hb.form
  go_enter Tryd.func4, Tryd.ntmps4
  go_wp2_with (first
                | (with_reducible refine st_alloc ?_)
                | (go_at_call 10; (with_reducible refine (AW _ hT).mono ?_); rintro e w2 ⟨rfl, hm2⟩; have hb2 := hb.ext hm2)
                | (go_at_call 19; refine (LB _ _ hb2).mono ?_; rintro e w3 ⟨k, capk, rfl, hk, hL3, hm3⟩; have hs3 := hL3.bs; have hT3 := hT.ext (hm2.ext hm3))
                | (go_at_call 20; refine (GE _ _ hs3 hT3).mono ?_; rintro e w4 ⟨v4, rfl, ho4, hn4, hm4⟩; obtain ⟨ao4, cap4, rfl, _, _⟩ := ho4.sl.form))
  refine StopOp.go rfl fun K hK => ?_
  refine wp_alloc zero_frame ?_
  intro g w5 hg1 hg2 hm5 hB5
  simp only [put_some, List.set_cons_succ, List.set_cons_zero]
  refine hK _ _ ?_
  clear hK K
  go_wp2_with (with_reducible refine st_store ?_)
  refine StopOp.go rfl fun K hK => ?_
  refine wp_store (u := .agg #[.int .u64 e, .int .u64 s, .slice ao4 l.length cap4]) (by rfl) (by rfl) (by kernel_rfl) hB5 (by simp [Value.cells]) (by simp [Value.cells, Value.oneCell']) ?_
  intro w6 hm6 hB6
  refine hK _ _ ?_
  clear hK K
  have hG6 : Blk w6 g 25 [.int .u64 (e : Nat), .int .u64 (s : Nat), .slice ao4 l.length cap4] := hB6
  have hm46 : Mod [] w4 w6 := hm5.fresh hm6 (by simpa using hg1)
  have hb6 := ((hb2.ext hm3).ext hm4).ext hm46
  have hM6 := ((hm2.ext hm3).ext hm4).ext hm46
  have ho6 := ho4.ext hm46
  have hL6 := (hL3.ext hm4).ext hm46
  have hk4 : k < w3.heap.size := by obtain ⟨_, hB, _⟩ := hL3; exact hB.lt
  have s34 := hm4.size
  have s46 := hm46.size
  have hkw : W.heap.size ≤ k := by have := hm2.size; omega
  clear hB5 hB6 hm5 hm6 hm4 hm46 ho4 hm3 hL3
  go_wp2_with (first
                | (with_reducible refine st_alloc ?_)
                | (go_at_call 21; refine (RG _ _ hb6).mono ?_; rintro e w7 ⟨v7, rfl, ho7, hn7, hm7⟩; obtain ⟨ao7, cap7, rfl, _, _⟩ := ho7.sl.form))
  refine StopOp.go rfl fun K hK => ?_
  refine wp_alloc zero_frame ?_
  intro h w8 hh1 hh2 hm8 hB8
  simp only [put_some, List.set_cons_succ, List.set_cons_zero]
  refine hK _ _ ?_
  clear hK K
  go_wp2_with (with_reducible refine st_store ?_)
  refine StopOp.go rfl fun K hK => ?_
  refine wp_store (u := .agg #[.int .u64 e, .int .u64 s, .slice ao7 l.length cap7]) (by rfl) (by rfl) (by kernel_rfl) hB8 (by simp [Value.cells]) (by simp [Value.cells, Value.oneCell']) ?_
  intro w9 hm9 hB9
  refine hK _ _ ?_
  clear hK K
  have hH9 : Blk w9 h 25 [.int .u64 (e : Nat), .int .u64 (s : Nat), .slice ao7 l.length cap7] := hB9
  have hm79 : Mod [] w7 w9 := hm8.fresh hm9 (by simpa using hh1)
  have hb9 := (hb6.ext hm7).ext hm79
  have hM9 := (hM6.ext hm7).ext hm79
  have ho69 := (ho6.ext hm7).ext hm79
  have ho79 := ho7.ext hm79
  have hL9 := (hL6.ext hm7).ext hm79
  have hG9 := (hG6.ext hm7).ext hm79
  have s7 := hm7.size
  clear hB8 hB9 hm8 hm9 hm7 hm79 ho7 ho6 hL6 hG6
  have hgk : g ≠ k := by omega
  have hhk : h ≠ k := by omega
  go_wp2_with (first
                | (go_at_call 22; refine (KB _ _ _ _ hL9 hb9).mono ?_; rintro e w10 ⟨rfl, hm10⟩; have hL10 := hL9.ext hm10)
                | (go_at_call 23; refine (OB _ _ _ hL10).mono ?_; rintro e w11 ⟨rfl, hm11⟩; have hG11 := (hG9.ext hm10).mod hm11 (by simpa using hgk); have hH11 := (hH9.ext hm10).mod hm11 (by simpa using hhk); have x0 := hG11.cell' (i := 0) rfl; have x1 := hG11.cell' (i := 1) rfl; have x2 := hG11.cell' (i := 2) rfl; have y0 := hH11.cell' (i := 0) rfl; have y1 := hH11.cell' (i := 1) rfl; have y2 := hH11.cell' (i := 2) rfl; have o1 := (ho69.ext hm10).mod hm11 (fun b hb hh => by have := hn4 b hb; have e1 : b = k := (by simpa using hh); omega); have o2 := (ho79.ext hm10).mod hm11 (fun b hb hh => by have := hn7 b hb; have e1 : b = k := (by simpa using hh); omega); have a1 := Ob.bs o1; have a2 := Ob.bs o2)
                | (go_at_call 24; refine (SF _ _ _ a1 a2).mono ?_; rintro e w12 ⟨rfl, hm12⟩))
  go_ret
  exact ⟨rfl, ((hM9.ext hm10).fresh hm11 (by simpa using hkw)).ext hm12⟩
end Go.Proofs.YtboigcnpamldlaaDoor
