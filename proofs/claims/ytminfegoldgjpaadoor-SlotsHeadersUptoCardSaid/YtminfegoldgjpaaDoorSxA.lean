import Derived.Test.YtminfegoldgjpaaDoorSwL
import Derived.Test.YtminfegoldgjpaaDoorGSh
/-! SlotsHeaders. -/
set_option linter.unusedVariables false
set_option linter.unusedSimpArgs false
set_option maxRecDepth 100000
namespace Go.Proofs.YtminfegoldgjpaaDoor
open Go.RowKit Gw

set_option maxRecDepth 1000000 in
set_option maxHeartbeats 20000000 in
theorem slotsHeaders_core (H : Hd) (B : List UInt8) (v : Value) (W : World) (hw : H.wf) (hv : Bs W v B) (hl : B.length ≤ 1048576) (hT : TabC W) :
    Calls Tryd.prog 3 #[H.v, v] W fun e w' => e = .returned (.bool true) ∧ Mod [] W w' := by
  obtain ⟨aob, capb, rfl, hcb, hcb2⟩ := hv.form
  have AW := fun w h => slawake_any w h
  have HP := fun w h => hput_any H hw w h
  have RH := fun w => rhput_any H hw w
  have LE := fun w h => lent_any B (.slice aob B.length capb) w h (by omega)
  have GT := fun v w h hT => hget_any B v w h (by omega) hT
  have RG := fun v w h => rhget_any B v w h (by omega)
  have KE := fun g cap w h hv => kept_any g cap B (.slice aob B.length capb) w h hv
  unfold HputP at HP
  unfold HputR at RH
  unfold HgetP at GT RG
  obtain ⟨R, hR⟩ : ∃ R, R = getH B := ⟨_, rfl⟩
  obtain ⟨er, her⟩ : ∃ R, R = errH B := ⟨_, rfl⟩
  rw [← hR, ← her] at GT RG
  obtain ⟨pe, hpe⟩ : ∃ R, R = putE H := ⟨_, rfl⟩
  obtain ⟨pb, hpb⟩ : ∃ R, R = putB H := ⟨_, rfl⟩
  rw [← hpe, ← hpb] at HP RH
  have SB := fun va vb w ha hb => same_any pb pb va vb w ha hb
  rw [decide_eq_true (rfl : pb = pb)] at SB
  clear hR her hpe hpb
  obtain ⟨g0, c0, l0, s0⟩ := H
  obtain ⟨g1, c1, l1, s1⟩ := R
  unfold Hd.v at *
  dsimp only at *
  clear hw
  go_enter Tryd.func3, Tryd.ntmps3
  go_wp2_with (with_reducible refine st_box ?_)
  refine StopOp.go rfl fun K hK => ?_
  refine wp_box (v := .agg #[.int .u64 (g0 : Nat), .int .u64 (c0 : Nat), .int .i64 l0, .int .u32 (s0 : Nat)]) (by rfl) ?_
  intro t w1 ht1 ht2 hm1 hB1
  simp only [put_some, List.set_cons_succ, List.set_cons_zero]
  refine hK _ _ ?_
  clear hK K
  have hB1' : Blk w1 t 25 [.int .u64 (g0 : Nat), .int .u64 (c0 : Nat), .int .i64 l0, .int .u32 (s0 : Nat)] := hB1
  clear hB1
  go_wp2_with (first
                | (with_reducible refine st_alloc ?_)
                | (go_at_call 7; (with_reducible refine (AW _ (hT.ext hm1)).mono ?_); rintro e w2 ⟨rfl, hm2⟩; have hB2 := hB1'.ext hm2; have b0 := hB2.cell' (i := 0) rfl; have b1 := hB2.cell' (i := 1) rfl; have b2 := hB2.cell' (i := 2) rfl; have b3 := hB2.cell' (i := 3) rfl; have hM2 := hm1.ext hm2)
                | (go_at_call 8; (with_reducible refine (HP _ (hT.ext hM2)).mono ?_); rintro e w3 ⟨vc, rfl, hoc, hnc, hm3⟩; obtain ⟨aoc, capc, rfl, _, _⟩ := hoc.sl.form; have hB3 := hB2.ext hm3; have d0 := hB3.cell' (i := 0) rfl; have d1 := hB3.cell' (i := 1) rfl; have d2 := hB3.cell' (i := 2) rfl; have d3 := hB3.cell' (i := 3) rfl; have hM3 := hM2.ext hm3)
                | (go_at_call 9; (with_reducible refine (RH _).mono ?_); rintro e w4 ⟨vw, rfl, hbw, hnw, hlw, hm4⟩; obtain ⟨aow, capw, rfl, _, _⟩ := Bs.form hbw; have hM4 := hM3.ext hm4; have hv4 := Bs.ext hv hM4)
                | (go_at_call 10; (with_reducible refine (LE _ hv4).mono ?_); rintro e w5 ⟨gl, capl, rfl, hgl, hLt, hm5⟩; have hM5 := hM4.ext hm5; have hb5 := hLt.bs)
                | (go_at_call 11; (with_reducible refine (GT _ _ hb5 (hT.ext hM5)).mono ?_); rintro e w6 ⟨rfl, hm6⟩))
  have hM6 := hM5.ext hm6
  refine StopOp.go rfl fun K hK => ?_
  refine wp_alloc zero_header ?_
  intro t10 w7 h71 h72 hm7 hB7
  simp only [put_some, List.set_cons_succ, List.set_cons_zero]
  refine hK _ _ ?_
  clear hK K
  go_wp2_with (with_reducible refine st_store ?_)
  refine StopOp.go rfl fun K hK => ?_
  refine wp_store (u := .agg #[.int .u64 (g1 : Nat), .int .u64 (c1 : Nat), .int .i64 l1, .int .u32 (s1 : Nat)]) (by rfl) (by rfl) (by kernel_rfl) hB7 (by simp [Value.cells]) (by simp [Value.cells, Value.oneCell']) ?_
  intro w8 hm8 hB8
  refine hK _ _ ?_
  clear hK K
  have hm68 : Mod [] w6 w8 := hm7.fresh hm8 (by simpa using h71)
  have hB8' : Blk w8 t10 25 [.int .u64 (g1 : Nat), .int .u64 (c1 : Nat), .int .i64 l1, .int .u32 (s1 : Nat)] := hB8
  have hM8 := hM6.ext hm68
  have hv8 := Bs.ext hv hM8
  clear hB7 hB8
  go_wp2_with (first
                | (with_reducible refine st_alloc ?_)
                | (go_at_call 12; (with_reducible refine (RG _ _ hv8).mono ?_); rintro e w9 ⟨rfl, hm9⟩))
  refine StopOp.go rfl fun K hK => ?_
  refine wp_alloc zero_header ?_
  intro t12 w10 h101 h102 hm10 hB10
  simp only [put_some, List.set_cons_succ, List.set_cons_zero]
  refine hK _ _ ?_
  clear hK K
  go_wp2_with (with_reducible refine st_store ?_)
  refine StopOp.go rfl fun K hK => ?_
  refine wp_store (u := .agg #[.int .u64 (g1 : Nat), .int .u64 (c1 : Nat), .int .i64 l1, .int .u32 (s1 : Nat)]) (by rfl) (by rfl) (by kernel_rfl) hB10 (by simp [Value.cells]) (by simp [Value.cells, Value.oneCell']) ?_
  intro w11 hm11 hB11
  refine hK _ _ ?_
  clear hK K
  have hB11' : Blk w11 t12 25 [.int .u64 (g1 : Nat), .int .u64 (c1 : Nat), .int .i64 l1, .int .u32 (s1 : Nat)] := hB11
  have hm8b : Mod [] w8 w11 := hm9.ext (hm10.fresh hm11 (by simpa using h101))
  have hM11 := hM8.ext hm8b
  have hoc11 := Bs.ext (Bs.ext hoc.bs hm4) (((hm5.ext hm6).ext hm68).ext hm8b)
  have hbw11 := Bs.ext hbw (((hm5.ext hm6).ext hm68).ext hm8b)
  have hLt11 := hLt.ext ((hm6.ext hm68).ext hm8b)
  have hv11 := Bs.ext hv hM11
  have hX := hB8'.ext hm8b
  clear hB10 hB11 b0 b1 b2 b3 d0 d1 d2 d3 hB1' hB2 hB3 hb5 hv8 hv4
  go_wp2_with (first
                | (go_at_call 13; (with_reducible refine (SB _ _ _ hoc11 hbw11).mono ?_); rintro e w12 ⟨rfl, hm12⟩; have hX2 := hX.ext hm12; have hY2 := hB11'.ext hm12; have x0 := hX2.cell' (i := 0) rfl; have x1 := hX2.cell' (i := 1) rfl; have x2 := hX2.cell' (i := 2) rfl; have x3 := hX2.cell' (i := 3) rfl; have y0 := hY2.cell' (i := 0) rfl; have y1 := hY2.cell' (i := 1) rfl; have y2 := hY2.cell' (i := 2) rfl; have y3 := hY2.cell' (i := 3) rfl; have hL12 := hLt11.ext hm12; have hv12 := Bs.ext hv11 hm12)
                | (go_at_call 14; (with_reducible refine (KE _ _ _ hL12 hv12).mono ?_); rintro e w13 ⟨rfl, hm13⟩))
  go_ret
  exact ⟨rfl, (hM11.ext hm12).ext hm13⟩
end Go.Proofs.YtminfegoldgjpaaDoor
