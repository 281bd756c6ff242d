import Derived.Test.YtminfegoldgjpaaDoorSwL
import Derived.Test.YtminfegoldgjpaaDoorGFl
/-! SlotsBack. -/
set_option linter.unusedVariables false
set_option linter.unusedSimpArgs false
set_option maxRecDepth 100000
namespace Go.Proofs.YtminfegoldgjpaaDoor
open Go.RowKit Gw

theorem bits_xor8 (a b : Nat) (ha : a < 256) (hb : b < 256) : bits .xor .u8 (a : Int) (b : Int) = ((a ^^^ b : Nat) : Int) := by
  have ha' : a % 2 ^ IntKind.u8.bits = a := Nat.mod_eq_of_lt ha
  have hb' : b % 2 ^ IntKind.u8.bits = b := Nat.mod_eq_of_lt hb
  have hx := Nat.xor_lt_two_pow (n := 8) ha hb
  simp only [bits, BitVec.ofInt_natCast, BitVec.toNat_xor, BitVec.toNat_ofNat, ha', hb']
  rw [IntKind.wrap_u8]
  omega
theorem xor_ne8 {x c : Nat} (hc : c ≠ 0) : x ^^^ c ≠ x := fun h => hc (xor_can' (c := x) (by rw [h, Nat.xor_zero]))
theorem string_gang (w : World) : (binOp .neq 9 (.string ⟨[(71 : UInt8), 65, 78, 71].toArray⟩) (.string ⟨#[71, 65, 78, 71]⟩)).run Tryd.prog w = .ok (.bool false) w := by kernel_rfl
theorem hdr_take (H : Hd) : (hdr H).take 4 = [71, 65, 78, 71] := by
  unfold hdr hdB gang
  simp
set_option maxRecDepth 1000000 in
set_option maxHeartbeats 20000000 in
theorem slotsBack_no (H : Hd) (tl : List UInt8) (v : Value) (at_ : Int) (W : World) (hw : H.wf) (hm : mayH H = false) (hT : TabC W) :
    Calls Tryd.prog 5 #[H.v, v, .int .i64 at_] W fun e w' => e = .returned (.bool true) ∧ Mod [] W w' := by
  have AW := fun w h => slawake_any w h
  have HP := fun w h => hput_any H hw w h
  unfold HputP at HP
  have hpe : putE H = 2 := by unfold putE; rw [hm]; rfl
  have hpb : putB H = [] := by unfold putB; rw [hm]; rfl
  rw [hpe, hpb] at HP
  have hno := of_decide_eq_false hm
  obtain ⟨g0, c0, l0, s0⟩ := H
  unfold Hd.v at *
  dsimp only at *
  clear hw hm hpe hpb
  have hcs : g0 = 0 ∨ (0 < g0 ∧ l0 < 0) ∨ (0 < g0 ∧ 0 ≤ l0 ∧ 67108864 < l0) := by omega
  clear hno
  go_enter Tryd.func5, Tryd.ntmps5
  go_wp2_with (with_reducible refine st_box ?_)
  refine StopOp.go rfl fun K hK => ?_
  refine wp_box (v := .agg #[.int .u64 (g0 : Nat), .int .u64 (c0 : Nat), .int .i64 l0, .int .u32 (s0 : Nat)]) (by rfl) ?_
  intro t w1 ht1 ht2 hm1 hB1
  simp only [put_some, List.set_cons_succ, List.set_cons_zero]
  refine hK _ _ ?_
  clear hK K
  have hB1' : Blk w1 t 25 [.int .u64 (g0 : Nat), .int .u64 (c0 : Nat), .int .i64 l0, .int .u32 (s0 : Nat)] := hB1
  clear hB1
  rcases hcs with h0 | ⟨h1, h2⟩ | ⟨h1, h2, h3⟩
  · have y1 : ((g0 : Int) == 0) = true := by rw [h0]; rfl
    clear h0
    go_wp2_with (first
                  | (go_at_call 7; (with_reducible refine (AW _ (hT.ext hm1)).mono ?_); rintro e w2 ⟨rfl, hm2⟩; have hB2 := hB1'.ext hm2; have b0 := hB2.cell' (i := 0) rfl; have b1 := hB2.cell' (i := 1) rfl; have b2 := hB2.cell' (i := 2) rfl; have b3 := hB2.cell' (i := 3) rfl; have hM2 := hm1.ext hm2)
                  | (go_at_call 8; (with_reducible refine (HP _ (hT.ext hM2)).mono ?_); rintro e w3 ⟨vc, rfl, hoc, hnc, hm3⟩; obtain ⟨aoc, capc, rfl, _, _⟩ := hoc.sl.form; have hB3 := hB2.ext hm3; have d0 := hB3.cell' (i := 0) rfl; have d2 := hB3.cell' (i := 2) rfl))
    go_ret
    exact ⟨rfl, hM2.ext hm3⟩
  · have y1 : ((g0 : Int) == 0) = false := by rw [beq_eq_false_iff_ne]; omega
    go_wp2_with (first
                  | (go_at_call 7; (with_reducible refine (AW _ (hT.ext hm1)).mono ?_); rintro e w2 ⟨rfl, hm2⟩; have hB2 := hB1'.ext hm2; have b0 := hB2.cell' (i := 0) rfl; have b1 := hB2.cell' (i := 1) rfl; have b2 := hB2.cell' (i := 2) rfl; have b3 := hB2.cell' (i := 3) rfl; have hM2 := hm1.ext hm2)
                  | (go_at_call 8; (with_reducible refine (HP _ (hT.ext hM2)).mono ?_); rintro e w3 ⟨vc, rfl, hoc, hnc, hm3⟩; obtain ⟨aoc, capc, rfl, _, _⟩ := hoc.sl.form; have hB3 := hB2.ext hm3; have d0 := hB3.cell' (i := 0) rfl; have d2 := hB3.cell' (i := 2) rfl))
    go_ret
    exact ⟨rfl, hM2.ext hm3⟩
  · have y1 : ((g0 : Int) == 0) = false := by rw [beq_eq_false_iff_ne]; omega
    go_wp2_with (first
                  | (go_at_call 7; (with_reducible refine (AW _ (hT.ext hm1)).mono ?_); rintro e w2 ⟨rfl, hm2⟩; have hB2 := hB1'.ext hm2; have b0 := hB2.cell' (i := 0) rfl; have b1 := hB2.cell' (i := 1) rfl; have b2 := hB2.cell' (i := 2) rfl; have b3 := hB2.cell' (i := 3) rfl; have hM2 := hm1.ext hm2)
                  | (go_at_call 8; (with_reducible refine (HP _ (hT.ext hM2)).mono ?_); rintro e w3 ⟨vc, rfl, hoc, hnc, hm3⟩; obtain ⟨aoc, capc, rfl, _, _⟩ := hoc.sl.form; have hB3 := hB2.ext hm3; have d0 := hB3.cell' (i := 0) rfl; have d2 := hB3.cell' (i := 2) rfl))
    go_ret
    exact ⟨rfl, hM2.ext hm3⟩
set_option maxRecDepth 1000000 in
set_option maxHeartbeats 20000000 in
theorem slotsBack_yes (H : Hd) (tl : List UInt8) (v : Value) (at_ : Int) (W : World) (hw : H.wf) (hmy : mayH H = true) (hv : Bs W v tl) (hl : tl.length ≤ 1048576) (ha : i64 at_) (hT : TabC W) :
    Calls Tryd.prog 5 #[H.v, v, .int .i64 at_] W fun e w' => e = .returned (.bool true) ∧ Mod [] W w' := by
  obtain ⟨aot, capt, rfl, hct, hct2⟩ := hv.form
  have AW := fun w h => slawake_any w h
  have HP := fun w h => hput_any H hw w h
  unfold HputP at HP
  have hpe : putE H = 0 := by unfold putE; rw [hmy]; rfl
  have hpb : putB H = hdr H := by unfold putB; rw [hmy]; rfl
  rw [hpe, hpb] at HP
  obtain ⟨hR1, hR2⟩ := getH_of hw hmy tl
  have hFl := hdr_len H
  obtain ⟨hS1, hS2⟩ := errH_short (b := (hdr H).take 31) (by rw [List.length_take]; omega)
  have ht4 := hdr_take H
  have PK := fun w => pick_any at_ 32 w ha.1 ha.2 (by omega) (by omega)
  have PD := fun w => pick_any at_ 255 w ha.1 ha.2 (by omega) (by omega)
  have k1 := pick_ge at_ 32
  have k2 := pick_lt at_ 32 (by omega)
  have d1 := pick_ge at_ 255
  have d2 := pick_lt at_ 255 (by omega)
  obtain ⟨k, hk⟩ : ∃ k : Nat, pick at_ 32 = k := ⟨_, (Int.toNat_of_nonneg k1).symm⟩
  obtain ⟨dd, hdd⟩ : ∃ k : Nat, pick at_ 255 = k := ⟨_, (Int.toNat_of_nonneg d1).symm⟩
  rw [hk] at PK k2
  rw [hdd] at PD d2
  have hk2 : k < (hdr H).length := by omega
  obtain ⟨y, hy⟩ : ∃ y, y = UInt8.ofNat (((hdr H)[k]).toNat ^^^ (1 + dd)) := ⟨_, rfl⟩
  have hyn : y.toNat = ((hdr H)[k]).toNat ^^^ (1 + dd) := by rw [hy, UInt8.toNat_ofNat']; exact Nat.mod_eq_of_lt (Nat.xor_lt_two_pow (n := 8) ((hdr H)[k]).toNat_lt (by omega))
  have hyx : y ≠ (hdr H)[k] := fun h => xor_ne8 (x := ((hdr H)[k]).toNat) (c := 1 + dd) (by omega) (by rw [← hyn, h])
  have hO1 := errH_other hw hmy (k := k) (x := y) (by omega) hyx
  have hO2 : getH ((hdr H).set k y) = hd0 := if_neg (by rw [hO1]; decide)
  obtain ⟨xk, hxk⟩ : ∃ x, x = (hdr H)[k] := ⟨_, rfl⟩
  have hX := bits_xor8 xk.toNat (1 + dd) xk.toNat_lt (by omega)
  rw [hxk, ← hyn] at hX
  rw [← hxk] at hX
  have hxk2 : (hdr H)[k]? = some xk := by rw [hxk]; exact List.getElem?_eq_getElem hk2
  obtain ⟨F, hF⟩ : ∃ F, F = hdr H := ⟨_, rfl⟩
  rw [← hF] at HP hR1 hR2 hFl hS1 hS2 ht4 hO1 hO2 hxk2
  have GT1 := fun v w h hT => hget_any (F ++ tl) v w h (by rw [List.length_append]; omega) hT
  have GT2 := fun v w h hT => hget_any (F.take 31) v w h (by rw [List.length_take]; omega) hT
  have GT3 := fun v w h hT => hget_any (F.set k y) v w h (by rw [List.length_set]; omega) hT
  unfold HgetP at GT1 GT2 GT3
  rw [hR1, hR2] at GT1
  rw [hS1, hS2] at GT2
  rw [hO1, hO2] at GT3
  have CP := fun v w h => copy_any F v w h (by omega)
  obtain ⟨m1, m2, m3⟩ := of_decide_eq_true hmy
  have hcc : ((1 + dd : Nat) : Int) = 1 + (dd : Int) := by omega
  rw [hcc] at hX
  have HK := Lib.hid (And.intro hxk2 (And.intro hFl ht4))
  obtain ⟨g0, c0, l0, s0⟩ := H
  unfold Hd.v hd0 at *
  dsimp only at *
  simp only [Int.natCast_zero] at GT2 GT3
  have z1 : ((g0 : Int) == 0) = false := by rw [beq_eq_false_iff_ne]; omega
  have z2 : (k : Int) ≤ 31 := by omega
  have z3 : (dd : Int) ≤ 254 := by omega
  have z4 : (capt : Int) ≤ 9223372036854775807 := by omega
  clear hw hmy hpe hpb hR1 hR2 hS1 hS2 ht4 hk hdd hk2 hyn hyx hO1 hO2 hxk hxk2 hF hy hcc hFl m1 k1 k2 d1 d2
  go_enter Tryd.func5, Tryd.ntmps5
  go_wp2_with (with_reducible refine st_box ?_)
  refine StopOp.go rfl fun K hK => ?_
  refine wp_box (v := .agg #[.int .u64 (g0 : Nat), .int .u64 (c0 : Nat), .int .i64 l0, .int .u32 (s0 : Nat)]) (by rfl) ?_
  intro t w1 ht1 ht2 hm1 hB1
  simp only [put_some, List.set_cons_succ, List.set_cons_zero]
  refine hK _ _ ?_
  clear hK K
  have hB1' : Blk w1 t 25 [.int .u64 (g0 : Nat), .int .u64 (c0 : Nat), .int .i64 l0, .int .u32 (s0 : Nat)] := hB1
  clear hB1
  go_wp2_with (first
                | (with_reducible refine st_append ?_)
                | (go_at_call 7; (with_reducible refine (AW _ (hT.ext hm1)).mono ?_); rintro e w2 ⟨rfl, hm2⟩; have hB2 := hB1'.ext hm2; have b0 := hB2.cell' (i := 0) rfl; have b1 := hB2.cell' (i := 1) rfl; have b2 := hB2.cell' (i := 2) rfl; have b3 := hB2.cell' (i := 3) rfl; have hM2 := hm1.ext hm2)
                | (go_at_call 8; (with_reducible refine (HP _ (hT.ext hM2)).mono ?_); rintro e w3 ⟨vc, rfl, hoc, hnc, hm3⟩; obtain ⟨aoc, capc, rfl, hcc1, hcc2⟩ := Ob.frn hoc HK.out.2.1; have hB3 := hB2.ext hm3; have d0 := hB3.cell' (i := 0) rfl; have d2 := hB3.cell' (i := 2) rfl; have hM3 := hM2.ext hm3; have s3 := Bs.str (HK.out.2.2 ▸ Bs.prefz hoc.bs HK.out.2.1.symm (k := 4) (by omega) (by omega)); have q3 := string_gang w3; have hoc3 := hoc.bs)
                | (go_at_call 17; (with_reducible refine (CP _ _ hoc3).mono ?_); rintro e w4 ⟨v4, rfl, ho4, hn4, hm4⟩; obtain ⟨ao4, cap4, rfl, _, _⟩ := Ob.frn ho4 HK.out.2.1))
  refine StopOp.go rfl fun K hK => ?_
  refine wp_append_ow stB (by rfl) (by rfl) ho4 (Bs.ext hv (hM3.ext hm4)) (bv_one _) (by have := HK.out.2.1; omega) (by have := HK.out.2.1; omega) ?_
  intro v5 w5 ho5 hm5 hb5
  simp only [put_some, List.set_cons_succ, List.set_cons_zero]
  refine hK _ _ ?_
  clear hK K
  have ho5' : Ob w5 v5 (F ++ tl) := by
    unfold Ob
    rw [List.length_append, bv_append]
    exact ho5
  obtain ⟨N5, hN5⟩ : ∃ N, N = (F ++ tl).length := ⟨_, rfl⟩
  obtain ⟨ao5, cap5, rfl, _, _⟩ := Ob.frn ho5' hN5.symm
  have HN5 := Lib.hid hN5
  clear hN5
  have hm35 : Mod [] w3 w5 := hm4.fresh hm5 (fun x hx => hn4 x hx)
  have hM5 := hM3.ext hm35
  have hb5' := ho5'.bs
  clear ho4 hn4 hm4 hm5 hb5 ho5 s3 q3 b0 b1 b2 b3 d0 d2 hoc3
  go_wp2_with (first
                | (with_reducible refine st_alloc ?_)
                | (go_at_call 11; (with_reducible refine (GT1 _ _ hb5' (hT.ext hM5)).mono ?_); rintro e w6 ⟨rfl, hm6⟩))
  refine StopOp.go rfl fun K hK => ?_
  refine wp_alloc zero_header ?_
  intro t9 w7 h71 h72 hm7 hB7
  simp only [put_some, List.set_cons_succ, List.set_cons_zero]
  refine hK _ _ ?_
  clear hK K
  go_wp2_with (with_reducible refine st_store ?_)
  refine StopOp.go rfl fun K hK => ?_
  refine wp_store (u := .agg #[.int .u64 (g0 : Nat), .int .u64 (c0 : Nat), .int .i64 l0, .int .u32 (s0 : Nat)]) (by rfl) (by rfl) (by kernel_rfl) hB7 (by simp [Value.cells]) (by simp [Value.cells, Value.oneCell']) ?_
  intro w8 hm8 hB8
  refine hK _ _ ?_
  clear hK K
  have hs6 := hm6.size
  have hm58 : Mod [] w5 w8 := hm6.ext (hm7.fresh hm8 (by simpa using h71))
  have hN9 : Blk w8 t9 25 [.int .u64 (g0 : Nat), .int .u64 (c0 : Nat), .int .i64 l0, .int .u32 (s0 : Nat)] := hB8
  have hM8 := hM5.ext hm58
  have hoc8 : Ob w8 (.slice aoc 32 capc) F := Ow.ext (Ow.ext hoc hm35) hm58
  have hp8 := Bs.prefz hoc8.bs HK.out.2.1.symm (k := 31) (by omega) (by omega)
  clear hB7 hB8 hm6 hm7 hm8 hb5' ho5' hM5
  go_wp2_with (first
                | (with_reducible refine st_alloc ?_)
                | (go_at_call 11; (with_reducible refine (GT2 _ _ hp8 (hT.ext hM8)).mono ?_); rintro e w9 ⟨rfl, hm9⟩))
  refine StopOp.go rfl fun K hK => ?_
  refine wp_alloc zero_header ?_
  intro t11 w10 h101 h102 hm10 hB10
  simp only [put_some, List.set_cons_succ, List.set_cons_zero]
  refine hK _ _ ?_
  clear hK K
  go_wp2_with (with_reducible refine st_store ?_)
  refine StopOp.go rfl fun K hK => ?_
  refine wp_store (u := .agg #[.int .u64 0, .int .u64 0, .int .i64 0, .int .u32 0]) (by rfl) (by rfl) (by kernel_rfl) hB10 (by simp [Value.cells]) (by simp [Value.cells, Value.oneCell']) ?_
  intro w11 hm11 hB11
  refine hK _ _ ?_
  clear hK K
  have hm811 : Mod [] w8 w11 := hm9.ext (hm10.fresh hm11 (by simpa using h101))
  have hM11 := hM8.ext hm811
  have hoc11 : Ob w11 (.slice aoc 32 capc) F := Ow.ext hoc8 hm811
  have hN9' := hN9.ext hm811
  have hT11 : Blk w11 t 25 [.int .u64 (g0 : Nat), .int .u64 (c0 : Nat), .int .i64 l0, .int .u32 (s0 : Nat)] := ((hB3.ext hm35).ext hm58).ext hm811
  have hlt9 := hN9.lt
  have hltt := hB1'.lt
  obtain ⟨gb, rest, rfl, hBb, _, hcb1, hcb2⟩ := Ob.blk hoc11 (by omega)
  have hgb : W.heap.size ≤ gb ∧ gb ≠ t ∧ gb ≠ t9 := by
    have h1 := hnc gb (by simp [blks])
    have h2 := hM2.size
    have h3 := hm2.size
    have h4 := hoc.lt gb (by simp [blks])
    have h5 := hm35.size
    have h6 := hm58.size
    exact ⟨by omega, by omega, by omega⟩
  clear hB10 hB11 hm9 hm10 hm11 hp8 hoc8 hoc hM8 hN9 hB1' hB2 hB3
  go_wp2_with (go_at_call 23; (with_reducible refine (PK _).mono ?_); rintro e w12 ⟨rfl, rfl⟩; dsimp only)
  refine wp_region_T [⟨0, true, []⟩, ⟨1, true, []⟩, ⟨2, true, []⟩, ⟨3, true, []⟩, ⟨4, true, []⟩, ⟨5, false, [3]⟩, ⟨6, true, []⟩, ⟨7, true, []⟩, ⟨8, true, []⟩, ⟨9, true, []⟩, ⟨10, false, []⟩] (by kernel_rfl) (by kernel_rfl) ?_
  have hmD := Mod.drew [] w11
  obtain ⟨x, hx⟩ : ∃ x, x = w11.drew := ⟨_, rfl⟩
  rw [← hx] at hmD ⊢
  clear hx
  have hBx := hBb.ext hmD
  have cb := hBx.cell' (i := k) (u := .int .u8 (xk.toNat : Nat)) (by rw [List.getElem?_append_left (by rw [bv_length]; exact (List.getElem?_eq_some_iff.1 HK.out.1).1)]; simp [bv, HK.out.1])
  iterate 5 (refine wpT_n rfl rfl (fun K hK => ?_); go_wp2_with fail)
  refine wpT_callh rfl rfl (fun K hK => ?_)
  go_wp2_with (go_at_call 23; (with_reducible refine (PD _).mono ?_); rintro e w12 ⟨rfl, rfl⟩)
  refine ⟨agains_same, ?_⟩
  iterate 4 (refine wpT_n rfl rfl (fun K hK => ?_); go_wp2_with fail)
  refine wpT_e0 rfl rfl (fun K hK => ?_)
  refine wp_store1 (by kernel_rfl) (by rfl) (u := .int .u8 (y.toNat : Nat)) (by first | rfl | exact congrArg (Value.int .u8) hX) ⟨rfl, rfl⟩ hBx (by rw [List.length_append, bv_length]; have := HK.out.2.1; omega) ?_
  intro w13 hm13 hB13
  refine hK _ _ ?_
  clear hK K
  rw [bv_set _ _ _ _ (by have := HK.out.2.1; omega)] at hB13
  have hl13 : (F.set k y).length = 32 := by rw [List.length_set]; exact HK.out.2.1
  have hb13 : Bs w13 (.slice (some ⟨gb, 0, none⟩) 32 capc) (F.set k y) := hl13 ▸ Bs.of_blk (c := capc) hB13 (by omega) (by omega)
  have hMx := hM11.ext hmD
  have hM13 : Mod [] W w13 := hMx.fresh hm13 (by simpa using hgb.1)
  have hN13 := (hN9'.ext hmD).mod hm13 (by simpa using hgb.2.2.symm)
  have hT13 := (hT11.ext hmD).mod hm13 (by simpa using hgb.2.1.symm)
  clear cb hBx hBb hB13 hX
  refine wpT_nil ?_
  go_wp2_with (first
                | (with_reducible refine st_alloc ?_)
                | (go_at_call 11; (with_reducible refine (GT3 _ _ hb13 (hT.ext hM13)).mono ?_); rintro e w14 ⟨rfl, hm14⟩))
  refine StopOp.go rfl fun K hK => ?_
  refine wp_alloc zero_header ?_
  intro t14 w15 h151 h152 hm15 hB15
  simp only [put_some, List.set_cons_succ, List.set_cons_zero]
  refine hK _ _ ?_
  clear hK K
  go_wp2_with (with_reducible refine st_store ?_)
  refine StopOp.go rfl fun K hK => ?_
  refine wp_store (u := .agg #[.int .u64 0, .int .u64 0, .int .i64 0, .int .u32 0]) (by rfl) (by rfl) (by kernel_rfl) hB15 (by simp [Value.cells]) (by simp [Value.cells, Value.oneCell']) ?_
  intro w16 hm16 hB16
  refine hK _ _ ?_
  clear hK K
  have hm1316 : Mod [] w13 w16 := hm14.ext (hm15.fresh hm16 (by simpa using h151))
  have hX1 := hN13.ext hm1316
  have hX2 := hT13.ext hm1316
  have hX3 : Blk w16 t14 25 [.int .u64 0, .int .u64 0, .int .i64 0, .int .u32 0] := hB16
  have p0 := hX1.cell' (i := 0) rfl
  have p1 := hX1.cell' (i := 1) rfl
  have p2 := hX1.cell' (i := 2) rfl
  have p3 := hX1.cell' (i := 3) rfl
  have q0 := hX2.cell' (i := 0) rfl
  have q1 := hX2.cell' (i := 1) rfl
  have q2 := hX2.cell' (i := 2) rfl
  have q3 := hX2.cell' (i := 3) rfl
  have r0 := hX3.cell' (i := 0) rfl
  have r1 := hX3.cell' (i := 1) rfl
  have r2 := hX3.cell' (i := 2) rfl
  have r3 := hX3.cell' (i := 3) rfl
  go_wp2_with fail
  go_ret
  exact ⟨rfl, hM13.ext hm1316⟩
theorem slotsBack_core (H : Hd) (tl : List UInt8) (v : Value) (at_ : Int) (W : World) (hw : H.wf) (hv : Bs W v tl) (hl : tl.length ≤ 1048576) (ha : i64 at_) (hT : TabC W) :
    Calls Tryd.prog 5 #[H.v, v, .int .i64 at_] W fun e w' => e = .returned (.bool true) ∧ Mod [] W w' := by
  cases hm : mayH H with
  | false => exact slotsBack_no H tl v at_ W hw hm hT
  | true => exact slotsBack_yes H tl v at_ W hw hm hv hl ha hT
end Go.Proofs.YtminfegoldgjpaaDoor
