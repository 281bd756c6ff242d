import Derived.Test.YtboigcnpamldlaaDoorFrI
import Derived.Test.YtboigcnpamldlaaDoorApartB
/-! FrameSpoilt. -/
set_option linter.unusedVariables false
set_option linter.unusedSimpArgs false
set_option maxRecDepth 100000
namespace Go.Proofs.YtboigcnpamldlaaDoor
open Go.RowKit Gw

theorem take_spoilt {b : List UInt8} {k m : Nat} (y : UInt8) (t : List UInt8) (h : m ≤ k) (hb : m ≤ b.length) : (b.set k y ++ t).take m = b.take m := by
  rw [List.take_append_of_le_length (by rw [List.length_set]; exact hb), List.take_set_of_le h]
theorem nb_spoilt {b : List UInt8} {k p n : Nat} (y : UInt8) (t : List UInt8) (h : p + n ≤ k) (hb : p + n ≤ b.length) : nb (b.set k y ++ t) p n = nb b p n := by
  rw [← nb_take (b.set k y ++ t) p n (p + n) (Nat.le_refl _), take_spoilt y t h hb, nb_take _ _ _ _ (Nat.le_refl _)]
theorem errF_spoilt {b : List UInt8} {k : Nat} {x y : UInt8} (t : List UInt8) (h0 : errF b = 0) (hl : b.length = 22 + nb b 0 2) (h2 : 2 ≤ k) (hx : b[k]? = some x) (hxy : x ≠ y) : errF (b.set k y ++ t) = 81 := by
  obtain ⟨h3, h4, h5⟩ := errF_zero h0
  obtain ⟨hk, hxk⟩ := List.getElem?_eq_some_iff.1 hx
  have e0 : nb (b.set k y ++ t) 0 2 = nb b 0 2 := nb_spoilt y t (by omega) (by omega)
  have hlen : (b.set k y ++ t).length = b.length + t.length := by rw [List.length_append, List.length_set]
  obtain ⟨L, hL⟩ : ∃ L, L = nb b 0 2 := ⟨_, rfl⟩
  rw [← hL] at h3 h4 h5 e0 hl
  unfold errF
  rw [e0, hlen, if_neg (by omega), if_neg (by omega), if_neg (by omega), if_pos ?_]
  intro hc
  by_cases hk1 : k < 18 + L
  · have e1 : nb (b.set k y ++ t) (18 + L) 4 = nb b (18 + L) 4 := by
      unfold nb
      rw [List.drop_append_of_le_length (by rw [List.length_set]; omega), List.drop_set_of_lt hk1, List.take_append_of_le_length (by rw [List.length_drop]; omega)]
    rw [e1, h5] at hc
    have e2 : ∀ z : UInt8, (b.set k z).take (18 + L) = b.take k ++ z :: (b.drop (k + 1)).take (17 + L - k) := fun z => by
      rw [List.set_eq_take_append_cons_drop, if_pos hk, List.take_append, List.length_take, Nat.min_eq_left (by omega), List.take_of_length_le (by rw [List.length_take]; omega), show 18 + L - k = (17 + L - k) + 1 by omega, List.take_succ_cons]
    have e3 : (b.set k y ++ t).take (18 + L) = (b.set k y).take (18 + L) := List.take_append_of_le_length (by rw [List.length_set]; omega)
    have e4 : b.set k x = b := by rw [← hxk]; exact List.set_getElem_self hk
    have e5 := e2 x
    rw [e4] at e5
    rw [e3, e2 y, e5] at hc
    exact crcS_other _ _ _ _ hxy hc
  · rw [take_spoilt y t (by omega) (by omega), ← h5] at hc
    have a1 := nb_low (b.set k y ++ t) (18 + L) 4 (by omega)
    have a2 := nb_low b (18 + L) 4 (by omega)
    rw [hc, a2] at a1
    have a3 := congrArg (fun z : List UInt8 => z[k - (18 + L)]?) a1
    rw [List.getElem?_take_of_lt (by omega), List.getElem?_take_of_lt (by omega), List.getElem?_drop, List.getElem?_drop, show 18 + L + (k - (18 + L)) = k by omega, hx, List.getElem?_append_left (by rw [List.length_set]; exact hk), List.getElem?_set_self hk] at a3
    exact hxy (by simpa using a3)
theorem bits_xor_u8 (a b : Nat) (ha : a < 256) (hb : b < 256) : bits .xor .u8 (a : Int) (b : Int) = ((a ^^^ b : Nat) : Int) := by
  have ha' : a % 2 ^ IntKind.u8.bits = a := Nat.mod_eq_of_lt ha
  have hb' : b % 2 ^ IntKind.u8.bits = b := Nat.mod_eq_of_lt hb
  have hx := Nat.xor_lt_two_pow (n := 8) ha hb
  simp only [bits, BitVec.ofInt_natCast, BitVec.toNat_xor, BitVec.toNat_ofNat, ha', hb']
  rw [IntKind.wrap_u8]
  omega
theorem xor_self_ne {x c : Nat} (hc : c ≠ 0) : x ^^^ c ≠ x := fun h => hc (xor_can' (c := x) (by rw [h, Nat.xor_zero]))
set_option maxRecDepth 1000000 in
set_option maxHeartbeats 4000000 in
theorem spoilt_long (f : Fv) (v : Value) (a c : Int) (W : World) (hv : Bs W v f.l) (hl : 32 < f.l.length) (hl2 : f.l.length ≤ 1048576) (he : f.e < 18446744073709551616) (hs : f.s < 18446744073709551616) (hT : TabC W) :
    Calls Tryd.prog 8 #[f.v v, .int .i64 a, .int .u8 c] W fun e w' => e = .returned (.bool true) ∧ Mod [] W w' := by
  have AW := fun w h => frawake_any w h
  have PU := fun w v h hT => fput_any f.e f.s f.l v w h he hs hT
  unfold PutF at PU
  rw [if_pos hl, if_pos hl] at PU
  obtain ⟨e, s, l⟩ := f
  obtain ⟨ao, cap, rfl, _, _⟩ := hv.form
  unfold Fv.v at *
  dsimp only at *
  go_enter Tryd.func8, Tryd.ntmps8
  go_wp2_with (with_reducible refine st_box ?_)
  refine StopOp.go rfl fun K hK => ?_
  refine wp_box (v := .agg #[.int .u64 (e : Nat), .int .u64 (s : Nat), .slice ao l.length cap]) (by rfl) ?_
  intro g w1 hg1 hg2 hm1 hB1
  simp only [put_some, List.set_cons_succ, List.set_cons_zero]
  refine hK _ _ ?_
  clear hK K
  have hG1 : Blk w1 g 25 [.int .u64 (e : Nat), .int .u64 (s : Nat), .slice ao l.length cap] := hB1
  have hT1 := hT.ext hm1
  go_wp2_with (first
                | (with_reducible refine st_alloc ?_)
                | (go_at_call 10; (with_reducible refine (AW _ hT1).mono ?_); rintro e w2 ⟨rfl, hm2⟩; have hG2 := hG1.ext hm2; have x0 := hG2.cell' (i := 0) rfl; have x1 := hG2.cell' (i := 1) rfl; have x2 := hG2.cell' (i := 2) rfl; have hv2 := (hv.ext hm1).ext hm2; have hT2 := hT1.ext hm2)
                | (go_at_call 12; refine (PU _ _ hv2 hT2).mono ?_; rintro e w6 ⟨v6, rfl, ho6, hn6, hm6⟩; obtain ⟨ao6, cap6, rfl, _, _⟩ := ho6.sl.form; have hG6 := hG2.ext hm6; have y2 := hG6.cell' (i := 2) rfl))
  go_ret
  exact ⟨congrArg (fun b => Ending.returned (.bool b)) (decide_eq_true (by omega)), (hm1.ext hm2).ext hm6⟩
set_option maxRecDepth 1000000 in
set_option maxHeartbeats 4000000 in
theorem spoiltG_any (b : List UInt8) (v : Value) (w : World) (hb : Bs w v b) (hl : b.length ≤ 1048576) (hE : errF b = 81) (hT : TabC w) :
    Calls Tryd.prog 20 #[v] w fun e w' => ∃ ao cap, e = .returned (.tuple #[.agg #[.int .u64 0, .int .u64 0, .slice ao 0 cap], .int .i64 0, .int .i64 81]) ∧ Ob w' (.slice ao 0 cap) [] ∧ Mod [] w w' :=
  (fget_any b v w hb (by omega) hT).mono fun e w' ⟨v', h1, h2, _, h4⟩ => by
    have g2 : getF b = fz := if_neg (by rw [hE]; decide)
    have g3 : numF b = 0 := if_neg (by rw [hE]; decide)
    rw [g2] at h1 h2
    rw [hE, g3] at h1
    obtain ⟨ao, cap, rfl, _, _⟩ := Ob.nx (n := 0) h2 rfl
    exact ⟨ao, cap, h1, h2, h4⟩
set_option maxRecDepth 1000000 in
set_option maxHeartbeats 4000000 in
theorem spoilt_0 (f : Fv) (v : Value) (a : Int) (W : World) (hv : Bs W v f.l) (hl : f.l.length ≤ 32) (he : f.e < 18446744073709551616) (hs : f.s < 18446744073709551616) (ha1 : -9223372036854775808 ≤ a) (ha2 : a ≤ 9223372036854775807) (hT : TabC W) :
    Calls Tryd.prog 8 #[f.v v, .int .i64 a, .int .u8 0] W fun e w' => e = .returned (.bool true) ∧ Mod [] W w' := by
  have AW := fun w h => frawake_any w h
  have PU := fun w v h hT => fput_any f.e f.s f.l v w h he hs hT
  have GB := spoiltG_any
  unfold PutF at PU
  rw [if_neg (by omega), if_neg (by omega)] at PU
  have hgo := getF_of he hs hl []
  rw [List.append_nil] at hgo
  obtain ⟨hE0, _, hN0⟩ := hgo
  have hRl := frame_len f.e f.s f.l
  have SF := fun w va vb h1 h2 => sameF_yes fz va vb w h1 h2
  unfold fz Fv.v at SF
  dsimp only at SF
  obtain ⟨R, hR⟩ : ∃ R, R = frame f.e f.s f.l := ⟨_, rfl⟩
  rw [← hR] at PU hE0 hN0 hRl
  clear hR
  obtain ⟨e, s, l⟩ := f
  obtain ⟨ao, cap, rfl, _, _⟩ := hv.form
  unfold Fv.v
  dsimp only at *
  obtain ⟨N, hN⟩ : ∃ N, N = 22 + l.length := ⟨_, rfl⟩
  rw [← hN] at hRl
  have hNb : R.length = 22 + nb R 0 2 := by rw [hN0, hRl, hN]
  have hN1 : 22 ≤ (N : Int) := by omega
  have hN2 : (N : Int) ≤ 54 := by omega
  have pg := pick_ge a ((N : Int) - 2)
  have pl := pick_lt a ((N : Int) - 2) (by omega)
  have PK := fun w => pick_any a ((N : Int) - 2) w ha1 ha2 (by omega) (by omega)
  obtain ⟨K, hK⟩ : ∃ K : Nat, (K : Int) = pick a ((N : Int) - 2) := ⟨_, Int.toNat_of_nonneg pg⟩
  rw [← hK] at pg pl PK
  clear hK
  have hK2 : 2 + K < R.length := by omega
  obtain ⟨x, hx⟩ : ∃ x, R[2 + K]? = some x := ⟨_, List.getElem?_eq_getElem hK2⟩
  have hX := bits_xor_u8 x.toNat 1 x.toNat_lt (by decide)
  obtain ⟨y, hy⟩ : ∃ y, y = UInt8.ofNat (x.toNat ^^^ 1) := ⟨_, rfl⟩
  have hyn : y.toNat = x.toNat ^^^ 1 := by rw [hy, UInt8.toNat_ofNat']; exact Nat.mod_eq_of_lt (Nat.xor_lt_two_pow (n := 8) x.toNat_lt (by decide))
  rw [← hyn] at hX
  have hxy : x ≠ y := fun h => xor_self_ne (x := x.toNat) (c := 1) (by decide) (by rw [← hyn, ← h])
  have HY := Lib.hid (errF_spoilt [1, 2, 3] hE0 hNb (by omega) hx hxy)
  have HN := Lib.hid hN
  have HR := Lib.hid hRl
  have HX := Lib.hid hx
  clear hy hyn hxy hE0 hN0 hNb hN hx hK2 hRl
  go_enter Tryd.func8, Tryd.ntmps8
  go_wp2_with (with_reducible refine st_box ?_)
  refine StopOp.go rfl fun K hK => ?_
  refine wp_box (v := .agg #[.int .u64 (e : Nat), .int .u64 (s : Nat), .slice ao l.length cap]) (by rfl) ?_
  intro g w1 hg1 hg2 hm1 hB1
  simp only [put_some, List.set_cons_succ, List.set_cons_zero]
  refine hK _ _ ?_
  clear hK K
  have hG1 : Blk w1 g 25 [.int .u64 (e : Nat), .int .u64 (s : Nat), .slice ao l.length cap] := hB1
  have hT1 := hT.ext hm1
  go_wp2_with (first
                | (with_reducible refine st_alloc ?_)
                | (with_reducible refine st_store ?_)
                | (go_at_call 10; (with_reducible refine (AW _ hT1).mono ?_); rintro e w2 ⟨rfl, hm2⟩; have hG2 := hG1.ext hm2; have x0 := hG2.cell' (i := 0) rfl; have x1 := hG2.cell' (i := 1) rfl; have x2 := hG2.cell' (i := 2) rfl; have hv2 := (hv.ext hm1).ext hm2; have hT2 := hT1.ext hm2)
                | (go_at_call 12; refine (PU _ _ hv2 hT2).mono ?_; rintro e w6 ⟨v6, rfl, ho6, hn6, hm6⟩; obtain ⟨ao6, cap6, rfl, hcp6, _⟩ := Ob.nx ho6 HR.out; obtain ⟨g6, rest, rfl, hB6, _, hc6, hc6b⟩ := Ob.blk ho6 (by omega); have hbx := hB6.cell' (i := 2 + K) (u := .int .u8 (x.toNat : Nat)) (by rw [List.getElem?_append_left (by rw [bv_length]; exact (List.getElem?_eq_some_iff.1 HX.out).1)]; simp [bv, HX.out]))
                | (go_at_call 32; (with_reducible refine (PK _).mono ?_); rintro e w7 ⟨rfl, rfl⟩))
  refine StopOp.go rfl fun K hK => ?_
  refine wp_store1 (by kernel_rfl) (by rfl) (u := .int .u8 (y.toNat : Nat)) (by first | rfl | exact congrArg (Value.int .u8) hX) ⟨rfl, rfl⟩ hB6 (by rw [List.length_append, bv_length]; have := HR.out; omega) ?_
  intro w8 hm8 hB8
  refine hK _ _ ?_
  clear hK K
  rw [bv_set _ _ _ _ (by have := HR.out; omega)] at hB8
  have hm28 : Mod [] w2 w8 := hm6.fresh hm8 (by simpa using hn6 g6 (by simp [blks]))
  have hT8 := hT2.ext hm28
  go_wp2_with (with_reducible refine st_bslice ?_)
  refine StopOp.go rfl fun K hK => ?_
  refine wp_bslice stB [.int .u8 1, .int .u8 2, .int .u8 3] rfl (by decide) (by rfl) (by simp [Value.cells]) ?_
  intro p w9 hp1 hp2 hm9 hB9
  simp only [put_some, List.set_cons_succ, List.set_cons_zero]
  refine hK _ _ ?_
  clear hK K
  have hS9 : Sl w9 1 (.slice (some ⟨p, 0, none⟩) 3 3) 3 [.int .u8 1, .int .u8 2, .int .u8 3] := (Ow.of_blk (rest := []) hB9 (Nat.le_refl _) (by omega) rfl rfl : Ow w9 5 1 (.slice (some ⟨p, 0, none⟩) 3 3) 3 [.int .u8 1, .int .u8 2, .int .u8 3]).sl
  have hO9 : Ow w9 5 1 (.slice (some ⟨g6, 0, none⟩) N cap6) N (bv (R.set (2 + K) y)) := Ow.of_blk (rest := rest) (hB8.ext hm9) (by omega) (by omega) (by rw [List.length_append, bv_length, List.length_set]; rw [List.length_append, bv_length] at hc6; omega) (by rw [bv_length, List.length_set]; have := HR.out; omega)
  go_wp2_with (with_reducible refine st_append ?_)
  refine StopOp.go rfl fun K hK => ?_
  refine wp_append_ow stB (by rfl) (by rfl) hO9 hS9 (by simp [Value.oneCell']) (by omega) (by omega) ?_
  intro v10 w10 hv10 hm10 hb10
  simp only [put_some, List.set_cons_succ, List.set_cons_zero]
  refine hK _ _ ?_
  clear hK K
  have hO10 : Ob w10 v10 (R.set (2 + K) y ++ [1, 2, 3]) := Ob.of_onx (n := N + 3) (by unfold bv; rw [List.map_append]; exact hv10) (by rw [List.length_append, List.length_set, HR.out]; rfl)
  have hm2a : Mod [] w2 w10 := (hm28.ext hm9).fresh hm10 (fun k hk => hn6 k hk)
  have hT10 := hT2.ext hm2a
  have hLn : (R.set (2 + K) y ++ [1, 2, 3]).length ≤ 1048576 := by rw [List.length_append, List.length_set, HR.out]; simp; omega
  have hBs := hO10.bs
  obtain ⟨Z, hZ⟩ : ∃ Z, Z = R.set (2 + K) y ++ [1, 2, 3] := ⟨_, rfl⟩
  have hE := HY.out
  rw [← hZ] at hBs hLn hE
  obtain ⟨ao10, cap10, rfl, _, _⟩ := hv10.sl.form
  clear hZ hO10 HY hv10 hb10 hO9 hS9 hB9 hX
  go_wp2_with (first
                | (with_reducible refine st_alloc ?_)
                | (go_at_call 20; refine (GB _ _ _ hBs hLn hE hT10).mono ?_; rintro e w11 ⟨aog, capg, rfl, hog, hm11⟩))
  refine StopOp.go rfl fun K hK => ?_
  refine wp_alloc zero_frame ?_
  intro h w12 hh1 hh2 hm12 hB12
  simp only [put_some, List.set_cons_succ, List.set_cons_zero]
  refine hK _ _ ?_
  clear hK K
  go_wp2_with (with_reducible refine st_store ?_)
  refine StopOp.go rfl fun K hK => ?_
  refine wp_store (u := .agg #[.int .u64 0, .int .u64 0, .slice aog 0 capg]) (by rfl) (by rfl) (by kernel_rfl) hB12 (by simp [Value.cells]) (by simp [Value.cells, Value.oneCell']) ?_
  intro w13 hm13 hB13
  refine hK _ _ ?_
  clear hK K
  have hH13 : Blk w13 h 25 [.int .u64 0, .int .u64 0, .slice aog 0 capg] := hB13
  have hm1d : Mod [] w11 w13 := hm12.fresh hm13 (by simpa using hh1)
  have hg13 := (hog.ext hm1d).bs
  have hz13 := (Ob.nil w13).bs
  have z0 := hH13.cell' (i := 0) rfl
  have z1 := hH13.cell' (i := 1) rfl
  have z2 := hH13.cell' (i := 2) rfl
  go_wp2_with (go_at_call 24; refine (SF _ _ _ hg13 hz13).mono ?_; rintro e w14 ⟨rfl, hm14⟩)
  go_ret
  exact ⟨rfl, (((((hm1.ext hm2).ext hm2a).ext hm11).ext hm1d).ext hm14)⟩
set_option maxRecDepth 1000000 in
set_option maxHeartbeats 4000000 in
theorem spoilt_c (f : Fv) (v : Value) (a : Int) (c : Nat) (hc0 : c ≠ 0) (hc : c < 256) (W : World) (hv : Bs W v f.l) (hl : f.l.length ≤ 32) (he : f.e < 18446744073709551616) (hs : f.s < 18446744073709551616) (ha1 : -9223372036854775808 ≤ a) (ha2 : a ≤ 9223372036854775807) (hT : TabC W) :
    Calls Tryd.prog 8 #[f.v v, .int .i64 a, .int .u8 (c : Nat)] W fun e w' => e = .returned (.bool true) ∧ Mod [] W w' := by
  have AW := fun w h => frawake_any w h
  have PU := fun w v h hT => fput_any f.e f.s f.l v w h he hs hT
  have GB := spoiltG_any
  unfold PutF at PU
  rw [if_neg (by omega), if_neg (by omega)] at PU
  have hgo := getF_of he hs hl []
  rw [List.append_nil] at hgo
  obtain ⟨hE0, _, hN0⟩ := hgo
  have hRl := frame_len f.e f.s f.l
  have SF := fun w va vb h1 h2 => sameF_yes fz va vb w h1 h2
  unfold fz Fv.v at SF
  dsimp only at SF
  obtain ⟨R, hR⟩ : ∃ R, R = frame f.e f.s f.l := ⟨_, rfl⟩
  rw [← hR] at PU hE0 hN0 hRl
  clear hR
  obtain ⟨e, s, l⟩ := f
  obtain ⟨ao, cap, rfl, _, _⟩ := hv.form
  unfold Fv.v
  dsimp only at *
  obtain ⟨N, hN⟩ : ∃ N, N = 22 + l.length := ⟨_, rfl⟩
  rw [← hN] at hRl
  have hNb : R.length = 22 + nb R 0 2 := by rw [hN0, hRl, hN]
  have hN1 : 22 ≤ (N : Int) := by omega
  have hN2 : (N : Int) ≤ 54 := by omega
  have pg := pick_ge a ((N : Int) - 2)
  have pl := pick_lt a ((N : Int) - 2) (by omega)
  have PK := fun w => pick_any a ((N : Int) - 2) w ha1 ha2 (by omega) (by omega)
  obtain ⟨K, hK⟩ : ∃ K : Nat, (K : Int) = pick a ((N : Int) - 2) := ⟨_, Int.toNat_of_nonneg pg⟩
  rw [← hK] at pg pl PK
  clear hK
  have hK2 : 2 + K < R.length := by omega
  obtain ⟨x, hx⟩ : ∃ x, R[2 + K]? = some x := ⟨_, List.getElem?_eq_getElem hK2⟩
  have hX := bits_xor_u8 x.toNat c x.toNat_lt hc
  obtain ⟨y, hy⟩ : ∃ y, y = UInt8.ofNat (x.toNat ^^^ c) := ⟨_, rfl⟩
  have hyn : y.toNat = x.toNat ^^^ c := by rw [hy, UInt8.toNat_ofNat']; exact Nat.mod_eq_of_lt (Nat.xor_lt_two_pow (n := 8) x.toNat_lt hc)
  rw [← hyn] at hX
  have hcz : (c : Int) ≠ 0 := by omega
  have hxy : x ≠ y := fun h => xor_self_ne (x := x.toNat) (c := c) hc0 (by rw [← hyn, ← h])
  have HY := Lib.hid (errF_spoilt [1, 2, 3] hE0 hNb (by omega) hx hxy)
  have HN := Lib.hid hN
  have HR := Lib.hid hRl
  have HX := Lib.hid hx
  clear hy hyn hxy hE0 hN0 hNb hN hx hK2 hRl
  go_enter Tryd.func8, Tryd.ntmps8
  go_wp2_with (with_reducible refine st_box ?_)
  refine StopOp.go rfl fun K hK => ?_
  refine wp_box (v := .agg #[.int .u64 (e : Nat), .int .u64 (s : Nat), .slice ao l.length cap]) (by rfl) ?_
  intro g w1 hg1 hg2 hm1 hB1
  simp only [put_some, List.set_cons_succ, List.set_cons_zero]
  refine hK _ _ ?_
  clear hK K
  have hG1 : Blk w1 g 25 [.int .u64 (e : Nat), .int .u64 (s : Nat), .slice ao l.length cap] := hB1
  have hT1 := hT.ext hm1
  go_wp2_with (first
                | (with_reducible refine st_alloc ?_)
                | (with_reducible refine st_store ?_)
                | (go_at_call 10; (with_reducible refine (AW _ hT1).mono ?_); rintro e w2 ⟨rfl, hm2⟩; have hG2 := hG1.ext hm2; have x0 := hG2.cell' (i := 0) rfl; have x1 := hG2.cell' (i := 1) rfl; have x2 := hG2.cell' (i := 2) rfl; have hv2 := (hv.ext hm1).ext hm2; have hT2 := hT1.ext hm2)
                | (go_at_call 12; refine (PU _ _ hv2 hT2).mono ?_; rintro e w6 ⟨v6, rfl, ho6, hn6, hm6⟩; obtain ⟨ao6, cap6, rfl, hcp6, _⟩ := Ob.nx ho6 HR.out; obtain ⟨g6, rest, rfl, hB6, _, hc6, hc6b⟩ := Ob.blk ho6 (by omega); have hbx := hB6.cell' (i := 2 + K) (u := .int .u8 (x.toNat : Nat)) (by rw [List.getElem?_append_left (by rw [bv_length]; exact (List.getElem?_eq_some_iff.1 HX.out).1)]; simp [bv, HX.out]))
                | (go_at_call 32; (with_reducible refine (PK _).mono ?_); rintro e w7 ⟨rfl, rfl⟩))
  refine StopOp.go rfl fun K hK => ?_
  refine wp_store1 (by kernel_rfl) (by rfl) (u := .int .u8 (y.toNat : Nat)) (by first | rfl | exact congrArg (Value.int .u8) hX) ⟨rfl, rfl⟩ hB6 (by rw [List.length_append, bv_length]; have := HR.out; omega) ?_
  intro w8 hm8 hB8
  refine hK _ _ ?_
  clear hK K
  rw [bv_set _ _ _ _ (by have := HR.out; omega)] at hB8
  have hm28 : Mod [] w2 w8 := hm6.fresh hm8 (by simpa using hn6 g6 (by simp [blks]))
  have hT8 := hT2.ext hm28
  go_wp2_with (with_reducible refine st_bslice ?_)
  refine StopOp.go rfl fun K hK => ?_
  refine wp_bslice stB [.int .u8 1, .int .u8 2, .int .u8 3] rfl (by decide) (by rfl) (by simp [Value.cells]) ?_
  intro p w9 hp1 hp2 hm9 hB9
  simp only [put_some, List.set_cons_succ, List.set_cons_zero]
  refine hK _ _ ?_
  clear hK K
  have hS9 : Sl w9 1 (.slice (some ⟨p, 0, none⟩) 3 3) 3 [.int .u8 1, .int .u8 2, .int .u8 3] := (Ow.of_blk (rest := []) hB9 (Nat.le_refl _) (by omega) rfl rfl : Ow w9 5 1 (.slice (some ⟨p, 0, none⟩) 3 3) 3 [.int .u8 1, .int .u8 2, .int .u8 3]).sl
  have hO9 : Ow w9 5 1 (.slice (some ⟨g6, 0, none⟩) N cap6) N (bv (R.set (2 + K) y)) := Ow.of_blk (rest := rest) (hB8.ext hm9) (by omega) (by omega) (by rw [List.length_append, bv_length, List.length_set]; rw [List.length_append, bv_length] at hc6; omega) (by rw [bv_length, List.length_set]; have := HR.out; omega)
  go_wp2_with (with_reducible refine st_append ?_)
  refine StopOp.go rfl fun K hK => ?_
  refine wp_append_ow stB (by rfl) (by rfl) hO9 hS9 (by simp [Value.oneCell']) (by omega) (by omega) ?_
  intro v10 w10 hv10 hm10 hb10
  simp only [put_some, List.set_cons_succ, List.set_cons_zero]
  refine hK _ _ ?_
  clear hK K
  have hO10 : Ob w10 v10 (R.set (2 + K) y ++ [1, 2, 3]) := Ob.of_onx (n := N + 3) (by unfold bv; rw [List.map_append]; exact hv10) (by rw [List.length_append, List.length_set, HR.out]; rfl)
  have hm2a : Mod [] w2 w10 := (hm28.ext hm9).fresh hm10 (fun k hk => hn6 k hk)
  have hT10 := hT2.ext hm2a
  have hLn : (R.set (2 + K) y ++ [1, 2, 3]).length ≤ 1048576 := by rw [List.length_append, List.length_set, HR.out]; simp; omega
  have hBs := hO10.bs
  obtain ⟨Z, hZ⟩ : ∃ Z, Z = R.set (2 + K) y ++ [1, 2, 3] := ⟨_, rfl⟩
  have hE := HY.out
  rw [← hZ] at hBs hLn hE
  obtain ⟨ao10, cap10, rfl, _, _⟩ := hv10.sl.form
  clear hZ hO10 HY hv10 hb10 hO9 hS9 hB9 hX
  go_wp2_with (first
                | (with_reducible refine st_alloc ?_)
                | (go_at_call 20; refine (GB _ _ _ hBs hLn hE hT10).mono ?_; rintro e w11 ⟨aog, capg, rfl, hog, hm11⟩))
  refine StopOp.go rfl fun K hK => ?_
  refine wp_alloc zero_frame ?_
  intro h w12 hh1 hh2 hm12 hB12
  simp only [put_some, List.set_cons_succ, List.set_cons_zero]
  refine hK _ _ ?_
  clear hK K
  go_wp2_with (with_reducible refine st_store ?_)
  refine StopOp.go rfl fun K hK => ?_
  refine wp_store (u := .agg #[.int .u64 0, .int .u64 0, .slice aog 0 capg]) (by rfl) (by rfl) (by kernel_rfl) hB12 (by simp [Value.cells]) (by simp [Value.cells, Value.oneCell']) ?_
  intro w13 hm13 hB13
  refine hK _ _ ?_
  clear hK K
  have hH13 : Blk w13 h 25 [.int .u64 0, .int .u64 0, .slice aog 0 capg] := hB13
  have hm1d : Mod [] w11 w13 := hm12.fresh hm13 (by simpa using hh1)
  have hg13 := (hog.ext hm1d).bs
  have hz13 := (Ob.nil w13).bs
  have z0 := hH13.cell' (i := 0) rfl
  have z1 := hH13.cell' (i := 1) rfl
  have z2 := hH13.cell' (i := 2) rfl
  go_wp2_with (go_at_call 24; refine (SF _ _ _ hg13 hz13).mono ?_; rintro e w14 ⟨rfl, hm14⟩)
  go_ret
  exact ⟨rfl, (((((hm1.ext hm2).ext hm2a).ext hm11).ext hm1d).ext hm14)⟩
theorem spoilt_core (f : Fv) (v : Value) (a c : Int) (W : World) (hv : Bs W v f.l) (hl2 : f.l.length ≤ 1048576) (he : f.e < 18446744073709551616) (hs : f.s < 18446744073709551616) (ha1 : -9223372036854775808 ≤ a) (ha2 : a ≤ 9223372036854775807) (hc1 : 0 ≤ c) (hc2 : c ≤ 255) (hT : TabC W) :
    Calls Tryd.prog 8 #[f.v v, .int .i64 a, .int .u8 c] W fun e w' => e = .returned (.bool true) ∧ Mod [] W w' := by
  by_cases hl : 32 < f.l.length
  · exact spoilt_long f v a c W hv hl hl2 he hs hT
  · by_cases h0 : c = 0
    · subst h0
      exact spoilt_0 f v a W hv (by omega) he hs ha1 ha2 hT
    · have h := spoilt_c f v a c.toNat (by omega) (by omega) W hv (by omega) he hs ha1 ha2 hT
      rwa [Int.toNat_of_nonneg hc1] at h
end Go.Proofs.YtboigcnpamldlaaDoor
