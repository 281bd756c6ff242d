import Derived.Test.YtfcoaiggpcjldaaDoorRpE
/-! Replies: the reference's put, Put. -/
set_option linter.unusedVariables false
set_option linter.unusedSimpArgs false
set_option maxRecDepth 100000
namespace Go.Proofs.YtfcoaiggpcjldaaDoor
open Go.RowKit Gw

theorem zero_pow_u64 (N j : Nat) (h : N < 18446744073709551616) : N / 256 ^ j < 18446744073709551616 := Nat.lt_of_le_of_lt (Nat.div_le_self _ _) h
set_option maxHeartbeats 1000000 in
theorem rput_loop (xs : List UInt8) (ao0 : Option Addr) (cap0 : Nat) (N k : Nat) (w : World) (hv : Ob w (.slice ao0 xs.length cap0) xs) (hk : k ≤ 8) (hN : N < 18446744073709551616) (hx : xs.length ≤ 1000) :
    Calls Tryd.prog 28 #[.slice ao0 xs.length cap0, .int .u64 N, .int .i64 k] w fun e w' => ∃ v, e = .returned v ∧ Ob w' v (xs ++ low N k) ∧ (∀ y ∈ blks v, y ∈ blks (.slice ao0 xs.length cap0) ∨ w.heap.size ≤ y) ∧ Mod (blks (.slice ao0 xs.length cap0)) w w' := by
  go_enter Tryd.func28, Tryd.ntmps28
  go_wp2_with fail
  go_loopw [0, 1, 7] (fun out n i wr => ∃ (j M : Nat) (ao : Option Addr) (cap : Nat), j ≤ k ∧ n = .int .u64 M ∧ RowKit.Hid (M = N / 256 ^ j) ∧ M < 18446744073709551616 ∧ out = .slice ao (xs.length + j) cap ∧ i = .int .i64 j ∧ Mod (blks (.slice ao0 xs.length cap0)) w wr ∧ Ow wr 5 1 (.slice ao (xs.length + j) cap) (xs.length + j) (bv (xs ++ low N j)) ∧ ∀ y ∈ blks (.slice ao (xs.length + j) cap), y ∈ blks (.slice ao0 xs.length cap0) ∨ w.heap.size ≤ y) (fun _ _ i _ => k - (intOf i).toNat)
  case atStart => exact ⟨0, N, ao0, cap0, by omega, rfl, Lib.hid (by simp), hN, rfl, rfl, Mod.refl _ _, by rw [show low N 0 = [] by rfl, List.append_nil]; exact hv, fun y hy => .inl hy⟩
  case round =>
    obtain ⟨j, M, ao, cap, hj, rfl, hM, hM2, rfl, rfl, hmr, hor, hnr⟩ := hrel
    by_cases hlt : j < k
    · have y0 : (j : Int) < k := by omega
      have y1 : (M : Int) ≤ 18446744073709551615 := by omega
      have y2 : (0 : Int) ≤ (M : Int) := by omega
      have y3 : (M : Int) % 256 = ((UInt8.ofNat M).toNat : Int) := by rw [UInt8.toNat_ofNat']; omega
      have Y3 := Lib.hid y3
      clear y3
      go_wp2_with (with_reducible refine st_bslice ?_)
      refine StopOp.go rfl fun K hK => ?_
      refine wp_bslice stB [.int .u8 ((M : Int) % 256)] rfl (by decide) (by rfl) (by simp [Value.cells]) ?_
      intro c w4 hc1 hc2 hm4 hB4
      simp only [put_some, List.set_cons_succ, List.set_cons_zero]
      refine hK _ _ ?_
      clear hK K
      simp only [Y3.out] at hB4
      have hb4 : Bs w4 (.slice (some ⟨c, 0, none⟩) 1 1) [UInt8.ofNat M] := Bs.of_blk (l := [UInt8.ofNat M]) (rest := []) hB4 (by simp) (by omega)
      have hor4 := hor.ext hm4
      go_wp2_with (with_reducible refine st_append ?_)
      refine StopOp.go rfl fun K hK => ?_
      refine wp_append_ow stB (by rfl) (by rfl) hor4 hb4 (bv_one _) (by simp; omega) (by simp; omega) ?_
      intro v5 w5 ho5 hm5 hb5
      simp only [put_some, List.set_cons_succ, List.set_cons_zero]
      refine hK _ _ ?_
      clear hK K
      rw [List.length_singleton, Nat.add_assoc] at ho5
      obtain ⟨ao5, cap5, rfl, _, _⟩ := ho5.sl.form
      have s4 := hm4.size
      have sr := hmr.size
      go_wp2_with fail
      go_roundw
      case rel =>
        refine ⟨j + 1, M / 256, ao5, cap5, by omega, by go_num, Lib.hid (by rw [hM.out, Nat.div_div_eq_div_mul, Nat.pow_succ]), by omega, rfl, by go_num, (hmr.ext hm4).then hm5 hnr, ?_, fun y hy => (hb5 y hy).elim (hnr y) fun h => .inr (by omega)⟩
        rw [low_succ, ← List.append_assoc, bv_append, ← hM.out]
        exact ho5
      case measure => simp [intOf]; omega
    · obtain rfl : j = k := by omega
      go_wp2_with fail
      go_ret
      refine ⟨_, rfl, ?_, hnr, hmr⟩
      unfold Ob
      rw [List.length_append, low_length]
      exact hor
theorem rrput_any (xs : List UInt8) (ao0 : Option Addr) (cap0 : Nat) (n k' : Int) (k : Nat) (w0 w : World) (hk' : k' = k) (hv : Ob w (.slice ao0 xs.length cap0) xs) (hn : New w0 (.slice ao0 xs.length cap0)) (hM : Mod [] w0 w) (hk : k ≤ 8) (h0 : 0 ≤ n) (hN : n ≤ 18446744073709551615) (hx : xs.length ≤ 1000) :
    Calls Tryd.prog 28 #[.slice ao0 xs.length cap0, .int .u64 n, .int .i64 k'] w fun e w' => ∃ ao cap, e = .returned (.slice ao (xs ++ low n.toNat k).length cap) ∧ Ob w' (.slice ao (xs ++ low n.toNat k).length cap) (xs ++ low n.toNat k) ∧ New w0 (.slice ao (xs ++ low n.toNat k).length cap) ∧ Mod [] w0 w' ∧ Mod (blks (.slice ao0 xs.length cap0)) w w' := by
  subst hk'
  obtain ⟨N, rfl⟩ := Int.eq_ofNat_of_zero_le h0
  refine (rput_loop xs ao0 cap0 N k w hv hk (by omega) hx).mono fun e w' ⟨v, h1, h2, h3, h4⟩ => ?_
  obtain ⟨ao, cap, rfl, _, _⟩ := h2.bs.form
  exact ⟨ao, cap, h1, h2, fun y hy => (h3 y hy).elim (hn y) fun h => Nat.le_trans hM.size h, hM.fresh h4 hn, h4⟩
theorem rlen (r : Rp) : (rbytes r).length ≤ 30 := by
  unfold rbytes rhead
  have q1 := if_len (hI r.kind r.err) (low r.id.toNat 4)
  have q2 := if_len (hS r.kind r.err) (low r.seat.toNat 2)
  have q3 := if_len (hU r.kind r.err) (low r.till.toNat 8)
  have q4 := if_len (hC r.kind r.err) (low r.count.toNat 2)
  simp only [List.length_append, low_length] at *
  omega
/-- the bytes so far, in slot 6 -/
def P6 (w : World) (g p : Nat) (cs ds : List Value) (X : List UInt8) (v : Value) (wx : World) : Prop :=
  ∃ ao cap, v = .slice ao X.length cap ∧ Ob wx (.slice ao X.length cap) X ∧ New w (.slice ao X.length cap) ∧ Mod [] w wx ∧ Blk wx g 26 cs ∧ Blk wx p 53 ds

set_option maxRecDepth 1000000 in
set_option maxHeartbeats 8000000 in
theorem rrefPut_any (r : Rp) (hr : r.ok) (w : World) : Calls Tryd.prog 9 #[r.v] w (PutR r w) := by
  by_cases hmay : MayR r
  · have hck := chkR_yes hmay
    have hmb : mayR r = true := decide_eq_true hmay
    obtain ⟨p1, p2, p3, p4, p5, p6, p7, p8, p9⟩ := mayR_parts hmay
    unfold PutR
    rw [hck, hmb, if_pos rfl]
    have E := fun w => rrefCheck_any r w
    rw [hck] at E
    obtain ⟨BR, hBR⟩ : ∃ B, B = rbytes r := ⟨_, rfl⟩
    rw [← hBR]
    unfold rbytes at hBR
    obtain ⟨X0, hX0⟩ : ∃ X, X = rhead r := ⟨_, rfl⟩
    rw [← hX0] at hBR
    have hX0l : X0.length ≤ 100 := by rw [hX0]; unfold rhead; simp [low_length]
    unfold rhead at hX0
    have FL := fun w => refFields_any r.kind w
    unfold FldQ at FL
    obtain ⟨t1, t2, _, _, _, _, i1, i2, _, _, _, l2, _, _⟩ := hr
    obtain ⟨tag, kind, err, id, seat, till, count⟩ := r
    dsimp only [Rp.v] at *
    have HBR := Lib.hid hBR
    have HX0 := Lib.hid hX0
    obtain ⟨fI, hfI⟩ : ∃ b, b = hI kind 0 := ⟨_, rfl⟩
    obtain ⟨fS, hfS⟩ : ∃ b, b = hS kind 0 := ⟨_, rfl⟩
    obtain ⟨fU, hfU⟩ : ∃ b, b = hU kind 0 := ⟨_, rfl⟩
    obtain ⟨fC, hfC⟩ : ∃ b, b = hC kind 0 := ⟨_, rfl⟩
    rw [← hfI, ← hfS, ← hfU, ← hfC] at FL
    have hF0 : err = 0 → BR = X0 ++ (if fI = true then low id.toNat 4 else []) ++ (if fS = true then low seat.toNat 2 else []) ++ (if fU = true then low till.toNat 8 else []) ++ (if fC = true then low count.toNat 2 else []) := fun h => by
      subst h
      rw [hBR, hfI, hfS, hfU, hfC]
    have hF1 : err ≠ 0 → BR = X0 := fun h => by
      have b1 : hI kind err = false := decide_eq_false (by simp [h])
      have b2 : hS kind err = false := decide_eq_false (by simp [h])
      have b3 : hU kind err = false := decide_eq_false (by simp [h])
      have b4 : hC kind err = false := decide_eq_false (by simp [h])
      rw [hBR, b1, b2, b3, b4]
      simp
    have HF := Lib.hid (And.intro hF0 hF1)
    have hbits : ∀ b : Bool, ∀ l : List UInt8, (if b = true then l else []).length ≤ l.length := if_len
    have HB := Lib.hid hbits
    clear hck hmb hmay hBR hX0 hfI hfS hfU hfC hF0 hF1 hbits HBR
    go_enter Tryd.func9, Tryd.ntmps9
    go_wp2_with (with_reducible refine st_box ?_)
    refine StopOp.go rfl fun K hK => ?_
    refine wp_box (v := .agg #[.int .u32 tag, .int .i64 kind, .int .i64 err, .int .u32 id, .int .i64 seat, .int .i64 till, .int .i64 count]) (by rfl) ?_
    intro g w1 hg1 hg2 hm1 hB1
    simp only [put_some, List.set_cons_succ, List.set_cons_zero]
    refine hK _ _ ?_
    clear hK K
    have hB : Blk w1 g 26 [.int .u32 tag, .int .i64 kind, .int .i64 err, .int .u32 id, .int .i64 seat, .int .i64 till, .int .i64 count] := hB1
    clear hB1
    have b0 := hB.cell' (i := 0) rfl
    have b1 := hB.cell' (i := 1) rfl
    have b2 := hB.cell' (i := 2) rfl
    have b3 := hB.cell' (i := 3) rfl
    have b4 := hB.cell' (i := 4) rfl
    have b5 := hB.cell' (i := 5) rfl
    have b6 := hB.cell' (i := 6) rfl
    go_wp2_with (first
                  | (with_reducible refine st_alloc ?_)
                  | (go_at_call 11; (with_reducible refine (E _).mono ?_); rintro e w2 ⟨rfl, hm2⟩; have hB2 := hB.ext hm2; have c1 := hB2.cell' (i := 1) rfl)
                  | (go_at_call 27; (with_reducible refine (FL _).mono ?_); rintro e w3 ⟨rfl, hm3⟩))
    refine StopOp.go rfl fun K hK => ?_
    refine wp_alloc zero_four ?_
    intro p w4 hp1 hp2 hm4 hP4
    simp only [put_some, List.set_cons_succ, List.set_cons_zero]
    refine hK _ _ ?_
    clear hK K
    go_wp2_with (with_reducible refine st_store ?_)
    refine StopOp.go rfl fun K hK => ?_
    refine wp_store (u := .agg #[.bool fI, .bool fS, .bool fU, .bool fC]) (by rfl) (by rfl) (by kernel_rfl) hP4 (by simp [Value.cells]) (by simp [Value.cells, Value.oneCell']) ?_
    intro w5 hm5 hP5
    refine hK _ _ ?_
    clear hK K
    have hm35 : Mod [] w3 w5 := hm4.fresh hm5 (by simpa using hp1)
    have hB5 := (hB2.ext hm3).ext hm35
    have hM5 := ((hm1.ext hm2).ext hm3).ext hm35
    have hP : Blk w5 p 53 [.bool fI, .bool fS, .bool fU, .bool fC] := hP5
    have z0 : IntKind.u64.wrap tag = tag := IntWalk.u64_in _ (by omega)
    have z1 : IntKind.u64.wrap kind = kind := IntWalk.u64_in _ (by omega)
    have z2 : IntKind.u64.wrap err = err := IntWalk.u64_in _ (by omega)
    have z3 : IntKind.u64.wrap id = id := IntWalk.u64_in _ (by omega)
    have z4 : IntKind.u64.wrap seat = seat := IntWalk.u64_in _ (by omega)
    have z5 : IntKind.u64.wrap till = till := IntWalk.u64_in _ (by omega)
    have z6 : IntKind.u64.wrap count = count := IntWalk.u64_in _ (by omega)
    clear hP4 hP5 hm4 hm5 hm35 hB2 hB b0 b1 b2 b3 b4 b5 b6 c1 hm1 hm2 hm3 E FL
    obtain ⟨Y1, hY1⟩ : ∃ Y, Y = ([] : List UInt8) ++ low tag.toNat 4 := ⟨_, rfl⟩
    obtain ⟨Y2, hY2⟩ : ∃ Y, Y = Y1 ++ low kind.toNat 1 := ⟨_, rfl⟩
    have hX02 : X0 = Y2 ++ low err.toNat 2 := by rw [HX0.out, hY2, hY1, List.nil_append]
    have l1 : Y1.length = 4 := by rw [hY1]; simp [low_length]
    have l2' : Y2.length = 5 := by rw [hY2, List.length_append, l1, low_length]
    have U1 := fun w h1 h2 => (show Calls Tryd.prog 28 #[.slice none 0 0, .int .u64 tag, .int .i64 4] w _ from rrput_any [] none 0 tag 4 4 w w rfl (Ob.nil _) h1 h2 (by omega) t1 (by omega) (by simp))
    rw [← hY1] at U1
    have U2 := fun w0 w ao cap h1 h2 h3 => rrput_any Y1 ao cap kind 1 1 w0 w rfl h1 h2 h3 (by omega) p1 (by omega) (by omega)
    rw [← hY2] at U2
    have U3 := fun w0 w ao cap h1 h2 h3 => rrput_any Y2 ao cap err 2 2 w0 w rfl h1 h2 h3 (by omega) p3 (by omega) (by omega)
    rw [← hX02] at U3
    have L12 := Lib.hid (And.intro l1 l2')
    clear hY1 hY2 hX02 HX0 l1 l2'
    have b0 := hB5.cell' (i := 0) rfl
    have b1 := hB5.cell' (i := 1) rfl
    have b2 := hB5.cell' (i := 2) rfl
    have b3 := hB5.cell' (i := 3) rfl
    have b4 := hB5.cell' (i := 4) rfl
    have b5 := hB5.cell' (i := 5) rfl
    have b6 := hB5.cell' (i := 6) rfl
    go_upto_if 32 with (first
                  | (go_at_call 28; first
                     | ((with_reducible refine (U1 w5 (by simp [New, blks]) (Mod.refl _ _)).mono ?_); rintro e w6 ⟨ao6, cap6, rfl, ho6, hn6, hm6, _⟩; have hB6 := hB5.ext hm6; have hP6 := hP.ext hm6; have d1 := hB6.cell' (i := 1) rfl)
                     | ((with_reducible refine (U2 w5 w6 ao6 cap6 ho6 hn6 hm6).mono ?_); rintro e w7 ⟨ao7, cap7, rfl, ho7, hn7, hm7, _⟩; have hB7 := hB5.ext hm7; have hP7 := hP.ext hm7; have d2 := hB7.cell' (i := 2) rfl)
                     | ((with_reducible refine (U3 w5 w7 ao7 cap7 ho7 hn7 hm7).mono ?_); rintro e w8 ⟨ao8, cap8, rfl, ho8, hn8, hm8, _⟩; have hB8 := hB5.ext hm8; have hP8 := hP.ext hm8; have d3 := hB8.cell' (i := 2) rfl)))
    by_cases he : err = 0
    · have e1 : (err != 0) = false := by simpa using he
      have hBR := HF.out.1 he
      have HBR := Lib.hid hBR
      have hM8 := hM5.ext hm8
      have hn8' : New w (.slice ao8 X0.length cap8) := fun y hy => Nat.le_trans hM5.size (hn8 y hy)
      clear hBR he U1 U2 U3 ho6 ho7 hn6 hn7 hm6 hm7 hB6 hB7 hP6 hP7 d1 d2 d3 b0 b1 b2 b3 b4 b5 b6 hB5 hP hM5 hm8 hn8
      have f0 := hP8.cell' (i := 0) rfl
      go_upto_if 35 with fail
      have hS : P6 w g p [.int .u32 tag, .int .i64 kind, .int .i64 err, .int .u32 id, .int .i64 seat, .int .i64 till, .int .i64 count] [.bool fI, .bool fS, .bool fU, .bool fC] X0 (.slice ao8 X0.length cap8) w8 := ⟨ao8, cap8, rfl, ho8, hn8', hM8, hB8, hP8⟩
      have hl0 : X0.length ≤ 100 := by omega
      obtain ⟨X1, hX1⟩ : ∃ X, X = X0 ++ (if fI = true then low id.toNat 4 else []) := ⟨_, rfl⟩
      go_cut [6] (fun s6 wx => P6 w g p [.int .u32 tag, .int .i64 kind, .int .i64 err, .int .u32 id, .int .i64 seat, .int .i64 till, .int .i64 count] [.bool fI, .bool fS, .bool fU, .bool fC] X1 s6 wx)
      case first =>
        cases fI with
        | false =>
          rw [if_neg (by simp), List.append_nil] at hX1
          subst hX1
          go_wp2_with fail
          go_meet
          exact hS
        | true =>
          rw [if_pos rfl] at hX1
          obtain ⟨ao, cap, hv, ho, hn, hM, hB, hP⟩ := hS
          injection hv with q1 q2 q3
          subst q1 q3
          have U := fun w0 w ao cap h1 h2 h3 => rrput_any X0 ao cap id 4 4 w0 w rfl h1 h2 h3 (by omega) i1 (by omega) (by omega)
          rw [← hX1] at U
          have x0 := hB.cell' (i := 3) rfl
          clear hX1
          go_wp2_with (go_at_call 28; (with_reducible refine (U w _ _ _ ho hn hM).mono ?_); rintro e wa ⟨aoa, capa, rfl, hoa, hna, hma, hmb⟩)
          go_meet
          exact ⟨aoa, capa, rfl, hoa, hna, hma, hB.mod hmb (fun h => Ow.ne ho hB (by decide) h), hP.mod hmb (fun h => Ow.ne ho hP (by decide) h)⟩
      case rest =>
      have hl1 : X1.length ≤ 110 := by rw [hX1, List.length_append]; have := HB.out fI (low id.toNat 4); rw [low_length] at this; omega
      have HX1 := Lib.hid hX1
      clear hS hX1
      obtain ⟨ao0, cap0, rfl, hoS, hnS, hMS, hBS, hPS⟩ := hcut
      have f1 := hPS.cell' (i := 1) rfl
      go_upto_if 42 with fail
      have hS : P6 w g p [.int .u32 tag, .int .i64 kind, .int .i64 err, .int .u32 id, .int .i64 seat, .int .i64 till, .int .i64 count] [.bool fI, .bool fS, .bool fU, .bool fC] X1 (.slice ao0 X1.length cap0) wc := ⟨ao0, cap0, rfl, hoS, hnS, hMS, hBS, hPS⟩
      clear hoS hnS hMS hBS hPS
      obtain ⟨w10, hw10⟩ : ∃ x, x = wc := ⟨_, rfl⟩
      subst hw10
      obtain ⟨X2, hX2⟩ : ∃ X, X = X1 ++ (if fS = true then low seat.toNat 2 else []) := ⟨_, rfl⟩
      go_cut [6] (fun s6 wx => P6 w g p [.int .u32 tag, .int .i64 kind, .int .i64 err, .int .u32 id, .int .i64 seat, .int .i64 till, .int .i64 count] [.bool fI, .bool fS, .bool fU, .bool fC] X2 s6 wx)
      case first =>
        cases fS with
        | false =>
          rw [if_neg (by simp), List.append_nil] at hX2
          subst hX2
          go_wp2_with fail
          go_meet
          exact hS
        | true =>
          rw [if_pos rfl] at hX2
          obtain ⟨ao, cap, hv, ho, hn, hM, hB, hP⟩ := hS
          injection hv with q1 q2 q3
          subst q1 q3
          have U := fun w0 w ao cap h1 h2 h3 => rrput_any X1 ao cap seat 2 2 w0 w rfl h1 h2 h3 (by omega) p6 (by omega) (by omega)
          rw [← hX2] at U
          have x0 := hB.cell' (i := 4) rfl
          clear hX2
          go_wp2_with (go_at_call 28; (with_reducible refine (U w _ _ _ ho hn hM).mono ?_); rintro e wa ⟨aoa, capa, rfl, hoa, hna, hma, hmb⟩)
          go_meet
          exact ⟨aoa, capa, rfl, hoa, hna, hma, hB.mod hmb (fun h => Ow.ne ho hB (by decide) h), hP.mod hmb (fun h => Ow.ne ho hP (by decide) h)⟩
      case rest =>
      have hl2 : X2.length ≤ 120 := by rw [hX2, List.length_append]; have := HB.out fS (low seat.toNat 2); rw [low_length] at this; omega
      have HX2 := Lib.hid hX2
      clear hS hX2
      obtain ⟨ao1, cap1, rfl, hoS, hnS, hMS, hBS, hPS⟩ := hcut
      have f2 := hPS.cell' (i := 2) rfl
      go_upto_if 49 with fail
      have hS : P6 w g p [.int .u32 tag, .int .i64 kind, .int .i64 err, .int .u32 id, .int .i64 seat, .int .i64 till, .int .i64 count] [.bool fI, .bool fS, .bool fU, .bool fC] X2 (.slice ao1 X2.length cap1) wc := ⟨ao1, cap1, rfl, hoS, hnS, hMS, hBS, hPS⟩
      clear hoS hnS hMS hBS hPS
      obtain ⟨w11, hw11⟩ : ∃ x, x = wc := ⟨_, rfl⟩
      subst hw11
      obtain ⟨X3, hX3⟩ : ∃ X, X = X2 ++ (if fU = true then low till.toNat 8 else []) := ⟨_, rfl⟩
      go_cut [6] (fun s6 wx => P6 w g p [.int .u32 tag, .int .i64 kind, .int .i64 err, .int .u32 id, .int .i64 seat, .int .i64 till, .int .i64 count] [.bool fI, .bool fS, .bool fU, .bool fC] X3 s6 wx)
      case first =>
        cases fU with
        | false =>
          rw [if_neg (by simp), List.append_nil] at hX3
          subst hX3
          go_wp2_with fail
          go_meet
          exact hS
        | true =>
          rw [if_pos rfl] at hX3
          obtain ⟨ao, cap, hv, ho, hn, hM, hB, hP⟩ := hS
          injection hv with q1 q2 q3
          subst q1 q3
          have U := fun w0 w ao cap h1 h2 h3 => rrput_any X2 ao cap till 8 8 w0 w rfl h1 h2 h3 (by omega) p5 (by omega) (by omega)
          rw [← hX3] at U
          have x0 := hB.cell' (i := 5) rfl
          clear hX3
          go_wp2_with (go_at_call 28; (with_reducible refine (U w _ _ _ ho hn hM).mono ?_); rintro e wa ⟨aoa, capa, rfl, hoa, hna, hma, hmb⟩)
          go_meet
          exact ⟨aoa, capa, rfl, hoa, hna, hma, hB.mod hmb (fun h => Ow.ne ho hB (by decide) h), hP.mod hmb (fun h => Ow.ne ho hP (by decide) h)⟩
      case rest =>
      have hl3 : X3.length ≤ 130 := by rw [hX3, List.length_append]; have := HB.out fU (low till.toNat 8); rw [low_length] at this; omega
      have HX3 := Lib.hid hX3
      clear hS hX3
      obtain ⟨ao2, cap2, rfl, hoS, hnS, hMS, hBS, hPS⟩ := hcut
      have f3 := hPS.cell' (i := 3) rfl
      go_upto_if 56 with fail
      have hS : P6 w g p [.int .u32 tag, .int .i64 kind, .int .i64 err, .int .u32 id, .int .i64 seat, .int .i64 till, .int .i64 count] [.bool fI, .bool fS, .bool fU, .bool fC] X3 (.slice ao2 X3.length cap2) wc := ⟨ao2, cap2, rfl, hoS, hnS, hMS, hBS, hPS⟩
      clear hoS hnS hMS hBS hPS
      obtain ⟨w12, hw12⟩ : ∃ x, x = wc := ⟨_, rfl⟩
      subst hw12
      obtain ⟨X4, hX4⟩ : ∃ X, X = X3 ++ (if fC = true then low count.toNat 2 else []) := ⟨_, rfl⟩
      go_cut [6] (fun s6 wx => P6 w g p [.int .u32 tag, .int .i64 kind, .int .i64 err, .int .u32 id, .int .i64 seat, .int .i64 till, .int .i64 count] [.bool fI, .bool fS, .bool fU, .bool fC] X4 s6 wx)
      case first =>
        cases fC with
        | false =>
          rw [if_neg (by simp), List.append_nil] at hX4
          subst hX4
          go_wp2_with fail
          go_meet
          exact hS
        | true =>
          rw [if_pos rfl] at hX4
          obtain ⟨ao, cap, hv, ho, hn, hM, hB, hP⟩ := hS
          injection hv with q1 q2 q3
          subst q1 q3
          have U := fun w0 w ao cap h1 h2 h3 => rrput_any X3 ao cap count 2 2 w0 w rfl h1 h2 h3 (by omega) p8 (by omega) (by omega)
          rw [← hX4] at U
          have x0 := hB.cell' (i := 6) rfl
          clear hX4
          go_wp2_with (go_at_call 28; (with_reducible refine (U w _ _ _ ho hn hM).mono ?_); rintro e wa ⟨aoa, capa, rfl, hoa, hna, hma, hmb⟩)
          go_meet
          exact ⟨aoa, capa, rfl, hoa, hna, hma, hB.mod hmb (fun h => Ow.ne ho hB (by decide) h), hP.mod hmb (fun h => Ow.ne ho hP (by decide) h)⟩
      case rest =>
      have hl4 : X4.length ≤ 140 := by rw [hX4, List.length_append]; have := HB.out fC (low count.toNat 2); rw [low_length] at this; omega
      have HX4 := Lib.hid hX4
      clear hS hX4
      obtain ⟨ao3, cap3, rfl, hoS, hnS, hMS, hBS, hPS⟩ := hcut
      go_wp2_with fail
      go_ret2
      exact ⟨_, rfl, by rw [HBR.out, ← HX1.out, ← HX2.out, ← HX3.out, ← HX4.out]; exact hoS, hnS, hMS⟩
    · have e1 : (err != 0) = true := by simpa using he
      have hBR := HF.out.2 he
      subst hBR
      clear he
      go_wp2_with fail
      go_ret2
      exact ⟨_, rfl, ho8, fun y hy => Nat.le_trans hM5.size (hn8 y hy), hM5.ext hm8⟩
  · have hck := chkR_no hmay
    have hmb : mayR r = false := decide_eq_false hmay
    unfold PutR
    rw [hck, hmb, if_neg (by simp)]
    have E := fun w => rrefCheck_any r w
    rw [hck] at E
    clear hck hmb hmay hr
    obtain ⟨tag, kind, err, id, seat, till, count⟩ := r
    dsimp only [Rp.v] at *
    go_enter Tryd.func9, Tryd.ntmps9
    go_wp2_with (with_reducible refine st_box ?_)
    refine StopOp.go rfl fun K hK => ?_
    refine wp_box (v := .agg #[.int .u32 tag, .int .i64 kind, .int .i64 err, .int .u32 id, .int .i64 seat, .int .i64 till, .int .i64 count]) (by rfl) ?_
    intro g w1 hg1 hg2 hm1 hB1
    simp only [put_some, List.set_cons_succ, List.set_cons_zero]
    refine hK _ _ ?_
    clear hK K
    have hB : Blk w1 g 26 [.int .u32 tag, .int .i64 kind, .int .i64 err, .int .u32 id, .int .i64 seat, .int .i64 till, .int .i64 count] := hB1
    clear hB1
    have b0 := hB.cell' (i := 0) rfl
    have b1 := hB.cell' (i := 1) rfl
    have b2 := hB.cell' (i := 2) rfl
    have b3 := hB.cell' (i := 3) rfl
    have b4 := hB.cell' (i := 4) rfl
    have b5 := hB.cell' (i := 5) rfl
    have b6 := hB.cell' (i := 6) rfl
    go_wp2_with (go_at_call 11; (with_reducible refine (E _).mono ?_); rintro e w2 ⟨rfl, hm2⟩)
    go_ret2
    exact ⟨_, rfl, Ob.nil _, by simp [New, blks], hm1.ext hm2⟩
end Go.Proofs.YtfcoaiggpcjldaaDoor
