import Derived.Test.YtkhnemnpadhgoaaRcI
import Derived.Test.YtkhnemnpadhgoaaCopA
/-! Records: RecordsBack. -/
set_option linter.unusedVariables false
set_option linter.unusedSimpArgs false
set_option maxRecDepth 100000
namespace Go.Proofs.Ytkhnemnpadhgoaa
open Go.RowKit Gw

set_option maxRecDepth 1000000 in
set_option maxHeartbeats 16000000 in
theorem recordsBack_core (r : Rc) (hr : r.ok) (b : List UInt8) (bv0 : Value) (more : Int) (hmo1 : 0 ≤ more) (hmo2 : more ≤ 255) (w : World) (hb : Bs w bv0 b) (hl : b.length ≤ 1048576) :
    Calls Try.prog 7 #[r.v, bv0, .int .u8 more] w fun e w' => e = .returned (.bool true) ∧ Mod [] w w' := by
  obtain ⟨aob, capb, rfl, hcb, _⟩ := hb.form
  obtain ⟨EB, hEB⟩ : ∃ E : Int, E = errC b := ⟨_, rfl⟩
  obtain ⟨q, hqb⟩ : ∃ q, q = getC b := ⟨_, rfl⟩
  have GB := fun v w h => cget_val b v EB q w hEB.symm hqb.symm h (by omega)
  have HB : RowKit.Hid (EB ≠ 0 ∧ cz = q ∨ 0 = EB ∧ q.ok ∧ mayC q = true ∧ cbytes q = b) := Lib.hid (by
    by_cases h : EB = 0
    · right
      rw [h] at hEB
      obtain ⟨x, hx, hxo, hxm, hxb⟩ := errC_zero b hEB.symm
      rw [hqb, hx]
      exact ⟨h.symm, hxo, decide_eq_true hxm, hxb⟩
    · left
      rw [hEB] at h
      refine ⟨by rw [hEB]; exact h, ?_⟩
      rw [hqb, getC_no h])
  clear hEB hqb
  cases hm : mayC r with
  | false =>
    have P := fun w => cput_no r hr hm w
    have CK := fun w => ccheck_no r hr hm w
    clear hm hr
    obtain ⟨kind, id, seat, till, clock⟩ := r
    dsimp only [Rc.v] at P CK ⊢
    go_enter Try.func7, Try.ntmps7
    go_wp2_with (with_reducible refine st_box ?_)
    refine StopOp.go rfl fun K hK => ?_
    refine wp_box (v := .agg #[.int .i64 kind, .int .u32 id, .int .i64 seat, .int .i64 till, .int .i64 clock]) (by rfl) ?_
    intro g w1 hg1 hg2 hm1 hB1
    simp only [put_some, List.set_cons_succ, List.set_cons_zero]
    refine hK _ _ ?_
    clear hK K
    have hG1 : Blk w1 g 25 [.int .i64 kind, .int .u32 id, .int .i64 seat, .int .i64 till, .int .i64 clock] := hB1
    clear hB1
    have a0 := hG1.cell' (i := 0) rfl
    have a1 := hG1.cell' (i := 1) rfl
    have a2 := hG1.cell' (i := 2) rfl
    have a3 := hG1.cell' (i := 3) rfl
    have a4 := hG1.cell' (i := 4) rfl
    go_upto_region 12 with (first | (go_at_call 9; (with_reducible refine (P _).mono ?_); rintro e w2 ⟨ao2, cap2, rfl, hm2⟩; have hG2 := hG1.ext hm2; have b0 := hG2.cell' (i := 0) rfl; have b1 := hG2.cell' (i := 1) rfl; have b2 := hG2.cell' (i := 2) rfl; have b3 := hG2.cell' (i := 3) rfl; have b4 := hG2.cell' (i := 4) rfl) | (go_at_call 10; (with_reducible refine (CK _).mono ?_); rintro e w3 ⟨rfl, hm3⟩))
    have hM3 := (hm1.ext hm2).ext hm3
    clear a0 b0 a1 b1 a2 b2 a3 b3 a4 b4 hG1 hG2 hm1 hm2 hm3 P CK
    rcases HB.out with ⟨hE, hq⟩ | ⟨hE, hx, hxm, hbx⟩
    · subst hq
      dsimp only [Rc.v, cz] at GB
      have hce := fun w => rc_eql_same 0 0 0 0 0 w
      have en : (EB != 0) = true := by simpa using hE
      go_wp2_with (first
                    | (with_reducible refine st_alloc ?_)
                    | (go_at_call 11; refine (GB _ _ (hb.ext hM3)).mono ?_; rintro e y1 ⟨rfl, hy1⟩))
      refine StopOp.go rfl fun K hK => ?_
      refine wp_alloc zero_rec ?_
      intro gz y2 hgz1 hgz2 hmy2 hBy2
      simp only [put_some, List.set_cons_succ, List.set_cons_zero]
      refine hK _ _ ?_
      clear hK K
      go_wp2_with (with_reducible refine st_store ?_)
      refine StopOp.go rfl fun K hK => ?_
      refine wp_store (u := .agg #[.int .i64 0, .int .u32 0, .int .i64 0, .int .i64 0, .int .i64 0]) (by rfl) (by rfl) (by kernel_rfl) hBy2 (by simp [Value.cells]) (by simp [Value.cells, Value.oneCell']) ?_
      intro y3 hmy3 hBy3
      refine hK _ _ ?_
      clear hK K
      have hZ : Blk y3 gz 25 [.int .i64 0, .int .u32 0, .int .i64 0, .int .i64 0, .int .i64 0] := hBy3
      have hxy3 : Mod [] y1 y3 := hmy2.fresh hmy3 (by simpa using hgz1)
      clear hBy2 hBy3 hmy2 hmy3
      have z0 := hZ.cell' (i := 0) rfl
      have z1 := hZ.cell' (i := 1) rfl
      have z2 := hZ.cell' (i := 2) rfl
      have z3 := hZ.cell' (i := 3) rfl
      have z4 := hZ.cell' (i := 4) rfl
      go_wp2_with (go_at_call 12; (with_reducible refine (rcawake_any _).mono ?_); rintro e y4 ⟨rfl, hy4⟩)
      go_ret
      exact ⟨rfl, ((hM3.ext hy1).ext hxy3).ext hy4⟩
    · subst hE
      have PX := fun w => cput_yes q hx hxm w
      have CX := fun w => ccheck_yes q hx hxm w
      rw [hbx] at PX
      clear hx hxm hbx
      obtain ⟨qk, qi, qs, qt, qc⟩ := q
      dsimp only [Rc.v] at GB PX CX
      go_wp2_with (first
                    | (with_reducible refine st_alloc ?_)
                    | (go_at_call 11; refine (GB _ _ (hb.ext hM3)).mono ?_; rintro e y1 ⟨rfl, hy1⟩))
      refine StopOp.go rfl fun K hK => ?_
      refine wp_alloc zero_rec ?_
      intro gz y2 hgz1 hgz2 hmy2 hBy2
      simp only [put_some, List.set_cons_succ, List.set_cons_zero]
      refine hK _ _ ?_
      clear hK K
      go_wp2_with (with_reducible refine st_store ?_)
      refine StopOp.go rfl fun K hK => ?_
      refine wp_store (u := .agg #[.int .i64 qk, .int .u32 qi, .int .i64 qs, .int .i64 qt, .int .i64 qc]) (by rfl) (by rfl) (by kernel_rfl) hBy2 (by simp [Value.cells]) (by simp [Value.cells, Value.oneCell']) ?_
      intro y3 hmy3 hBy3
      refine hK _ _ ?_
      clear hK K
      have hZ : Blk y3 gz 25 [.int .i64 qk, .int .u32 qi, .int .i64 qs, .int .i64 qt, .int .i64 qc] := hBy3
      have hxy3 : Mod [] y1 y3 := hmy2.fresh hmy3 (by simpa using hgz1)
      clear hBy2 hBy3 hmy2 hmy3
      have z0 := hZ.cell' (i := 0) rfl
      have z1 := hZ.cell' (i := 1) rfl
      have z2 := hZ.cell' (i := 2) rfl
      have z3 := hZ.cell' (i := 3) rfl
      have z4 := hZ.cell' (i := 4) rfl
      go_wp2_with (first
                    | (go_at_call 9; (with_reducible refine (PX _).mono ?_); rintro e y4 ⟨yv, rfl, hyo, hyn, hy4⟩; obtain ⟨aoy, capy, rfl, _, _⟩ := hyo.bs.form; have hZ4 := hZ.ext hy4; have t0 := hZ4.cell' (i := 0) rfl; have t1 := hZ4.cell' (i := 1) rfl; have t2 := hZ4.cell' (i := 2) rfl; have t3 := hZ4.cell' (i := 3) rfl; have t4 := hZ4.cell' (i := 4) rfl; have hMy := ((hM3.ext hy1).ext hxy3).ext hy4)
                    | (go_at_call 10; (with_reducible refine (CX _).mono ?_); rintro e y5 ⟨rfl, hy5⟩)
                    | (go_at_call 16; (with_reducible refine (same_yes b b _ _ y5 (hyo.ext hy5).bs (hb.ext (hMy.ext hy5)) rfl).mono ?_); rintro e y6 ⟨rfl, hy6⟩)
                    | (go_at_call 12; (with_reducible refine (rcawake_any _).mono ?_); rintro e y7 ⟨rfl, hy7⟩))
      go_ret
      exact ⟨rfl, ((hMy.ext hy5).ext hy6).ext hy7⟩
  | true =>
    have P := fun w => cput_yes r hr hm w
    have CK := fun w => ccheck_yes r hr hm w
    have hM := of_decide_eq_true hm
    have hgo := getC_of r hM
    have hbl := cbytes_len r (mayC_ok hM)
    have hbd := sizeC_pos (mayC_ok hM)
    have S1 := fun w => csize_any r.kind w
    obtain ⟨B, hB⟩ : ∃ B, B = cbytes r := ⟨_, rfl⟩
    obtain ⟨S, hS⟩ : ∃ S, S = sizeC r.kind := ⟨_, rfl⟩
    have hcutE := errC_cut r hM
    have hlongE := errC_long r hM
    rw [← hB] at P hgo hbl hcutE hlongE
    rw [← hS] at hbl hbd S1
    subst hbl
    have G1 := fun v w h => cget_val B v 0 r w hgo.1 hgo.2 h (by omega)
    have e5 := hlongE [UInt8.ofNat more.toNat] (by simp)
    have e4 := hcutE (B.length - 1) (by omega)
    have hlB : (B ++ [UInt8.ofNat more.toNat]).length = B.length + 1 := by simp
    have G2 := fun v w h => cget_val (B ++ [UInt8.ofNat more.toNat]) v 5 cz w e5 (getC_no (by rw [e5]; decide)) h (by rw [hlB]; omega)
    have G3 := fun v w h => cget_val (B.take (B.length - 1)) v 4 cz w e4 (getC_no (by rw [e4]; decide)) h (by rw [List.length_take]; omega)
    clear hgo hB hS hcutE hlongE e5 e4 hM hm hr
    obtain ⟨kind, id, seat, till, clock⟩ := r
    dsimp only [Rc.v, cz] at P CK S1 G1 G2 G3 ⊢
    have hcmp := fun w => rc_neq_same kind id seat till clock w
    have hc8 : Value.int .u8 more = .int .u8 ((UInt8.ofNat more.toNat).toNat : Nat) := by rw [UInt8.toNat_ofNat', Nat.mod_eq_of_lt (by omega), Int.toNat_of_nonneg hmo1]
    have d1 : ¬ ((B.length : Int) < 2) := by omega
    have d2 : ¬ ((32 : Int) < B.length) := by omega
    have d3 : ¬ (B.length < 2) := by omega
    have d4 : ¬ (32 < B.length) := by omega
    have d5 : (1 : Int) ≤ B.length := by omega
    have HC8 := Lib.hid hc8
    have HLB := Lib.hid hlB
    clear hc8 hlB
    have dk : (B.length : Int) - 1 = ((B.length - 1 : Nat) : Int) := by omega
    go_enter Try.func7, Try.ntmps7
    go_wp2_with (with_reducible refine st_box ?_)
    refine StopOp.go rfl fun K hK => ?_
    refine wp_box (v := .agg #[.int .i64 kind, .int .u32 id, .int .i64 seat, .int .i64 till, .int .i64 clock]) (by rfl) ?_
    intro g w1 hg1 hg2 hm1 hB1
    simp only [put_some, List.set_cons_succ, List.set_cons_zero]
    refine hK _ _ ?_
    clear hK K
    have hG1 : Blk w1 g 25 [.int .i64 kind, .int .u32 id, .int .i64 seat, .int .i64 till, .int .i64 clock] := hB1
    clear hB1
    have a0 := hG1.cell' (i := 0) rfl
    have a1 := hG1.cell' (i := 1) rfl
    have a2 := hG1.cell' (i := 2) rfl
    have a3 := hG1.cell' (i := 3) rfl
    have a4 := hG1.cell' (i := 4) rfl
    go_wp2_with (first
                  | (with_reducible refine st_alloc ?_)
                  | (go_at_call 9; (with_reducible refine (P _).mono ?_); rintro e w2 ⟨v2, rfl, ho2, hn2, hm2⟩; obtain ⟨ao2, cap2, rfl, hcp, _⟩ := ho2.bs.form; have hG2 := hG1.ext hm2; have b0 := hG2.cell' (i := 0) rfl; have b1 := hG2.cell' (i := 1) rfl; have b2 := hG2.cell' (i := 2) rfl; have b3 := hG2.cell' (i := 3) rfl; have b4 := hG2.cell' (i := 4) rfl)
                  | (go_at_call 10; (with_reducible refine (CK _).mono ?_); rintro e w3 ⟨rfl, hm3⟩; have ho3 := ho2.ext hm3)
                  | (go_at_call 11; refine (G1 _ w3 ho3.bs).mono ?_; rintro e w4 ⟨rfl, hm4⟩))
    have hM4 := ((hm1.ext hm2).ext hm3).ext hm4
    have ho4 := ho3.ext hm4
    have hG4 := (hG2.ext hm3).ext hm4
    clear a0 b0 a1 b1 a2 b2 a3 b3 a4 b4 hG1 hG2 hm1 hm2 hm3 P CK ho2 ho3 hn2 hm4 G1
    refine StopOp.go rfl fun K hK => ?_
    refine wp_alloc zero_rec ?_
    intro g5 w5 hg51 hg52 hmw5 hBw5
    simp only [put_some, List.set_cons_succ, List.set_cons_zero]
    refine hK _ _ ?_
    clear hK K
    go_wp2_with (with_reducible refine st_store ?_)
    refine StopOp.go rfl fun K hK => ?_
    refine wp_store (u := .agg #[.int .i64 kind, .int .u32 id, .int .i64 seat, .int .i64 till, .int .i64 clock]) (by rfl) (by rfl) (by kernel_rfl) hBw5 (by simp [Value.cells]) (by simp [Value.cells, Value.oneCell']) ?_
    intro w6 hmw6 hBw6
    refine hK _ _ ?_
    clear hK K
    have hX6 : Blk w6 g5 25 [.int .i64 kind, .int .u32 id, .int .i64 seat, .int .i64 till, .int .i64 clock] := hBw6
    have hxw6 : Mod [] w4 w6 := hmw5.fresh hmw6 (by simpa using hg51)
    clear hBw5 hBw6 hmw5 hmw6
    have ho6 := ho4.ext hxw6
    have hM6 := hM4.ext hxw6
    have hG6 := hG4.ext hxw6
    clear ho4 hM4 hG4 hxw6
    go_wp2_with (first
                  | (with_reducible refine st_bslice ?_)
                  | (go_at_call 17; (with_reducible refine (copy_any B _ w6 ho6.bs (by omega)).mono ?_); rintro e w7 ⟨v7, rfl, ho7, hn7, hm7⟩; obtain ⟨ao7, cap7, rfl, _, _⟩ := ho7.bs.form))
    refine StopOp.go rfl fun K hK => ?_
    refine wp_bslice stB [.int .u8 more] rfl (by decide) (by rfl) (by simp [Value.cells]) ?_
    intro p8 w8 h81 h82 hm8 hB8
    simp only [put_some, List.set_cons_succ, List.set_cons_zero]
    refine hK _ _ ?_
    clear hK K
    have hb8 : Bs w8 (.slice (some ⟨p8, 0, none⟩) 1 1) [UInt8.ofNat more.toNat] := Bs.of_blk (l := [UInt8.ofNat more.toNat]) (rest := []) (by have := hB8; rw [HC8.out] at this; exact this) (by simp) (by omega)
    have ho8 := ho7.ext hm8
    go_wp2_with (with_reducible refine st_append ?_)
    refine StopOp.go rfl fun K hK => ?_
    refine wp_append_ow stB (by rfl) (by rfl) ho8 hb8 (bv_one _) (by simp; omega) (by simp; omega) ?_
    intro v9 w9 ho9 hm9 hb9
    simp only [put_some, List.set_cons_succ, List.set_cons_zero]
    refine hK _ _ ?_
    clear hK K
    rw [← bv_append] at ho9
    have hb9' : Bs w9 v9 (B ++ [UInt8.ofNat more.toNat]) := by have := ho9.sl; unfold Bs; rw [HLB.out]; exact this
    have hm69 : Mod [] w6 w9 := (hm7.ext hm8).fresh hm9 hn7
    have ho9B := ho6.ext hm69
    have hM9 := hM6.ext hm69
    have hG9 := hG6.ext hm69
    have hX9 := hX6.ext hm69
    obtain ⟨ao9, cap9, rfl, _, _⟩ := ho9.sl.form
    clear ho6 hM6 hG6 hX6 hm69 ho9 hm9 hb9 ho8 hb8 hB8 hm8 ho7 hn7 hm7
    go_wp2_with (first
                  | (with_reducible refine st_alloc ?_)
                  | (go_at_call 11; refine (G2 _ w9 hb9').mono ?_; rintro e w10 ⟨rfl, hm10⟩))
    refine StopOp.go rfl fun K hK => ?_
    refine wp_alloc zero_rec ?_
    intro g11 w11 hg111 hg112 hmw11 hBw11
    simp only [put_some, List.set_cons_succ, List.set_cons_zero]
    refine hK _ _ ?_
    clear hK K
    go_wp2_with (with_reducible refine st_store ?_)
    refine StopOp.go rfl fun K hK => ?_
    refine wp_store (u := .agg #[.int .i64 0, .int .u32 0, .int .i64 0, .int .i64 0, .int .i64 0]) (by rfl) (by rfl) (by kernel_rfl) hBw11 (by simp [Value.cells]) (by simp [Value.cells, Value.oneCell']) ?_
    intro w12 hmw12 hBw12
    refine hK _ _ ?_
    clear hK K
    have hZ12 : Blk w12 g11 25 [.int .i64 0, .int .u32 0, .int .i64 0, .int .i64 0, .int .i64 0] := hBw12
    have hxw12 : Mod [] w10 w12 := hmw11.fresh hmw12 (by simpa using hg111)
    clear hBw11 hBw12 hmw11 hmw12
    have hm912 := hm10.ext hxw12
    have ho12 := ho9B.ext hm912
    have hM12 := hM9.ext hm912
    have hG12 := hG9.ext hm912
    have hX12 := hX9.ext hm912
    have a0 := hG12.cell' (i := 0) rfl
    have a1 := hG12.cell' (i := 1) rfl
    have a2 := hG12.cell' (i := 2) rfl
    have a3 := hG12.cell' (i := 3) rfl
    have a4 := hG12.cell' (i := 4) rfl
    have b0 := hX12.cell' (i := 0) rfl
    have b1 := hX12.cell' (i := 1) rfl
    have b2 := hX12.cell' (i := 2) rfl
    have b3 := hX12.cell' (i := 3) rfl
    have b4 := hX12.cell' (i := 4) rfl
    clear ho9B hM9 hG9 hX9 hm912 hm10 hxw12 hZ12 hb9' G2
    go_upto_region 9 with (go_at_call 21; (with_reducible refine (S1 _).mono ?_); rintro e w13 ⟨rfl, hm13⟩)
    have ho13 := ho12.ext hm13
    have hM13 := hM12.ext hm13
    have hcut : Bs w13 (.slice ao2 (B.length - 1) cap2) (B.take (B.length - 1)) := ho13.bs.pre rfl (by omega) (by omega)
    have d6 : B.length - 1 ≤ cap2 := by omega
    have d7 : ((B.length - 1 : Nat) : Int) ≤ cap2 := by omega
    have d8 : (0 : Int) ≤ ((B.length - 1 : Nat) : Int) := by omega
    clear a0 a1 a2 a3 a4 b0 b1 b2 b3 b4 hG12 hX12 ho12 hM12 hm13 S1
    obtain ⟨k, hk⟩ : ∃ k, k = B.length - 1 := ⟨_, rfl⟩
    rw [← hk] at dk hcut d6 d7 d8 G3
    have d9 : (k : Int) ≤ 9223372036854775807 := by omega
    clear hk
    go_wp2_with (first
                  | (with_reducible refine st_alloc ?_)
                  | (go_at_call 11; refine (G3 _ w13 hcut).mono ?_; rintro e w14 ⟨rfl, hm14⟩))
    refine StopOp.go rfl fun K hK => ?_
    refine wp_alloc zero_rec ?_
    intro g15 w15 hg151 hg152 hmw15 hBw15
    simp only [put_some, List.set_cons_succ, List.set_cons_zero]
    refine hK _ _ ?_
    clear hK K
    go_wp2_with (with_reducible refine st_store ?_)
    refine StopOp.go rfl fun K hK => ?_
    refine wp_store (u := .agg #[.int .i64 0, .int .u32 0, .int .i64 0, .int .i64 0, .int .i64 0]) (by rfl) (by rfl) (by kernel_rfl) hBw15 (by simp [Value.cells]) (by simp [Value.cells, Value.oneCell']) ?_
    intro w16 hmw16 hBw16
    refine hK _ _ ?_
    clear hK K
    have hZ16 : Blk w16 g15 25 [.int .i64 0, .int .u32 0, .int .i64 0, .int .i64 0, .int .i64 0] := hBw16
    have hxw16 : Mod [] w14 w16 := hmw15.fresh hmw16 (by simpa using hg151)
    clear hBw15 hBw16 hmw15 hmw16
    have hM16 := (hM13.ext hm14).ext hxw16
    clear hM13 hm14 hxw16 hZ16 hcut ho13 G3 dk
    rcases HB.out with ⟨hE, hq⟩ | ⟨hE, hx, hxm, hbx⟩
    · subst hq
      dsimp only [Rc.v, cz] at GB
      have hce := fun w => rc_eql_same 0 0 0 0 0 w
      have en : (EB != 0) = true := by simpa using hE
      go_wp2_with (first
                    | (with_reducible refine st_alloc ?_)
                    | (go_at_call 11; refine (GB _ _ (hb.ext hM16)).mono ?_; rintro e y1 ⟨rfl, hy1⟩))
      refine StopOp.go rfl fun K hK => ?_
      refine wp_alloc zero_rec ?_
      intro gz y2 hgz1 hgz2 hmy2 hBy2
      simp only [put_some, List.set_cons_succ, List.set_cons_zero]
      refine hK _ _ ?_
      clear hK K
      go_wp2_with (with_reducible refine st_store ?_)
      refine StopOp.go rfl fun K hK => ?_
      refine wp_store (u := .agg #[.int .i64 0, .int .u32 0, .int .i64 0, .int .i64 0, .int .i64 0]) (by rfl) (by rfl) (by kernel_rfl) hBy2 (by simp [Value.cells]) (by simp [Value.cells, Value.oneCell']) ?_
      intro y3 hmy3 hBy3
      refine hK _ _ ?_
      clear hK K
      have hZ : Blk y3 gz 25 [.int .i64 0, .int .u32 0, .int .i64 0, .int .i64 0, .int .i64 0] := hBy3
      have hxy3 : Mod [] y1 y3 := hmy2.fresh hmy3 (by simpa using hgz1)
      clear hBy2 hBy3 hmy2 hmy3
      have z0 := hZ.cell' (i := 0) rfl
      have z1 := hZ.cell' (i := 1) rfl
      have z2 := hZ.cell' (i := 2) rfl
      have z3 := hZ.cell' (i := 3) rfl
      have z4 := hZ.cell' (i := 4) rfl
      go_wp2_with (go_at_call 12; (with_reducible refine (rcawake_any _).mono ?_); rintro e y4 ⟨rfl, hy4⟩)
      go_ret
      exact ⟨rfl, ((hM16.ext hy1).ext hxy3).ext hy4⟩
    · subst hE
      have PX := fun w => cput_yes q hx hxm w
      have CX := fun w => ccheck_yes q hx hxm w
      rw [hbx] at PX
      clear hx hxm hbx
      obtain ⟨qk, qi, qs, qt, qc⟩ := q
      dsimp only [Rc.v] at GB PX CX
      go_wp2_with (first
                    | (with_reducible refine st_alloc ?_)
                    | (go_at_call 11; refine (GB _ _ (hb.ext hM16)).mono ?_; rintro e y1 ⟨rfl, hy1⟩))
      refine StopOp.go rfl fun K hK => ?_
      refine wp_alloc zero_rec ?_
      intro gz y2 hgz1 hgz2 hmy2 hBy2
      simp only [put_some, List.set_cons_succ, List.set_cons_zero]
      refine hK _ _ ?_
      clear hK K
      go_wp2_with (with_reducible refine st_store ?_)
      refine StopOp.go rfl fun K hK => ?_
      refine wp_store (u := .agg #[.int .i64 qk, .int .u32 qi, .int .i64 qs, .int .i64 qt, .int .i64 qc]) (by rfl) (by rfl) (by kernel_rfl) hBy2 (by simp [Value.cells]) (by simp [Value.cells, Value.oneCell']) ?_
      intro y3 hmy3 hBy3
      refine hK _ _ ?_
      clear hK K
      have hZ : Blk y3 gz 25 [.int .i64 qk, .int .u32 qi, .int .i64 qs, .int .i64 qt, .int .i64 qc] := hBy3
      have hxy3 : Mod [] y1 y3 := hmy2.fresh hmy3 (by simpa using hgz1)
      clear hBy2 hBy3 hmy2 hmy3
      have z0 := hZ.cell' (i := 0) rfl
      have z1 := hZ.cell' (i := 1) rfl
      have z2 := hZ.cell' (i := 2) rfl
      have z3 := hZ.cell' (i := 3) rfl
      have z4 := hZ.cell' (i := 4) rfl
      go_wp2_with (first
                    | (go_at_call 9; (with_reducible refine (PX _).mono ?_); rintro e y4 ⟨yv, rfl, hyo, hyn, hy4⟩; obtain ⟨aoy, capy, rfl, _, _⟩ := hyo.bs.form; have hZ4 := hZ.ext hy4; have t0 := hZ4.cell' (i := 0) rfl; have t1 := hZ4.cell' (i := 1) rfl; have t2 := hZ4.cell' (i := 2) rfl; have t3 := hZ4.cell' (i := 3) rfl; have t4 := hZ4.cell' (i := 4) rfl; have hMy := ((hM16.ext hy1).ext hxy3).ext hy4)
                    | (go_at_call 10; (with_reducible refine (CX _).mono ?_); rintro e y5 ⟨rfl, hy5⟩)
                    | (go_at_call 16; (with_reducible refine (same_yes b b _ _ y5 (hyo.ext hy5).bs (hb.ext (hMy.ext hy5)) rfl).mono ?_); rintro e y6 ⟨rfl, hy6⟩)
                    | (go_at_call 12; (with_reducible refine (rcawake_any _).mono ?_); rintro e y7 ⟨rfl, hy7⟩))
      go_ret
      exact ⟨rfl, ((hMy.ext hy5).ext hy6).ext hy7⟩
end Go.Proofs.Ytkhnemnpadhgoaa
