import Derived.Test.YtkedbphdflhhlaaRdB
import Derived.Test.YtkedbphdflhhlaaOpD
import Derived.Test.YtkedbphdflhhlaaWrC
set_option linter.unusedVariables false
set_option linter.unusedSimpArgs false
set_option maxRecDepth 100000
namespace Go.Proofs.Ytkedbphdflhhlaa
open Go.RowKit Gw

theorem Rr.keepR {w w' : World} {d r q : Nat} {b l l' : List UInt8} {e e' : Int} (h : Rr w d b l e) (h1 : Rd w r q l' e') (hm : Mod [q] w w') : Rr w' d b l e := by
  obtain ⟨v, at_, hB, hv, h3⟩ := h
  obtain ⟨v1, hB1, hv1⟩ := h1.2
  obtain ⟨ao, cap, rfl, _, _⟩ := hv1.form
  have hne : d ≠ q := hB.ne hB1 (by decide)
  exact ⟨v, at_, hB.mod hm (by simpa using hne), hv.keepAt hB1 (by simp) hm, h3⟩
theorem Rd.keepD {w w' : World} {d r q : Nat} {b l l' : List UInt8} {e e' : Int} (h : Rd w r q l' e') (h1 : Rr w d b l e) (hm : Mod [d] w w') : Rd w' r q l' e' := by
  obtain ⟨v, at_, hB, hv, h3⟩ := h1
  obtain ⟨ao, cap, rfl, _, _⟩ := hv.form
  obtain ⟨hr, v1, hB1, hv1⟩ := h
  have hne : r ≠ d := hr.ne hB (by decide)
  have hne2 : q ≠ d := hB1.ne hB (by decide)
  exact Rd.mod ⟨hr, v1, hB1, hv1⟩ hB (by simp) hne hne2 hm

set_option maxHeartbeats 8000000 in
theorem octetsReads_core (b0 : List UInt8) (os : List Opr) (m : Nat) (bv0 v0 : Value) (w : World) (hb0 : Bs w bv0 b0) (hos : Oprs w v0 os) (hm1 : m ≤ os.length) (hm2 : m ≤ 2000) (hE : ((os.length : Int) ≤ m) ∨ ((m : Int) < os.length ∧ (2000 : Int) ≤ m)) (hT : b0.length ≤ 1048576) :
    Calls Try.prog 7 #[bv0, v0] w fun e w' => e = .returned (.bool true) ∧ Mod [] w w' := by
  obtain ⟨aob, capb, rfl, hncb, hcapb⟩ := hb0.form
  obtain ⟨ao0, cap0, rfl, hnc, hcap⟩ := hos.s.form
  rcases hE with x | ⟨x, y⟩
  · go_enter Try.func7, Try.ntmps7
    go_wp2_with (first
                  | (with_reducible refine st_box ?_)
                  | (go_at_call 30; refine (lent_any b0 _ _ hb0 (by omega)).mono ?_; rintro e w1 ⟨gi, capi, rfl, hgi, hli, hm1'⟩)
                  | (go_at_call 23; refine (of_where b0 _ _ hli.bs (by omega)).mono ?_; rintro e w2 ⟨r, q, vr, rfl, hr, hq, hqr, hBr, hBq, hvr, hnr, hm2'⟩)
                  | (go_at_call 31; refine (kept_any gi capi b0 _ _ (hli.ext hm2') ((hb0.ext hm1').ext hm2')).mono ?_; rintro e w3 ⟨rfl, hm3'⟩)
                  | (go_at_call 32; refine (over_any gi capi b0 _ ((hli.ext hm2').ext hm3') (by omega)).mono ?_; rintro e w4 ⟨rfl, hm4'⟩))
    have hgl : gi < w1.heap.size := by
      obtain ⟨_, h, _⟩ := hli
      exact h.lt
    have hrd4 : Rd w4 r q b0 0 := ⟨(hBr.ext hm3').mod hm4' (by simp; omega), vr, (hBq.ext hm3').mod hm4' (by simp; omega), (hvr.ext hm3').mod hm4' (fun k hk hkg => by
      have h1 := hnr k hk
      have : k = gi := by simpa using hkg
      omega)⟩
    have hm4 : Mod [] w w4 := ((hm1'.ext hm2').ext hm3').fresh hm4' (by simpa using hgi)
    refine StopOp.go rfl fun K hK => ?_
    refine wp_box (v := .agg #[.slice aob b0.length capb, .int .i64 0, .int .i64 0]) (by rfl) ?_
    intro d w5 hd1 hd2 hm5' hB5
    simp only [put_some, List.set_cons_succ, List.set_cons_zero]
    refine hK _ _ ?_
    clear hK K
    have hrr5 : Rr w5 d b0 b0 0 := ⟨_, 0, hB5, hb0.ext (hm4.ext hm5'), by omega, fun _ => by simp, fun h => absurd rfl h⟩
    have hrd5 := hrd4.ext hm5'
    have hm5 := hm4.ext hm5'
    have hqw : w.heap.size ≤ q := Nat.le_trans hm1'.size hq
    have hdw : w.heap.size ≤ d := Nat.le_trans hm4.size hd1
    clear hB5 hm5' hrd4 hm4 hm4' hm3' hm2' hm1' hBr hBq hvr hnr hli
    go_wp2_with fail
    go_loopw [9] (fun i wr => ∃ (j : Nat) (l : List UInt8) (err : Int), j ≤ m ∧ i = .int .i64 j ∧ Mod [] w wr ∧ Rd wr r q l err ∧ Rr wr d b0 l err ∧ l.length ≤ 1048576) (fun i _ => m - (intOf i).toNat)
    case atStart => exact ⟨0, b0, 0, by omega, rfl, hm5, hrd5, hrr5, hT⟩
    case round =>
      obtain ⟨j, l, err, hj, rfl, hmr, hR, hD, hlb⟩ := hrel
      by_cases hlt : j < m
      · have y1 : (j : Int) < os.length := by omega
        have y2 : (j : Int) < 2000 := by omega
        have hjo : j < os.length := by omega
        have hos' := hos.ext hmr
        obtain ⟨b, o, rfl, hc⟩ := hos'.elem hjo
        have hok := hos'.e _ (List.getElem_mem hjo)
        obtain ⟨op, hop⟩ : ∃ op, op = os[j] := ⟨_, rfl⟩
        rw [← hop] at hc hok
        clear hop
        obtain ⟨kind, n, tk, aop, capp, lo⟩ := op
        obtain ⟨hb, hn, k1, k2, t1, t2⟩ := hok
        dsimp only [Opr.v, opCells] at hb hn k1 k2 t1 t2 hc
        go_wp2_with (with_reducible refine st_load 49 ?_)
        refine StopOp.go rfl fun K hK => ?_
        refine wp_load_mid 49 _ rfl b (o + j * 4) (by rfl) [.int .i64 kind, .int .u64 n, .int .i64 tk, .slice aop lo.length capp] _ hc Try.underlying49 rfl (by kernel_rfl) ?_
        simp only [put_some, List.set_cons_succ, List.set_cons_zero]
        refine hK _ _ ?_
        clear hK K
        go_wp2_with (with_reducible refine st_alloc ?_)
        refine StopOp.go rfl fun K hK => ?_
        refine wp_alloc zero_op ?_
        intro c w2 hc1 hc2 hm2' hB2
        simp only [put_some, List.set_cons_succ, List.set_cons_zero]
        refine hK _ _ ?_
        clear hK K
        go_wp2_with (with_reducible refine st_store ?_)
        refine StopOp.go rfl fun K hK => ?_
        refine wp_store (u := .agg #[.int .i64 kind, .int .u64 n, .int .i64 tk, .slice aop lo.length capp]) (by rfl) (by rfl) (by kernel_rfl) hB2 (by simp [Value.cells]) (by simp [Value.cells, Value.oneCell']) ?_
        intro w3 hm3' hB3
        refine hK _ _ ?_
        clear hK K
        have hm3x : Mod [] wr w3 := hm2'.fresh hm3' (by simpa using hc1)
        have c0 : w3.cell? ⟨c, 0, none⟩ = some (.int .i64 kind) := hB3.cell' (i := 0) rfl
        have c2 : w3.cell? ⟨c, 2, none⟩ = some (.int .i64 tk) := hB3.cell' (i := 2) rfl
        have hR3 := hR.ext hm3x
        have hD3 := hD.ext hm3x
        have hm3 := hmr.ext hm3x
        clear hB2 hm2' hm3' hc hos' hb hm3x hR hD hmr
        by_cases g1 : kind = 1
        · subst g1
          have hg : (got l err 1 : Int) ≤ 255 := by have := got_lt l err 1; omega
          have hg0 : (0 : Int) ≤ (got l err 1 : Int) := by omega
          obtain ⟨l', hl'⟩ : ∃ l', l' = tkRest l err (1 : Nat) := ⟨_, rfl⟩
          obtain ⟨err', herr'⟩ : ∃ e, e = tkErr l err (1 : Nat) := ⟨_, rfl⟩
          have hl6 : l'.length ≤ 1048576 := by rw [hl']; exact Nat.le_trans (tkRest_le ..) hlb
          go_wp2_with (first
                        | (go_at_call 41; refine (rbyte_any r q l err _ hR3).mono ?_; rintro e w4 ⟨rfl, hR4, hm4⟩)
                        | (go_at_call 42; refine (refNum_any d b0 l err _ 1 _ (hD3.keepR hR3 hm4) rfl (by omega) (by omega)).mono ?_; rintro e w6 ⟨rfl, hD6, hm6'⟩))
          have hR6 : Rd w6 r q l' err' := by rw [hl', herr']; exact hR4.keepD (hD3.keepR hR3 hm4) hm6'
          rw [← hl', ← herr'] at hD6
          have hm6 : Mod [] w w6 := (hm3.fresh hm4 (by simpa using hqw)).fresh hm6' (by simpa using hdw)
          clear hl' herr'
          have e2 : ∃ v at_, Blk w6 d 71 [v, .int .i64 at_, .int .i64 err'] := by
            obtain ⟨v, at_, h, _⟩ := hD6
            exact ⟨v, .ofNat at_, h⟩
          obtain ⟨vd, atd, hBd⟩ := e2
          refine wp_region_T [⟨0, true, []⟩, ⟨1, true, []⟩, ⟨2, true, []⟩, ⟨3, true, []⟩, ⟨5, true, []⟩, ⟨4, false, []⟩, ⟨6, false, []⟩, ⟨7, true, []⟩, ⟨8, true, []⟩, ⟨9, true, []⟩, ⟨10, true, []⟩, ⟨12, true, []⟩, ⟨13, true, []⟩, ⟨14, true, []⟩, ⟨15, true, []⟩, ⟨11, false, [13, 15]⟩, ⟨16, true, []⟩, ⟨17, true, []⟩, ⟨18, true, []⟩, ⟨19, true, []⟩, ⟨21, true, []⟩, ⟨20, false, []⟩, ⟨22, false, []⟩, ⟨23, true, []⟩, ⟨24, true, []⟩] (by kernel_rfl) (by kernel_rfl) ?_
          iterate 3 (refine wpT_n rfl rfl (fun K hK => ?_); go_wp2_with fail)
          iterate 2 (refine wpT_gq (gi := 2) rfl rfl rfl rfl rfl (fun K hK => ?_); go_wp2_with fail)
          refine wpT_gcall (gi := 2) rfl rfl rfl rfl (fun K hK => ?_)
          go_wp2_with (go_at_call 26; refine (left_any r q l' err' _ (hR6.ext (Mod.drew [] _))).mono ?_; rintro e w1 ⟨rfl, rfl⟩)
          refine wpT_gcall (gi := 2) rfl rfl rfl rfl (fun K hK => ?_)
          go_wp2_with (go_at_call 47; refine (refLeft_any d b0 l' err' _ (hD6.ext (Mod.drew [] _)) (by omega)).mono ?_; rintro e w7 ⟨rfl, hm7⟩)
          have hmA := (Mod.drew [] w6).ext hm7
          have hBd7 := hBd.ext hmA
          have cd := hBd7.cell' (i := 2) rfl
          refine wpT_gq (gi := 2) rfl rfl rfl rfl rfl (fun K hK => ?_)
          go_wp2_with fail
          iterate 2 (refine wpT_n rfl rfl (fun K hK => ?_); go_wp2_with fail)
          iterate 5 (refine wpT_gq (gi := 9) rfl rfl rfl rfl rfl (fun K hK => ?_); go_wp2_with fail)
          refine wpT_gcallh (gi := 9) rfl rfl rfl rfl (fun K hK => ?_)
          go_wp2_with (go_at_call 48; refine (err_any r q l' err' _ (hR6.ext hmA)).mono ?_; rintro e w1 ⟨rfl, rfl⟩)
          refine ⟨agains_same, ?_⟩
          refine wpT_gq (gi := 9) rfl rfl rfl rfl rfl (fun K hK => ?_)
          go_wp2_with fail
          iterate 2 (refine wpT_n rfl rfl (fun K hK => ?_); go_wp2_with fail)
          iterate 2 (refine wpT_gq (gi := 18) rfl rfl rfl rfl rfl (fun K hK => ?_); go_wp2_with fail)
          refine wpT_gcall (gi := 18) rfl rfl rfl rfl (fun K hK => ?_)
          go_wp2_with (go_at_call 49; refine (end_any r q l' err' _ (hR6.ext hmA)).mono ?_; rintro e w1 ⟨rfl, rfl⟩)
          refine wpT_gcall (gi := 18) rfl rfl rfl rfl (fun K hK => ?_)
          go_wp2_with (go_at_call 50; refine (refEnd_any d b0 l' err' _ (hD6.ext hmA) (by omega)).mono ?_; rintro e w8 ⟨rfl, hm8⟩)
          refine wpT_gq (gi := 18) rfl rfl rfl rfl rfl (fun K hK => ?_)
          go_wp2_with fail
          refine wpT_n rfl rfl (fun K hK => ?_)
          go_wp2_with fail
          refine wpT_nil ?_
          go_wp2_with fail
          go_roundw
          case rel => exact ⟨j + 1, l', err', by omega, by go_num, hm6.ext (hmA.ext hm8), hR6.ext (hmA.ext hm8), hD6.ext (hmA.ext hm8), hl6⟩
          case measure => simp [intOf]; omega
        have f1 : (kind == 1) = false := by simpa using g1
        by_cases g2 : kind = 2
        · subst g2
          have hg : (got l err 2 : Int) ≤ 65535 := by have := got_lt l err 2; omega
          have hg0 : (0 : Int) ≤ (got l err 2 : Int) := by omega
          obtain ⟨l', hl'⟩ : ∃ l', l' = tkRest l err (2 : Nat) := ⟨_, rfl⟩
          obtain ⟨err', herr'⟩ : ∃ e, e = tkErr l err (2 : Nat) := ⟨_, rfl⟩
          have hl6 : l'.length ≤ 1048576 := by rw [hl']; exact Nat.le_trans (tkRest_le ..) hlb
          go_wp2_with (first
                        | (go_at_call 43; refine (rtwo_any r q l err _ hR3).mono ?_; rintro e w4 ⟨rfl, hR4, hm4⟩)
                        | (go_at_call 42; refine (refNum_any d b0 l err _ 2 _ (hD3.keepR hR3 hm4) rfl (by omega) (by omega)).mono ?_; rintro e w6 ⟨rfl, hD6, hm6'⟩))
          have hR6 : Rd w6 r q l' err' := by rw [hl', herr']; exact hR4.keepD (hD3.keepR hR3 hm4) hm6'
          rw [← hl', ← herr'] at hD6
          have hm6 : Mod [] w w6 := (hm3.fresh hm4 (by simpa using hqw)).fresh hm6' (by simpa using hdw)
          clear hl' herr'
          have e2 : ∃ v at_, Blk w6 d 71 [v, .int .i64 at_, .int .i64 err'] := by
            obtain ⟨v, at_, h, _⟩ := hD6
            exact ⟨v, .ofNat at_, h⟩
          obtain ⟨vd, atd, hBd⟩ := e2
          refine wp_region_T [⟨0, true, []⟩, ⟨1, true, []⟩, ⟨2, true, []⟩, ⟨3, true, []⟩, ⟨5, true, []⟩, ⟨4, false, []⟩, ⟨6, false, []⟩, ⟨7, true, []⟩, ⟨8, true, []⟩, ⟨9, true, []⟩, ⟨10, true, []⟩, ⟨12, true, []⟩, ⟨13, true, []⟩, ⟨14, true, []⟩, ⟨15, true, []⟩, ⟨11, false, [13, 15]⟩, ⟨16, true, []⟩, ⟨17, true, []⟩, ⟨18, true, []⟩, ⟨19, true, []⟩, ⟨21, true, []⟩, ⟨20, false, []⟩, ⟨22, false, []⟩, ⟨23, true, []⟩, ⟨24, true, []⟩] (by kernel_rfl) (by kernel_rfl) ?_
          iterate 3 (refine wpT_n rfl rfl (fun K hK => ?_); go_wp2_with fail)
          iterate 2 (refine wpT_gq (gi := 2) rfl rfl rfl rfl rfl (fun K hK => ?_); go_wp2_with fail)
          refine wpT_gcall (gi := 2) rfl rfl rfl rfl (fun K hK => ?_)
          go_wp2_with (go_at_call 26; refine (left_any r q l' err' _ (hR6.ext (Mod.drew [] _))).mono ?_; rintro e w1 ⟨rfl, rfl⟩)
          refine wpT_gcall (gi := 2) rfl rfl rfl rfl (fun K hK => ?_)
          go_wp2_with (go_at_call 47; refine (refLeft_any d b0 l' err' _ (hD6.ext (Mod.drew [] _)) (by omega)).mono ?_; rintro e w7 ⟨rfl, hm7⟩)
          have hmA := (Mod.drew [] w6).ext hm7
          have hBd7 := hBd.ext hmA
          have cd := hBd7.cell' (i := 2) rfl
          refine wpT_gq (gi := 2) rfl rfl rfl rfl rfl (fun K hK => ?_)
          go_wp2_with fail
          iterate 2 (refine wpT_n rfl rfl (fun K hK => ?_); go_wp2_with fail)
          iterate 5 (refine wpT_gq (gi := 9) rfl rfl rfl rfl rfl (fun K hK => ?_); go_wp2_with fail)
          refine wpT_gcallh (gi := 9) rfl rfl rfl rfl (fun K hK => ?_)
          go_wp2_with (go_at_call 48; refine (err_any r q l' err' _ (hR6.ext hmA)).mono ?_; rintro e w1 ⟨rfl, rfl⟩)
          refine ⟨agains_same, ?_⟩
          refine wpT_gq (gi := 9) rfl rfl rfl rfl rfl (fun K hK => ?_)
          go_wp2_with fail
          iterate 2 (refine wpT_n rfl rfl (fun K hK => ?_); go_wp2_with fail)
          iterate 2 (refine wpT_gq (gi := 18) rfl rfl rfl rfl rfl (fun K hK => ?_); go_wp2_with fail)
          refine wpT_gcall (gi := 18) rfl rfl rfl rfl (fun K hK => ?_)
          go_wp2_with (go_at_call 49; refine (end_any r q l' err' _ (hR6.ext hmA)).mono ?_; rintro e w1 ⟨rfl, rfl⟩)
          refine wpT_gcall (gi := 18) rfl rfl rfl rfl (fun K hK => ?_)
          go_wp2_with (go_at_call 50; refine (refEnd_any d b0 l' err' _ (hD6.ext hmA) (by omega)).mono ?_; rintro e w8 ⟨rfl, hm8⟩)
          refine wpT_gq (gi := 18) rfl rfl rfl rfl rfl (fun K hK => ?_)
          go_wp2_with fail
          refine wpT_n rfl rfl (fun K hK => ?_)
          go_wp2_with fail
          refine wpT_nil ?_
          go_wp2_with fail
          go_roundw
          case rel => exact ⟨j + 1, l', err', by omega, by go_num, hm6.ext (hmA.ext hm8), hR6.ext (hmA.ext hm8), hD6.ext (hmA.ext hm8), hl6⟩
          case measure => simp [intOf]; omega
        have f2 : (kind == 2) = false := by simpa using g2
        by_cases g3 : kind = 3
        · subst g3
          have hg : (got l err 4 : Int) ≤ 4294967295 := by have := got_lt l err 4; omega
          have hg0 : (0 : Int) ≤ (got l err 4 : Int) := by omega
          obtain ⟨l', hl'⟩ : ∃ l', l' = tkRest l err (4 : Nat) := ⟨_, rfl⟩
          obtain ⟨err', herr'⟩ : ∃ e, e = tkErr l err (4 : Nat) := ⟨_, rfl⟩
          have hl6 : l'.length ≤ 1048576 := by rw [hl']; exact Nat.le_trans (tkRest_le ..) hlb
          go_wp2_with (first
                        | (go_at_call 44; refine (rfour_any r q l err _ hR3).mono ?_; rintro e w4 ⟨rfl, hR4, hm4⟩)
                        | (go_at_call 42; refine (refNum_any d b0 l err _ 4 _ (hD3.keepR hR3 hm4) rfl (by omega) (by omega)).mono ?_; rintro e w6 ⟨rfl, hD6, hm6'⟩))
          have hR6 : Rd w6 r q l' err' := by rw [hl', herr']; exact hR4.keepD (hD3.keepR hR3 hm4) hm6'
          rw [← hl', ← herr'] at hD6
          have hm6 : Mod [] w w6 := (hm3.fresh hm4 (by simpa using hqw)).fresh hm6' (by simpa using hdw)
          clear hl' herr'
          have e2 : ∃ v at_, Blk w6 d 71 [v, .int .i64 at_, .int .i64 err'] := by
            obtain ⟨v, at_, h, _⟩ := hD6
            exact ⟨v, .ofNat at_, h⟩
          obtain ⟨vd, atd, hBd⟩ := e2
          refine wp_region_T [⟨0, true, []⟩, ⟨1, true, []⟩, ⟨2, true, []⟩, ⟨3, true, []⟩, ⟨5, true, []⟩, ⟨4, false, []⟩, ⟨6, false, []⟩, ⟨7, true, []⟩, ⟨8, true, []⟩, ⟨9, true, []⟩, ⟨10, true, []⟩, ⟨12, true, []⟩, ⟨13, true, []⟩, ⟨14, true, []⟩, ⟨15, true, []⟩, ⟨11, false, [13, 15]⟩, ⟨16, true, []⟩, ⟨17, true, []⟩, ⟨18, true, []⟩, ⟨19, true, []⟩, ⟨21, true, []⟩, ⟨20, false, []⟩, ⟨22, false, []⟩, ⟨23, true, []⟩, ⟨24, true, []⟩] (by kernel_rfl) (by kernel_rfl) ?_
          iterate 3 (refine wpT_n rfl rfl (fun K hK => ?_); go_wp2_with fail)
          iterate 2 (refine wpT_gq (gi := 2) rfl rfl rfl rfl rfl (fun K hK => ?_); go_wp2_with fail)
          refine wpT_gcall (gi := 2) rfl rfl rfl rfl (fun K hK => ?_)
          go_wp2_with (go_at_call 26; refine (left_any r q l' err' _ (hR6.ext (Mod.drew [] _))).mono ?_; rintro e w1 ⟨rfl, rfl⟩)
          refine wpT_gcall (gi := 2) rfl rfl rfl rfl (fun K hK => ?_)
          go_wp2_with (go_at_call 47; refine (refLeft_any d b0 l' err' _ (hD6.ext (Mod.drew [] _)) (by omega)).mono ?_; rintro e w7 ⟨rfl, hm7⟩)
          have hmA := (Mod.drew [] w6).ext hm7
          have hBd7 := hBd.ext hmA
          have cd := hBd7.cell' (i := 2) rfl
          refine wpT_gq (gi := 2) rfl rfl rfl rfl rfl (fun K hK => ?_)
          go_wp2_with fail
          iterate 2 (refine wpT_n rfl rfl (fun K hK => ?_); go_wp2_with fail)
          iterate 5 (refine wpT_gq (gi := 9) rfl rfl rfl rfl rfl (fun K hK => ?_); go_wp2_with fail)
          refine wpT_gcallh (gi := 9) rfl rfl rfl rfl (fun K hK => ?_)
          go_wp2_with (go_at_call 48; refine (err_any r q l' err' _ (hR6.ext hmA)).mono ?_; rintro e w1 ⟨rfl, rfl⟩)
          refine ⟨agains_same, ?_⟩
          refine wpT_gq (gi := 9) rfl rfl rfl rfl rfl (fun K hK => ?_)
          go_wp2_with fail
          iterate 2 (refine wpT_n rfl rfl (fun K hK => ?_); go_wp2_with fail)
          iterate 2 (refine wpT_gq (gi := 18) rfl rfl rfl rfl rfl (fun K hK => ?_); go_wp2_with fail)
          refine wpT_gcall (gi := 18) rfl rfl rfl rfl (fun K hK => ?_)
          go_wp2_with (go_at_call 49; refine (end_any r q l' err' _ (hR6.ext hmA)).mono ?_; rintro e w1 ⟨rfl, rfl⟩)
          refine wpT_gcall (gi := 18) rfl rfl rfl rfl (fun K hK => ?_)
          go_wp2_with (go_at_call 50; refine (refEnd_any d b0 l' err' _ (hD6.ext hmA) (by omega)).mono ?_; rintro e w8 ⟨rfl, hm8⟩)
          refine wpT_gq (gi := 18) rfl rfl rfl rfl rfl (fun K hK => ?_)
          go_wp2_with fail
          refine wpT_n rfl rfl (fun K hK => ?_)
          go_wp2_with fail
          refine wpT_nil ?_
          go_wp2_with fail
          go_roundw
          case rel => exact ⟨j + 1, l', err', by omega, by go_num, hm6.ext (hmA.ext hm8), hR6.ext (hmA.ext hm8), hD6.ext (hmA.ext hm8), hl6⟩
          case measure => simp [intOf]; omega
        have f3 : (kind == 3) = false := by simpa using g3
        by_cases g4 : kind = 4
        · subst g4
          have hg : (got l err 8 : Int) ≤ 18446744073709551615 := by have := got_lt l err 8; omega
          have hg0 : (0 : Int) ≤ (got l err 8 : Int) := by omega
          obtain ⟨l', hl'⟩ : ∃ l', l' = tkRest l err (8 : Nat) := ⟨_, rfl⟩
          obtain ⟨err', herr'⟩ : ∃ e, e = tkErr l err (8 : Nat) := ⟨_, rfl⟩
          have hl6 : l'.length ≤ 1048576 := by rw [hl']; exact Nat.le_trans (tkRest_le ..) hlb
          go_wp2_with (first
                        | (go_at_call 45; refine (reight_any r q l err _ hR3).mono ?_; rintro e w4 ⟨rfl, hR4, hm4⟩)
                        | (go_at_call 42; refine (refNum_any d b0 l err _ 8 _ (hD3.keepR hR3 hm4) rfl (by omega) (by omega)).mono ?_; rintro e w6 ⟨rfl, hD6, hm6'⟩))
          have hR6 : Rd w6 r q l' err' := by rw [hl', herr']; exact hR4.keepD (hD3.keepR hR3 hm4) hm6'
          rw [← hl', ← herr'] at hD6
          have hm6 : Mod [] w w6 := (hm3.fresh hm4 (by simpa using hqw)).fresh hm6' (by simpa using hdw)
          clear hl' herr'
          have e2 : ∃ v at_, Blk w6 d 71 [v, .int .i64 at_, .int .i64 err'] := by
            obtain ⟨v, at_, h, _⟩ := hD6
            exact ⟨v, .ofNat at_, h⟩
          obtain ⟨vd, atd, hBd⟩ := e2
          refine wp_region_T [⟨0, true, []⟩, ⟨1, true, []⟩, ⟨2, true, []⟩, ⟨3, true, []⟩, ⟨5, true, []⟩, ⟨4, false, []⟩, ⟨6, false, []⟩, ⟨7, true, []⟩, ⟨8, true, []⟩, ⟨9, true, []⟩, ⟨10, true, []⟩, ⟨12, true, []⟩, ⟨13, true, []⟩, ⟨14, true, []⟩, ⟨15, true, []⟩, ⟨11, false, [13, 15]⟩, ⟨16, true, []⟩, ⟨17, true, []⟩, ⟨18, true, []⟩, ⟨19, true, []⟩, ⟨21, true, []⟩, ⟨20, false, []⟩, ⟨22, false, []⟩, ⟨23, true, []⟩, ⟨24, true, []⟩] (by kernel_rfl) (by kernel_rfl) ?_
          iterate 3 (refine wpT_n rfl rfl (fun K hK => ?_); go_wp2_with fail)
          iterate 2 (refine wpT_gq (gi := 2) rfl rfl rfl rfl rfl (fun K hK => ?_); go_wp2_with fail)
          refine wpT_gcall (gi := 2) rfl rfl rfl rfl (fun K hK => ?_)
          go_wp2_with (go_at_call 26; refine (left_any r q l' err' _ (hR6.ext (Mod.drew [] _))).mono ?_; rintro e w1 ⟨rfl, rfl⟩)
          refine wpT_gcall (gi := 2) rfl rfl rfl rfl (fun K hK => ?_)
          go_wp2_with (go_at_call 47; refine (refLeft_any d b0 l' err' _ (hD6.ext (Mod.drew [] _)) (by omega)).mono ?_; rintro e w7 ⟨rfl, hm7⟩)
          have hmA := (Mod.drew [] w6).ext hm7
          have hBd7 := hBd.ext hmA
          have cd := hBd7.cell' (i := 2) rfl
          refine wpT_gq (gi := 2) rfl rfl rfl rfl rfl (fun K hK => ?_)
          go_wp2_with fail
          iterate 2 (refine wpT_n rfl rfl (fun K hK => ?_); go_wp2_with fail)
          iterate 5 (refine wpT_gq (gi := 9) rfl rfl rfl rfl rfl (fun K hK => ?_); go_wp2_with fail)
          refine wpT_gcallh (gi := 9) rfl rfl rfl rfl (fun K hK => ?_)
          go_wp2_with (go_at_call 48; refine (err_any r q l' err' _ (hR6.ext hmA)).mono ?_; rintro e w1 ⟨rfl, rfl⟩)
          refine ⟨agains_same, ?_⟩
          refine wpT_gq (gi := 9) rfl rfl rfl rfl rfl (fun K hK => ?_)
          go_wp2_with fail
          iterate 2 (refine wpT_n rfl rfl (fun K hK => ?_); go_wp2_with fail)
          iterate 2 (refine wpT_gq (gi := 18) rfl rfl rfl rfl rfl (fun K hK => ?_); go_wp2_with fail)
          refine wpT_gcall (gi := 18) rfl rfl rfl rfl (fun K hK => ?_)
          go_wp2_with (go_at_call 49; refine (end_any r q l' err' _ (hR6.ext hmA)).mono ?_; rintro e w1 ⟨rfl, rfl⟩)
          refine wpT_gcall (gi := 18) rfl rfl rfl rfl (fun K hK => ?_)
          go_wp2_with (go_at_call 50; refine (refEnd_any d b0 l' err' _ (hD6.ext hmA) (by omega)).mono ?_; rintro e w8 ⟨rfl, hm8⟩)
          refine wpT_gq (gi := 18) rfl rfl rfl rfl rfl (fun K hK => ?_)
          go_wp2_with fail
          refine wpT_n rfl rfl (fun K hK => ?_)
          go_wp2_with fail
          refine wpT_nil ?_
          go_wp2_with fail
          go_roundw
          case rel => exact ⟨j + 1, l', err', by omega, by go_num, hm6.ext (hmA.ext hm8), hR6.ext (hmA.ext hm8), hD6.ext (hmA.ext hm8), hl6⟩
          case measure => simp [intOf]; omega
        have f4 : (kind == 4) = false := by simpa using g4
        by_cases g5 : kind = 5
        · subst g5
          obtain ⟨l', hl'⟩ : ∃ l', l' = tkRest l err tk := ⟨_, rfl⟩
          obtain ⟨err', herr'⟩ : ∃ e, e = tkErr l err tk := ⟨_, rfl⟩
          have hl6 : l'.length ≤ 1048576 := by rw [hl']; exact Nat.le_trans (tkRest_le ..) hlb
          have hcq : c ≠ q := by
            obtain ⟨_, h, _⟩ := hR3.2
            exact hB3.ne h (by decide)
          go_wp2_with fail
          refine wp_region_T [⟨0, true, []⟩, ⟨1, true, []⟩, ⟨2, true, []⟩, ⟨4, true, []⟩, ⟨5, true, []⟩, ⟨6, true, []⟩, ⟨3, false, [6]⟩, ⟨7, false, []⟩, ⟨8, false, []⟩, ⟨9, true, []⟩] (by kernel_rfl) (by kernel_rfl) ?_
          iterate 6 (refine wpT_n rfl rfl (fun K hK => ?_); go_wp2_with fail)
          refine wpT_callh rfl rfl (fun K hK => ?_)
          have hR3' := hR3.ext (Mod.drew [] _)
          have hD3' := hD3.ext (Mod.drew [] _)
          have hB3' := hB3.ext (Mod.drew [] _)
          have hm3d := hm3.ext (Mod.drew [] _)
          go_wp2_with (go_at_call 25; refine (rtake_any r q l err tk _ hR3' t1 t2 (by omega)).mono ?_; rintro e w4 ⟨v4, rfl, hv4, hn4, hR4, hm4⟩; obtain ⟨ao4, cap4, rfl, _, _⟩ := hv4.bs.form)
          refine ⟨agains_cons rfl (again_load rfl rfl (hm4.block c hB3'.lt (by simpa using hcq)) hB3'.kinds) agains_nil, ?_⟩
          refine wpT_call rfl rfl (fun K hK => ?_)
          go_wp2_with (go_at_call 46; refine (refTake_any d b0 l err tk _ (hD3'.keepR hR3' hm4) t1 t2 (by omega)).mono ?_; rintro e w5 ⟨v5, rfl, hv5, hn5, hD5, hm5'⟩; obtain ⟨ao5, cap5, rfl, _, _⟩ := hv5.bs.form)
          have hdn : d ∉ blks (.slice ao4 (tkGot l err tk).length cap4) := fun h => by
            have h1 := hn4 d h
            obtain ⟨_, _, h2, _⟩ := hD3'
            have := h2.lt
            omega
          have hv4' : Bs w5 (.slice ao4 (tkGot l err tk).length cap4) (tkGot l err tk) := hv4.bs.mod hm5' (fun k hk hkd => hdn (by
            have : k = d := by simpa using hkd
            exact this ▸ hk))
          have hR5 := hR4.keepD (hD3'.keepR hR3' hm4) hm5'
          refine wpT_call rfl rfl (fun K hK => ?_)
          go_wp2_with (go_at_call 27; refine (same_yes _ _ _ _ _ hv4' hv5.bs rfl).mono ?_; rintro e w6 ⟨rfl, hm6'⟩)
          refine wpT_n rfl rfl (fun K hK => ?_)
          go_wp2_with fail
          refine wpT_nil ?_
          go_wp2_with fail
          have hR6 : Rd w6 r q l' err' := by rw [hl', herr']; exact hR5.ext hm6'
          have hD6 : Rr w6 d b0 l' err' := by rw [hl', herr']; exact hD5.ext hm6'
          have hm6 : Mod [] w w6 := ((hm3d.fresh hm4 (by simpa using hqw)).fresh hm5' (by simpa using hdw)).ext hm6'
          clear hl' herr'
          have e2 : ∃ v at_, Blk w6 d 71 [v, .int .i64 at_, .int .i64 err'] := by
            obtain ⟨v, at_, h, _⟩ := hD6
            exact ⟨v, .ofNat at_, h⟩
          obtain ⟨vd, atd, hBd⟩ := e2
          refine wp_region_T [⟨0, true, []⟩, ⟨1, true, []⟩, ⟨2, true, []⟩, ⟨3, true, []⟩, ⟨5, true, []⟩, ⟨4, false, []⟩, ⟨6, false, []⟩, ⟨7, true, []⟩, ⟨8, true, []⟩, ⟨9, true, []⟩, ⟨10, true, []⟩, ⟨12, true, []⟩, ⟨13, true, []⟩, ⟨14, true, []⟩, ⟨15, true, []⟩, ⟨11, false, [13, 15]⟩, ⟨16, true, []⟩, ⟨17, true, []⟩, ⟨18, true, []⟩, ⟨19, true, []⟩, ⟨21, true, []⟩, ⟨20, false, []⟩, ⟨22, false, []⟩, ⟨23, true, []⟩, ⟨24, true, []⟩] (by kernel_rfl) (by kernel_rfl) ?_
          iterate 3 (refine wpT_n rfl rfl (fun K hK => ?_); go_wp2_with fail)
          iterate 2 (refine wpT_gq (gi := 2) rfl rfl rfl rfl rfl (fun K hK => ?_); go_wp2_with fail)
          refine wpT_gcall (gi := 2) rfl rfl rfl rfl (fun K hK => ?_)
          go_wp2_with (go_at_call 26; refine (left_any r q l' err' _ (hR6.ext (Mod.drew [] _))).mono ?_; rintro e w1 ⟨rfl, rfl⟩)
          refine wpT_gcall (gi := 2) rfl rfl rfl rfl (fun K hK => ?_)
          go_wp2_with (go_at_call 47; refine (refLeft_any d b0 l' err' _ (hD6.ext (Mod.drew [] _)) (by omega)).mono ?_; rintro e w7 ⟨rfl, hm7⟩)
          have hmA := (Mod.drew [] w6).ext hm7
          have hBd7 := hBd.ext hmA
          have cd := hBd7.cell' (i := 2) rfl
          refine wpT_gq (gi := 2) rfl rfl rfl rfl rfl (fun K hK => ?_)
          go_wp2_with fail
          iterate 2 (refine wpT_n rfl rfl (fun K hK => ?_); go_wp2_with fail)
          iterate 5 (refine wpT_gq (gi := 9) rfl rfl rfl rfl rfl (fun K hK => ?_); go_wp2_with fail)
          refine wpT_gcallh (gi := 9) rfl rfl rfl rfl (fun K hK => ?_)
          go_wp2_with (go_at_call 48; refine (err_any r q l' err' _ (hR6.ext hmA)).mono ?_; rintro e w1 ⟨rfl, rfl⟩)
          refine ⟨agains_same, ?_⟩
          refine wpT_gq (gi := 9) rfl rfl rfl rfl rfl (fun K hK => ?_)
          go_wp2_with fail
          iterate 2 (refine wpT_n rfl rfl (fun K hK => ?_); go_wp2_with fail)
          iterate 2 (refine wpT_gq (gi := 18) rfl rfl rfl rfl rfl (fun K hK => ?_); go_wp2_with fail)
          refine wpT_gcall (gi := 18) rfl rfl rfl rfl (fun K hK => ?_)
          go_wp2_with (go_at_call 49; refine (end_any r q l' err' _ (hR6.ext hmA)).mono ?_; rintro e w1 ⟨rfl, rfl⟩)
          refine wpT_gcall (gi := 18) rfl rfl rfl rfl (fun K hK => ?_)
          go_wp2_with (go_at_call 50; refine (refEnd_any d b0 l' err' _ (hD6.ext hmA) (by omega)).mono ?_; rintro e w8 ⟨rfl, hm8⟩)
          refine wpT_gq (gi := 18) rfl rfl rfl rfl rfl (fun K hK => ?_)
          go_wp2_with fail
          refine wpT_n rfl rfl (fun K hK => ?_)
          go_wp2_with fail
          refine wpT_nil ?_
          go_wp2_with fail
          go_roundw
          case rel => exact ⟨j + 1, l', err', by omega, by go_num, hm6.ext (hmA.ext hm8), hR6.ext (hmA.ext hm8), hD6.ext (hmA.ext hm8), hl6⟩
          case measure => simp [intOf]; omega
        have f5 : (kind == 5) = false := by simpa using g5
        have hl6 := hlb
        have hR6 := hR3
        have hD6 := hD3
        have hm6 := hm3
        go_wp2_with fail
        have e2 : ∃ v at_, Blk w3 d 71 [v, .int .i64 at_, .int .i64 err] := by
          obtain ⟨v, at_, h, _⟩ := hD6
          exact ⟨v, .ofNat at_, h⟩
        obtain ⟨vd, atd, hBd⟩ := e2
        refine wp_region_T [⟨0, true, []⟩, ⟨1, true, []⟩, ⟨2, true, []⟩, ⟨3, true, []⟩, ⟨5, true, []⟩, ⟨4, false, []⟩, ⟨6, false, []⟩, ⟨7, true, []⟩, ⟨8, true, []⟩, ⟨9, true, []⟩, ⟨10, true, []⟩, ⟨12, true, []⟩, ⟨13, true, []⟩, ⟨14, true, []⟩, ⟨15, true, []⟩, ⟨11, false, [13, 15]⟩, ⟨16, true, []⟩, ⟨17, true, []⟩, ⟨18, true, []⟩, ⟨19, true, []⟩, ⟨21, true, []⟩, ⟨20, false, []⟩, ⟨22, false, []⟩, ⟨23, true, []⟩, ⟨24, true, []⟩] (by kernel_rfl) (by kernel_rfl) ?_
        iterate 3 (refine wpT_n rfl rfl (fun K hK => ?_); go_wp2_with fail)
        iterate 2 (refine wpT_gq (gi := 2) rfl rfl rfl rfl rfl (fun K hK => ?_); go_wp2_with fail)
        refine wpT_gcall (gi := 2) rfl rfl rfl rfl (fun K hK => ?_)
        go_wp2_with (go_at_call 26; refine (left_any r q l err _ (hR6.ext (Mod.drew [] _))).mono ?_; rintro e w1 ⟨rfl, rfl⟩)
        refine wpT_gcall (gi := 2) rfl rfl rfl rfl (fun K hK => ?_)
        go_wp2_with (go_at_call 47; refine (refLeft_any d b0 l err _ (hD6.ext (Mod.drew [] _)) (by omega)).mono ?_; rintro e w7 ⟨rfl, hm7⟩)
        have hmA := (Mod.drew [] w3).ext hm7
        have hBd7 := hBd.ext hmA
        have cd := hBd7.cell' (i := 2) rfl
        refine wpT_gq (gi := 2) rfl rfl rfl rfl rfl (fun K hK => ?_)
        go_wp2_with fail
        iterate 2 (refine wpT_n rfl rfl (fun K hK => ?_); go_wp2_with fail)
        iterate 5 (refine wpT_gq (gi := 9) rfl rfl rfl rfl rfl (fun K hK => ?_); go_wp2_with fail)
        refine wpT_gcallh (gi := 9) rfl rfl rfl rfl (fun K hK => ?_)
        go_wp2_with (go_at_call 48; refine (err_any r q l err _ (hR6.ext hmA)).mono ?_; rintro e w1 ⟨rfl, rfl⟩)
        refine ⟨agains_same, ?_⟩
        refine wpT_gq (gi := 9) rfl rfl rfl rfl rfl (fun K hK => ?_)
        go_wp2_with fail
        iterate 2 (refine wpT_n rfl rfl (fun K hK => ?_); go_wp2_with fail)
        iterate 2 (refine wpT_gq (gi := 18) rfl rfl rfl rfl rfl (fun K hK => ?_); go_wp2_with fail)
        refine wpT_gcall (gi := 18) rfl rfl rfl rfl (fun K hK => ?_)
        go_wp2_with (go_at_call 49; refine (end_any r q l err _ (hR6.ext hmA)).mono ?_; rintro e w1 ⟨rfl, rfl⟩)
        refine wpT_gcall (gi := 18) rfl rfl rfl rfl (fun K hK => ?_)
        go_wp2_with (go_at_call 50; refine (refEnd_any d b0 l err _ (hD6.ext hmA) (by omega)).mono ?_; rintro e w8 ⟨rfl, hm8⟩)
        refine wpT_gq (gi := 18) rfl rfl rfl rfl rfl (fun K hK => ?_)
        go_wp2_with fail
        refine wpT_n rfl rfl (fun K hK => ?_)
        go_wp2_with fail
        refine wpT_nil ?_
        go_wp2_with fail
        go_roundw
        case rel => exact ⟨j + 1, l, err, by omega, by go_num, hm6.ext (hmA.ext hm8), hR6.ext (hmA.ext hm8), hD6.ext (hmA.ext hm8), hl6⟩
        case measure => simp [intOf]; omega
      · obtain rfl : j = m := by omega
        go_wp2_with (go_at_call 19; refine (awake_any _).mono ?_; rintro e w8 ⟨rfl, hm8⟩)
        go_ret
        exact ⟨rfl, hmr.ext hm8⟩
  · go_enter Try.func7, Try.ntmps7
    go_wp2_with (first
                  | (with_reducible refine st_box ?_)
                  | (go_at_call 30; refine (lent_any b0 _ _ hb0 (by omega)).mono ?_; rintro e w1 ⟨gi, capi, rfl, hgi, hli, hm1'⟩)
                  | (go_at_call 23; refine (of_where b0 _ _ hli.bs (by omega)).mono ?_; rintro e w2 ⟨r, q, vr, rfl, hr, hq, hqr, hBr, hBq, hvr, hnr, hm2'⟩)
                  | (go_at_call 31; refine (kept_any gi capi b0 _ _ (hli.ext hm2') ((hb0.ext hm1').ext hm2')).mono ?_; rintro e w3 ⟨rfl, hm3'⟩)
                  | (go_at_call 32; refine (over_any gi capi b0 _ ((hli.ext hm2').ext hm3') (by omega)).mono ?_; rintro e w4 ⟨rfl, hm4'⟩))
    have hgl : gi < w1.heap.size := by
      obtain ⟨_, h, _⟩ := hli
      exact h.lt
    have hrd4 : Rd w4 r q b0 0 := ⟨(hBr.ext hm3').mod hm4' (by simp; omega), vr, (hBq.ext hm3').mod hm4' (by simp; omega), (hvr.ext hm3').mod hm4' (fun k hk hkg => by
      have h1 := hnr k hk
      have : k = gi := by simpa using hkg
      omega)⟩
    have hm4 : Mod [] w w4 := ((hm1'.ext hm2').ext hm3').fresh hm4' (by simpa using hgi)
    refine StopOp.go rfl fun K hK => ?_
    refine wp_box (v := .agg #[.slice aob b0.length capb, .int .i64 0, .int .i64 0]) (by rfl) ?_
    intro d w5 hd1 hd2 hm5' hB5
    simp only [put_some, List.set_cons_succ, List.set_cons_zero]
    refine hK _ _ ?_
    clear hK K
    have hrr5 : Rr w5 d b0 b0 0 := ⟨_, 0, hB5, hb0.ext (hm4.ext hm5'), by omega, fun _ => by simp, fun h => absurd rfl h⟩
    have hrd5 := hrd4.ext hm5'
    have hm5 := hm4.ext hm5'
    have hqw : w.heap.size ≤ q := Nat.le_trans hm1'.size hq
    have hdw : w.heap.size ≤ d := Nat.le_trans hm4.size hd1
    clear hB5 hm5' hrd4 hm4 hm4' hm3' hm2' hm1' hBr hBq hvr hnr hli
    go_wp2_with fail
    go_loopw [9] (fun i wr => ∃ (j : Nat) (l : List UInt8) (err : Int), j ≤ m ∧ i = .int .i64 j ∧ Mod [] w wr ∧ Rd wr r q l err ∧ Rr wr d b0 l err ∧ l.length ≤ 1048576) (fun i _ => m - (intOf i).toNat)
    case atStart => exact ⟨0, b0, 0, by omega, rfl, hm5, hrd5, hrr5, hT⟩
    case round =>
      obtain ⟨j, l, err, hj, rfl, hmr, hR, hD, hlb⟩ := hrel
      by_cases hlt : j < m
      · have y1 : (j : Int) < os.length := by omega
        have y2 : (j : Int) < 2000 := by omega
        have hjo : j < os.length := by omega
        have hos' := hos.ext hmr
        obtain ⟨b, o, rfl, hc⟩ := hos'.elem hjo
        have hok := hos'.e _ (List.getElem_mem hjo)
        obtain ⟨op, hop⟩ : ∃ op, op = os[j] := ⟨_, rfl⟩
        rw [← hop] at hc hok
        clear hop
        obtain ⟨kind, n, tk, aop, capp, lo⟩ := op
        obtain ⟨hb, hn, k1, k2, t1, t2⟩ := hok
        dsimp only [Opr.v, opCells] at hb hn k1 k2 t1 t2 hc
        go_wp2_with (with_reducible refine st_load 49 ?_)
        refine StopOp.go rfl fun K hK => ?_
        refine wp_load_mid 49 _ rfl b (o + j * 4) (by rfl) [.int .i64 kind, .int .u64 n, .int .i64 tk, .slice aop lo.length capp] _ hc Try.underlying49 rfl (by kernel_rfl) ?_
        simp only [put_some, List.set_cons_succ, List.set_cons_zero]
        refine hK _ _ ?_
        clear hK K
        go_wp2_with (with_reducible refine st_alloc ?_)
        refine StopOp.go rfl fun K hK => ?_
        refine wp_alloc zero_op ?_
        intro c w2 hc1 hc2 hm2' hB2
        simp only [put_some, List.set_cons_succ, List.set_cons_zero]
        refine hK _ _ ?_
        clear hK K
        go_wp2_with (with_reducible refine st_store ?_)
        refine StopOp.go rfl fun K hK => ?_
        refine wp_store (u := .agg #[.int .i64 kind, .int .u64 n, .int .i64 tk, .slice aop lo.length capp]) (by rfl) (by rfl) (by kernel_rfl) hB2 (by simp [Value.cells]) (by simp [Value.cells, Value.oneCell']) ?_
        intro w3 hm3' hB3
        refine hK _ _ ?_
        clear hK K
        have hm3x : Mod [] wr w3 := hm2'.fresh hm3' (by simpa using hc1)
        have c0 : w3.cell? ⟨c, 0, none⟩ = some (.int .i64 kind) := hB3.cell' (i := 0) rfl
        have c2 : w3.cell? ⟨c, 2, none⟩ = some (.int .i64 tk) := hB3.cell' (i := 2) rfl
        have hR3 := hR.ext hm3x
        have hD3 := hD.ext hm3x
        have hm3 := hmr.ext hm3x
        clear hB2 hm2' hm3' hc hos' hb hm3x hR hD hmr
        by_cases g1 : kind = 1
        · subst g1
          have hg : (got l err 1 : Int) ≤ 255 := by have := got_lt l err 1; omega
          have hg0 : (0 : Int) ≤ (got l err 1 : Int) := by omega
          obtain ⟨l', hl'⟩ : ∃ l', l' = tkRest l err (1 : Nat) := ⟨_, rfl⟩
          obtain ⟨err', herr'⟩ : ∃ e, e = tkErr l err (1 : Nat) := ⟨_, rfl⟩
          have hl6 : l'.length ≤ 1048576 := by rw [hl']; exact Nat.le_trans (tkRest_le ..) hlb
          go_wp2_with (first
                        | (go_at_call 41; refine (rbyte_any r q l err _ hR3).mono ?_; rintro e w4 ⟨rfl, hR4, hm4⟩)
                        | (go_at_call 42; refine (refNum_any d b0 l err _ 1 _ (hD3.keepR hR3 hm4) rfl (by omega) (by omega)).mono ?_; rintro e w6 ⟨rfl, hD6, hm6'⟩))
          have hR6 : Rd w6 r q l' err' := by rw [hl', herr']; exact hR4.keepD (hD3.keepR hR3 hm4) hm6'
          rw [← hl', ← herr'] at hD6
          have hm6 : Mod [] w w6 := (hm3.fresh hm4 (by simpa using hqw)).fresh hm6' (by simpa using hdw)
          clear hl' herr'
          have e2 : ∃ v at_, Blk w6 d 71 [v, .int .i64 at_, .int .i64 err'] := by
            obtain ⟨v, at_, h, _⟩ := hD6
            exact ⟨v, .ofNat at_, h⟩
          obtain ⟨vd, atd, hBd⟩ := e2
          refine wp_region_T [⟨0, true, []⟩, ⟨1, true, []⟩, ⟨2, true, []⟩, ⟨3, true, []⟩, ⟨5, true, []⟩, ⟨4, false, []⟩, ⟨6, false, []⟩, ⟨7, true, []⟩, ⟨8, true, []⟩, ⟨9, true, []⟩, ⟨10, true, []⟩, ⟨12, true, []⟩, ⟨13, true, []⟩, ⟨14, true, []⟩, ⟨15, true, []⟩, ⟨11, false, [13, 15]⟩, ⟨16, true, []⟩, ⟨17, true, []⟩, ⟨18, true, []⟩, ⟨19, true, []⟩, ⟨21, true, []⟩, ⟨20, false, []⟩, ⟨22, false, []⟩, ⟨23, true, []⟩, ⟨24, true, []⟩] (by kernel_rfl) (by kernel_rfl) ?_
          iterate 3 (refine wpT_n rfl rfl (fun K hK => ?_); go_wp2_with fail)
          iterate 2 (refine wpT_gq (gi := 2) rfl rfl rfl rfl rfl (fun K hK => ?_); go_wp2_with fail)
          refine wpT_gcall (gi := 2) rfl rfl rfl rfl (fun K hK => ?_)
          go_wp2_with (go_at_call 26; refine (left_any r q l' err' _ (hR6.ext (Mod.drew [] _))).mono ?_; rintro e w1 ⟨rfl, rfl⟩)
          refine wpT_gcall (gi := 2) rfl rfl rfl rfl (fun K hK => ?_)
          go_wp2_with (go_at_call 47; refine (refLeft_any d b0 l' err' _ (hD6.ext (Mod.drew [] _)) (by omega)).mono ?_; rintro e w7 ⟨rfl, hm7⟩)
          have hmA := (Mod.drew [] w6).ext hm7
          have hBd7 := hBd.ext hmA
          have cd := hBd7.cell' (i := 2) rfl
          refine wpT_gq (gi := 2) rfl rfl rfl rfl rfl (fun K hK => ?_)
          go_wp2_with fail
          iterate 2 (refine wpT_n rfl rfl (fun K hK => ?_); go_wp2_with fail)
          iterate 5 (refine wpT_gq (gi := 9) rfl rfl rfl rfl rfl (fun K hK => ?_); go_wp2_with fail)
          refine wpT_gcallh (gi := 9) rfl rfl rfl rfl (fun K hK => ?_)
          go_wp2_with (go_at_call 48; refine (err_any r q l' err' _ (hR6.ext hmA)).mono ?_; rintro e w1 ⟨rfl, rfl⟩)
          refine ⟨agains_same, ?_⟩
          refine wpT_gq (gi := 9) rfl rfl rfl rfl rfl (fun K hK => ?_)
          go_wp2_with fail
          iterate 2 (refine wpT_n rfl rfl (fun K hK => ?_); go_wp2_with fail)
          iterate 2 (refine wpT_gq (gi := 18) rfl rfl rfl rfl rfl (fun K hK => ?_); go_wp2_with fail)
          refine wpT_gcall (gi := 18) rfl rfl rfl rfl (fun K hK => ?_)
          go_wp2_with (go_at_call 49; refine (end_any r q l' err' _ (hR6.ext hmA)).mono ?_; rintro e w1 ⟨rfl, rfl⟩)
          refine wpT_gcall (gi := 18) rfl rfl rfl rfl (fun K hK => ?_)
          go_wp2_with (go_at_call 50; refine (refEnd_any d b0 l' err' _ (hD6.ext hmA) (by omega)).mono ?_; rintro e w8 ⟨rfl, hm8⟩)
          refine wpT_gq (gi := 18) rfl rfl rfl rfl rfl (fun K hK => ?_)
          go_wp2_with fail
          refine wpT_n rfl rfl (fun K hK => ?_)
          go_wp2_with fail
          refine wpT_nil ?_
          go_wp2_with fail
          go_roundw
          case rel => exact ⟨j + 1, l', err', by omega, by go_num, hm6.ext (hmA.ext hm8), hR6.ext (hmA.ext hm8), hD6.ext (hmA.ext hm8), hl6⟩
          case measure => simp [intOf]; omega
        have f1 : (kind == 1) = false := by simpa using g1
        by_cases g2 : kind = 2
        · subst g2
          have hg : (got l err 2 : Int) ≤ 65535 := by have := got_lt l err 2; omega
          have hg0 : (0 : Int) ≤ (got l err 2 : Int) := by omega
          obtain ⟨l', hl'⟩ : ∃ l', l' = tkRest l err (2 : Nat) := ⟨_, rfl⟩
          obtain ⟨err', herr'⟩ : ∃ e, e = tkErr l err (2 : Nat) := ⟨_, rfl⟩
          have hl6 : l'.length ≤ 1048576 := by rw [hl']; exact Nat.le_trans (tkRest_le ..) hlb
          go_wp2_with (first
                        | (go_at_call 43; refine (rtwo_any r q l err _ hR3).mono ?_; rintro e w4 ⟨rfl, hR4, hm4⟩)
                        | (go_at_call 42; refine (refNum_any d b0 l err _ 2 _ (hD3.keepR hR3 hm4) rfl (by omega) (by omega)).mono ?_; rintro e w6 ⟨rfl, hD6, hm6'⟩))
          have hR6 : Rd w6 r q l' err' := by rw [hl', herr']; exact hR4.keepD (hD3.keepR hR3 hm4) hm6'
          rw [← hl', ← herr'] at hD6
          have hm6 : Mod [] w w6 := (hm3.fresh hm4 (by simpa using hqw)).fresh hm6' (by simpa using hdw)
          clear hl' herr'
          have e2 : ∃ v at_, Blk w6 d 71 [v, .int .i64 at_, .int .i64 err'] := by
            obtain ⟨v, at_, h, _⟩ := hD6
            exact ⟨v, .ofNat at_, h⟩
          obtain ⟨vd, atd, hBd⟩ := e2
          refine wp_region_T [⟨0, true, []⟩, ⟨1, true, []⟩, ⟨2, true, []⟩, ⟨3, true, []⟩, ⟨5, true, []⟩, ⟨4, false, []⟩, ⟨6, false, []⟩, ⟨7, true, []⟩, ⟨8, true, []⟩, ⟨9, true, []⟩, ⟨10, true, []⟩, ⟨12, true, []⟩, ⟨13, true, []⟩, ⟨14, true, []⟩, ⟨15, true, []⟩, ⟨11, false, [13, 15]⟩, ⟨16, true, []⟩, ⟨17, true, []⟩, ⟨18, true, []⟩, ⟨19, true, []⟩, ⟨21, true, []⟩, ⟨20, false, []⟩, ⟨22, false, []⟩, ⟨23, true, []⟩, ⟨24, true, []⟩] (by kernel_rfl) (by kernel_rfl) ?_
          iterate 3 (refine wpT_n rfl rfl (fun K hK => ?_); go_wp2_with fail)
          iterate 2 (refine wpT_gq (gi := 2) rfl rfl rfl rfl rfl (fun K hK => ?_); go_wp2_with fail)
          refine wpT_gcall (gi := 2) rfl rfl rfl rfl (fun K hK => ?_)
          go_wp2_with (go_at_call 26; refine (left_any r q l' err' _ (hR6.ext (Mod.drew [] _))).mono ?_; rintro e w1 ⟨rfl, rfl⟩)
          refine wpT_gcall (gi := 2) rfl rfl rfl rfl (fun K hK => ?_)
          go_wp2_with (go_at_call 47; refine (refLeft_any d b0 l' err' _ (hD6.ext (Mod.drew [] _)) (by omega)).mono ?_; rintro e w7 ⟨rfl, hm7⟩)
          have hmA := (Mod.drew [] w6).ext hm7
          have hBd7 := hBd.ext hmA
          have cd := hBd7.cell' (i := 2) rfl
          refine wpT_gq (gi := 2) rfl rfl rfl rfl rfl (fun K hK => ?_)
          go_wp2_with fail
          iterate 2 (refine wpT_n rfl rfl (fun K hK => ?_); go_wp2_with fail)
          iterate 5 (refine wpT_gq (gi := 9) rfl rfl rfl rfl rfl (fun K hK => ?_); go_wp2_with fail)
          refine wpT_gcallh (gi := 9) rfl rfl rfl rfl (fun K hK => ?_)
          go_wp2_with (go_at_call 48; refine (err_any r q l' err' _ (hR6.ext hmA)).mono ?_; rintro e w1 ⟨rfl, rfl⟩)
          refine ⟨agains_same, ?_⟩
          refine wpT_gq (gi := 9) rfl rfl rfl rfl rfl (fun K hK => ?_)
          go_wp2_with fail
          iterate 2 (refine wpT_n rfl rfl (fun K hK => ?_); go_wp2_with fail)
          iterate 2 (refine wpT_gq (gi := 18) rfl rfl rfl rfl rfl (fun K hK => ?_); go_wp2_with fail)
          refine wpT_gcall (gi := 18) rfl rfl rfl rfl (fun K hK => ?_)
          go_wp2_with (go_at_call 49; refine (end_any r q l' err' _ (hR6.ext hmA)).mono ?_; rintro e w1 ⟨rfl, rfl⟩)
          refine wpT_gcall (gi := 18) rfl rfl rfl rfl (fun K hK => ?_)
          go_wp2_with (go_at_call 50; refine (refEnd_any d b0 l' err' _ (hD6.ext hmA) (by omega)).mono ?_; rintro e w8 ⟨rfl, hm8⟩)
          refine wpT_gq (gi := 18) rfl rfl rfl rfl rfl (fun K hK => ?_)
          go_wp2_with fail
          refine wpT_n rfl rfl (fun K hK => ?_)
          go_wp2_with fail
          refine wpT_nil ?_
          go_wp2_with fail
          go_roundw
          case rel => exact ⟨j + 1, l', err', by omega, by go_num, hm6.ext (hmA.ext hm8), hR6.ext (hmA.ext hm8), hD6.ext (hmA.ext hm8), hl6⟩
          case measure => simp [intOf]; omega
        have f2 : (kind == 2) = false := by simpa using g2
        by_cases g3 : kind = 3
        · subst g3
          have hg : (got l err 4 : Int) ≤ 4294967295 := by have := got_lt l err 4; omega
          have hg0 : (0 : Int) ≤ (got l err 4 : Int) := by omega
          obtain ⟨l', hl'⟩ : ∃ l', l' = tkRest l err (4 : Nat) := ⟨_, rfl⟩
          obtain ⟨err', herr'⟩ : ∃ e, e = tkErr l err (4 : Nat) := ⟨_, rfl⟩
          have hl6 : l'.length ≤ 1048576 := by rw [hl']; exact Nat.le_trans (tkRest_le ..) hlb
          go_wp2_with (first
                        | (go_at_call 44; refine (rfour_any r q l err _ hR3).mono ?_; rintro e w4 ⟨rfl, hR4, hm4⟩)
                        | (go_at_call 42; refine (refNum_any d b0 l err _ 4 _ (hD3.keepR hR3 hm4) rfl (by omega) (by omega)).mono ?_; rintro e w6 ⟨rfl, hD6, hm6'⟩))
          have hR6 : Rd w6 r q l' err' := by rw [hl', herr']; exact hR4.keepD (hD3.keepR hR3 hm4) hm6'
          rw [← hl', ← herr'] at hD6
          have hm6 : Mod [] w w6 := (hm3.fresh hm4 (by simpa using hqw)).fresh hm6' (by simpa using hdw)
          clear hl' herr'
          have e2 : ∃ v at_, Blk w6 d 71 [v, .int .i64 at_, .int .i64 err'] := by
            obtain ⟨v, at_, h, _⟩ := hD6
            exact ⟨v, .ofNat at_, h⟩
          obtain ⟨vd, atd, hBd⟩ := e2
          refine wp_region_T [⟨0, true, []⟩, ⟨1, true, []⟩, ⟨2, true, []⟩, ⟨3, true, []⟩, ⟨5, true, []⟩, ⟨4, false, []⟩, ⟨6, false, []⟩, ⟨7, true, []⟩, ⟨8, true, []⟩, ⟨9, true, []⟩, ⟨10, true, []⟩, ⟨12, true, []⟩, ⟨13, true, []⟩, ⟨14, true, []⟩, ⟨15, true, []⟩, ⟨11, false, [13, 15]⟩, ⟨16, true, []⟩, ⟨17, true, []⟩, ⟨18, true, []⟩, ⟨19, true, []⟩, ⟨21, true, []⟩, ⟨20, false, []⟩, ⟨22, false, []⟩, ⟨23, true, []⟩, ⟨24, true, []⟩] (by kernel_rfl) (by kernel_rfl) ?_
          iterate 3 (refine wpT_n rfl rfl (fun K hK => ?_); go_wp2_with fail)
          iterate 2 (refine wpT_gq (gi := 2) rfl rfl rfl rfl rfl (fun K hK => ?_); go_wp2_with fail)
          refine wpT_gcall (gi := 2) rfl rfl rfl rfl (fun K hK => ?_)
          go_wp2_with (go_at_call 26; refine (left_any r q l' err' _ (hR6.ext (Mod.drew [] _))).mono ?_; rintro e w1 ⟨rfl, rfl⟩)
          refine wpT_gcall (gi := 2) rfl rfl rfl rfl (fun K hK => ?_)
          go_wp2_with (go_at_call 47; refine (refLeft_any d b0 l' err' _ (hD6.ext (Mod.drew [] _)) (by omega)).mono ?_; rintro e w7 ⟨rfl, hm7⟩)
          have hmA := (Mod.drew [] w6).ext hm7
          have hBd7 := hBd.ext hmA
          have cd := hBd7.cell' (i := 2) rfl
          refine wpT_gq (gi := 2) rfl rfl rfl rfl rfl (fun K hK => ?_)
          go_wp2_with fail
          iterate 2 (refine wpT_n rfl rfl (fun K hK => ?_); go_wp2_with fail)
          iterate 5 (refine wpT_gq (gi := 9) rfl rfl rfl rfl rfl (fun K hK => ?_); go_wp2_with fail)
          refine wpT_gcallh (gi := 9) rfl rfl rfl rfl (fun K hK => ?_)
          go_wp2_with (go_at_call 48; refine (err_any r q l' err' _ (hR6.ext hmA)).mono ?_; rintro e w1 ⟨rfl, rfl⟩)
          refine ⟨agains_same, ?_⟩
          refine wpT_gq (gi := 9) rfl rfl rfl rfl rfl (fun K hK => ?_)
          go_wp2_with fail
          iterate 2 (refine wpT_n rfl rfl (fun K hK => ?_); go_wp2_with fail)
          iterate 2 (refine wpT_gq (gi := 18) rfl rfl rfl rfl rfl (fun K hK => ?_); go_wp2_with fail)
          refine wpT_gcall (gi := 18) rfl rfl rfl rfl (fun K hK => ?_)
          go_wp2_with (go_at_call 49; refine (end_any r q l' err' _ (hR6.ext hmA)).mono ?_; rintro e w1 ⟨rfl, rfl⟩)
          refine wpT_gcall (gi := 18) rfl rfl rfl rfl (fun K hK => ?_)
          go_wp2_with (go_at_call 50; refine (refEnd_any d b0 l' err' _ (hD6.ext hmA) (by omega)).mono ?_; rintro e w8 ⟨rfl, hm8⟩)
          refine wpT_gq (gi := 18) rfl rfl rfl rfl rfl (fun K hK => ?_)
          go_wp2_with fail
          refine wpT_n rfl rfl (fun K hK => ?_)
          go_wp2_with fail
          refine wpT_nil ?_
          go_wp2_with fail
          go_roundw
          case rel => exact ⟨j + 1, l', err', by omega, by go_num, hm6.ext (hmA.ext hm8), hR6.ext (hmA.ext hm8), hD6.ext (hmA.ext hm8), hl6⟩
          case measure => simp [intOf]; omega
        have f3 : (kind == 3) = false := by simpa using g3
        by_cases g4 : kind = 4
        · subst g4
          have hg : (got l err 8 : Int) ≤ 18446744073709551615 := by have := got_lt l err 8; omega
          have hg0 : (0 : Int) ≤ (got l err 8 : Int) := by omega
          obtain ⟨l', hl'⟩ : ∃ l', l' = tkRest l err (8 : Nat) := ⟨_, rfl⟩
          obtain ⟨err', herr'⟩ : ∃ e, e = tkErr l err (8 : Nat) := ⟨_, rfl⟩
          have hl6 : l'.length ≤ 1048576 := by rw [hl']; exact Nat.le_trans (tkRest_le ..) hlb
          go_wp2_with (first
                        | (go_at_call 45; refine (reight_any r q l err _ hR3).mono ?_; rintro e w4 ⟨rfl, hR4, hm4⟩)
                        | (go_at_call 42; refine (refNum_any d b0 l err _ 8 _ (hD3.keepR hR3 hm4) rfl (by omega) (by omega)).mono ?_; rintro e w6 ⟨rfl, hD6, hm6'⟩))
          have hR6 : Rd w6 r q l' err' := by rw [hl', herr']; exact hR4.keepD (hD3.keepR hR3 hm4) hm6'
          rw [← hl', ← herr'] at hD6
          have hm6 : Mod [] w w6 := (hm3.fresh hm4 (by simpa using hqw)).fresh hm6' (by simpa using hdw)
          clear hl' herr'
          have e2 : ∃ v at_, Blk w6 d 71 [v, .int .i64 at_, .int .i64 err'] := by
            obtain ⟨v, at_, h, _⟩ := hD6
            exact ⟨v, .ofNat at_, h⟩
          obtain ⟨vd, atd, hBd⟩ := e2
          refine wp_region_T [⟨0, true, []⟩, ⟨1, true, []⟩, ⟨2, true, []⟩, ⟨3, true, []⟩, ⟨5, true, []⟩, ⟨4, false, []⟩, ⟨6, false, []⟩, ⟨7, true, []⟩, ⟨8, true, []⟩, ⟨9, true, []⟩, ⟨10, true, []⟩, ⟨12, true, []⟩, ⟨13, true, []⟩, ⟨14, true, []⟩, ⟨15, true, []⟩, ⟨11, false, [13, 15]⟩, ⟨16, true, []⟩, ⟨17, true, []⟩, ⟨18, true, []⟩, ⟨19, true, []⟩, ⟨21, true, []⟩, ⟨20, false, []⟩, ⟨22, false, []⟩, ⟨23, true, []⟩, ⟨24, true, []⟩] (by kernel_rfl) (by kernel_rfl) ?_
          iterate 3 (refine wpT_n rfl rfl (fun K hK => ?_); go_wp2_with fail)
          iterate 2 (refine wpT_gq (gi := 2) rfl rfl rfl rfl rfl (fun K hK => ?_); go_wp2_with fail)
          refine wpT_gcall (gi := 2) rfl rfl rfl rfl (fun K hK => ?_)
          go_wp2_with (go_at_call 26; refine (left_any r q l' err' _ (hR6.ext (Mod.drew [] _))).mono ?_; rintro e w1 ⟨rfl, rfl⟩)
          refine wpT_gcall (gi := 2) rfl rfl rfl rfl (fun K hK => ?_)
          go_wp2_with (go_at_call 47; refine (refLeft_any d b0 l' err' _ (hD6.ext (Mod.drew [] _)) (by omega)).mono ?_; rintro e w7 ⟨rfl, hm7⟩)
          have hmA := (Mod.drew [] w6).ext hm7
          have hBd7 := hBd.ext hmA
          have cd := hBd7.cell' (i := 2) rfl
          refine wpT_gq (gi := 2) rfl rfl rfl rfl rfl (fun K hK => ?_)
          go_wp2_with fail
          iterate 2 (refine wpT_n rfl rfl (fun K hK => ?_); go_wp2_with fail)
          iterate 5 (refine wpT_gq (gi := 9) rfl rfl rfl rfl rfl (fun K hK => ?_); go_wp2_with fail)
          refine wpT_gcallh (gi := 9) rfl rfl rfl rfl (fun K hK => ?_)
          go_wp2_with (go_at_call 48; refine (err_any r q l' err' _ (hR6.ext hmA)).mono ?_; rintro e w1 ⟨rfl, rfl⟩)
          refine ⟨agains_same, ?_⟩
          refine wpT_gq (gi := 9) rfl rfl rfl rfl rfl (fun K hK => ?_)
          go_wp2_with fail
          iterate 2 (refine wpT_n rfl rfl (fun K hK => ?_); go_wp2_with fail)
          iterate 2 (refine wpT_gq (gi := 18) rfl rfl rfl rfl rfl (fun K hK => ?_); go_wp2_with fail)
          refine wpT_gcall (gi := 18) rfl rfl rfl rfl (fun K hK => ?_)
          go_wp2_with (go_at_call 49; refine (end_any r q l' err' _ (hR6.ext hmA)).mono ?_; rintro e w1 ⟨rfl, rfl⟩)
          refine wpT_gcall (gi := 18) rfl rfl rfl rfl (fun K hK => ?_)
          go_wp2_with (go_at_call 50; refine (refEnd_any d b0 l' err' _ (hD6.ext hmA) (by omega)).mono ?_; rintro e w8 ⟨rfl, hm8⟩)
          refine wpT_gq (gi := 18) rfl rfl rfl rfl rfl (fun K hK => ?_)
          go_wp2_with fail
          refine wpT_n rfl rfl (fun K hK => ?_)
          go_wp2_with fail
          refine wpT_nil ?_
          go_wp2_with fail
          go_roundw
          case rel => exact ⟨j + 1, l', err', by omega, by go_num, hm6.ext (hmA.ext hm8), hR6.ext (hmA.ext hm8), hD6.ext (hmA.ext hm8), hl6⟩
          case measure => simp [intOf]; omega
        have f4 : (kind == 4) = false := by simpa using g4
        by_cases g5 : kind = 5
        · subst g5
          obtain ⟨l', hl'⟩ : ∃ l', l' = tkRest l err tk := ⟨_, rfl⟩
          obtain ⟨err', herr'⟩ : ∃ e, e = tkErr l err tk := ⟨_, rfl⟩
          have hl6 : l'.length ≤ 1048576 := by rw [hl']; exact Nat.le_trans (tkRest_le ..) hlb
          have hcq : c ≠ q := by
            obtain ⟨_, h, _⟩ := hR3.2
            exact hB3.ne h (by decide)
          go_wp2_with fail
          refine wp_region_T [⟨0, true, []⟩, ⟨1, true, []⟩, ⟨2, true, []⟩, ⟨4, true, []⟩, ⟨5, true, []⟩, ⟨6, true, []⟩, ⟨3, false, [6]⟩, ⟨7, false, []⟩, ⟨8, false, []⟩, ⟨9, true, []⟩] (by kernel_rfl) (by kernel_rfl) ?_
          iterate 6 (refine wpT_n rfl rfl (fun K hK => ?_); go_wp2_with fail)
          refine wpT_callh rfl rfl (fun K hK => ?_)
          have hR3' := hR3.ext (Mod.drew [] _)
          have hD3' := hD3.ext (Mod.drew [] _)
          have hB3' := hB3.ext (Mod.drew [] _)
          have hm3d := hm3.ext (Mod.drew [] _)
          go_wp2_with (go_at_call 25; refine (rtake_any r q l err tk _ hR3' t1 t2 (by omega)).mono ?_; rintro e w4 ⟨v4, rfl, hv4, hn4, hR4, hm4⟩; obtain ⟨ao4, cap4, rfl, _, _⟩ := hv4.bs.form)
          refine ⟨agains_cons rfl (again_load rfl rfl (hm4.block c hB3'.lt (by simpa using hcq)) hB3'.kinds) agains_nil, ?_⟩
          refine wpT_call rfl rfl (fun K hK => ?_)
          go_wp2_with (go_at_call 46; refine (refTake_any d b0 l err tk _ (hD3'.keepR hR3' hm4) t1 t2 (by omega)).mono ?_; rintro e w5 ⟨v5, rfl, hv5, hn5, hD5, hm5'⟩; obtain ⟨ao5, cap5, rfl, _, _⟩ := hv5.bs.form)
          have hdn : d ∉ blks (.slice ao4 (tkGot l err tk).length cap4) := fun h => by
            have h1 := hn4 d h
            obtain ⟨_, _, h2, _⟩ := hD3'
            have := h2.lt
            omega
          have hv4' : Bs w5 (.slice ao4 (tkGot l err tk).length cap4) (tkGot l err tk) := hv4.bs.mod hm5' (fun k hk hkd => hdn (by
            have : k = d := by simpa using hkd
            exact this ▸ hk))
          have hR5 := hR4.keepD (hD3'.keepR hR3' hm4) hm5'
          refine wpT_call rfl rfl (fun K hK => ?_)
          go_wp2_with (go_at_call 27; refine (same_yes _ _ _ _ _ hv4' hv5.bs rfl).mono ?_; rintro e w6 ⟨rfl, hm6'⟩)
          refine wpT_n rfl rfl (fun K hK => ?_)
          go_wp2_with fail
          refine wpT_nil ?_
          go_wp2_with fail
          have hR6 : Rd w6 r q l' err' := by rw [hl', herr']; exact hR5.ext hm6'
          have hD6 : Rr w6 d b0 l' err' := by rw [hl', herr']; exact hD5.ext hm6'
          have hm6 : Mod [] w w6 := ((hm3d.fresh hm4 (by simpa using hqw)).fresh hm5' (by simpa using hdw)).ext hm6'
          clear hl' herr'
          have e2 : ∃ v at_, Blk w6 d 71 [v, .int .i64 at_, .int .i64 err'] := by
            obtain ⟨v, at_, h, _⟩ := hD6
            exact ⟨v, .ofNat at_, h⟩
          obtain ⟨vd, atd, hBd⟩ := e2
          refine wp_region_T [⟨0, true, []⟩, ⟨1, true, []⟩, ⟨2, true, []⟩, ⟨3, true, []⟩, ⟨5, true, []⟩, ⟨4, false, []⟩, ⟨6, false, []⟩, ⟨7, true, []⟩, ⟨8, true, []⟩, ⟨9, true, []⟩, ⟨10, true, []⟩, ⟨12, true, []⟩, ⟨13, true, []⟩, ⟨14, true, []⟩, ⟨15, true, []⟩, ⟨11, false, [13, 15]⟩, ⟨16, true, []⟩, ⟨17, true, []⟩, ⟨18, true, []⟩, ⟨19, true, []⟩, ⟨21, true, []⟩, ⟨20, false, []⟩, ⟨22, false, []⟩, ⟨23, true, []⟩, ⟨24, true, []⟩] (by kernel_rfl) (by kernel_rfl) ?_
          iterate 3 (refine wpT_n rfl rfl (fun K hK => ?_); go_wp2_with fail)
          iterate 2 (refine wpT_gq (gi := 2) rfl rfl rfl rfl rfl (fun K hK => ?_); go_wp2_with fail)
          refine wpT_gcall (gi := 2) rfl rfl rfl rfl (fun K hK => ?_)
          go_wp2_with (go_at_call 26; refine (left_any r q l' err' _ (hR6.ext (Mod.drew [] _))).mono ?_; rintro e w1 ⟨rfl, rfl⟩)
          refine wpT_gcall (gi := 2) rfl rfl rfl rfl (fun K hK => ?_)
          go_wp2_with (go_at_call 47; refine (refLeft_any d b0 l' err' _ (hD6.ext (Mod.drew [] _)) (by omega)).mono ?_; rintro e w7 ⟨rfl, hm7⟩)
          have hmA := (Mod.drew [] w6).ext hm7
          have hBd7 := hBd.ext hmA
          have cd := hBd7.cell' (i := 2) rfl
          refine wpT_gq (gi := 2) rfl rfl rfl rfl rfl (fun K hK => ?_)
          go_wp2_with fail
          iterate 2 (refine wpT_n rfl rfl (fun K hK => ?_); go_wp2_with fail)
          iterate 5 (refine wpT_gq (gi := 9) rfl rfl rfl rfl rfl (fun K hK => ?_); go_wp2_with fail)
          refine wpT_gcallh (gi := 9) rfl rfl rfl rfl (fun K hK => ?_)
          go_wp2_with (go_at_call 48; refine (err_any r q l' err' _ (hR6.ext hmA)).mono ?_; rintro e w1 ⟨rfl, rfl⟩)
          refine ⟨agains_same, ?_⟩
          refine wpT_gq (gi := 9) rfl rfl rfl rfl rfl (fun K hK => ?_)
          go_wp2_with fail
          iterate 2 (refine wpT_n rfl rfl (fun K hK => ?_); go_wp2_with fail)
          iterate 2 (refine wpT_gq (gi := 18) rfl rfl rfl rfl rfl (fun K hK => ?_); go_wp2_with fail)
          refine wpT_gcall (gi := 18) rfl rfl rfl rfl (fun K hK => ?_)
          go_wp2_with (go_at_call 49; refine (end_any r q l' err' _ (hR6.ext hmA)).mono ?_; rintro e w1 ⟨rfl, rfl⟩)
          refine wpT_gcall (gi := 18) rfl rfl rfl rfl (fun K hK => ?_)
          go_wp2_with (go_at_call 50; refine (refEnd_any d b0 l' err' _ (hD6.ext hmA) (by omega)).mono ?_; rintro e w8 ⟨rfl, hm8⟩)
          refine wpT_gq (gi := 18) rfl rfl rfl rfl rfl (fun K hK => ?_)
          go_wp2_with fail
          refine wpT_n rfl rfl (fun K hK => ?_)
          go_wp2_with fail
          refine wpT_nil ?_
          go_wp2_with fail
          go_roundw
          case rel => exact ⟨j + 1, l', err', by omega, by go_num, hm6.ext (hmA.ext hm8), hR6.ext (hmA.ext hm8), hD6.ext (hmA.ext hm8), hl6⟩
          case measure => simp [intOf]; omega
        have f5 : (kind == 5) = false := by simpa using g5
        have hl6 := hlb
        have hR6 := hR3
        have hD6 := hD3
        have hm6 := hm3
        go_wp2_with fail
        have e2 : ∃ v at_, Blk w3 d 71 [v, .int .i64 at_, .int .i64 err] := by
          obtain ⟨v, at_, h, _⟩ := hD6
          exact ⟨v, .ofNat at_, h⟩
        obtain ⟨vd, atd, hBd⟩ := e2
        refine wp_region_T [⟨0, true, []⟩, ⟨1, true, []⟩, ⟨2, true, []⟩, ⟨3, true, []⟩, ⟨5, true, []⟩, ⟨4, false, []⟩, ⟨6, false, []⟩, ⟨7, true, []⟩, ⟨8, true, []⟩, ⟨9, true, []⟩, ⟨10, true, []⟩, ⟨12, true, []⟩, ⟨13, true, []⟩, ⟨14, true, []⟩, ⟨15, true, []⟩, ⟨11, false, [13, 15]⟩, ⟨16, true, []⟩, ⟨17, true, []⟩, ⟨18, true, []⟩, ⟨19, true, []⟩, ⟨21, true, []⟩, ⟨20, false, []⟩, ⟨22, false, []⟩, ⟨23, true, []⟩, ⟨24, true, []⟩] (by kernel_rfl) (by kernel_rfl) ?_
        iterate 3 (refine wpT_n rfl rfl (fun K hK => ?_); go_wp2_with fail)
        iterate 2 (refine wpT_gq (gi := 2) rfl rfl rfl rfl rfl (fun K hK => ?_); go_wp2_with fail)
        refine wpT_gcall (gi := 2) rfl rfl rfl rfl (fun K hK => ?_)
        go_wp2_with (go_at_call 26; refine (left_any r q l err _ (hR6.ext (Mod.drew [] _))).mono ?_; rintro e w1 ⟨rfl, rfl⟩)
        refine wpT_gcall (gi := 2) rfl rfl rfl rfl (fun K hK => ?_)
        go_wp2_with (go_at_call 47; refine (refLeft_any d b0 l err _ (hD6.ext (Mod.drew [] _)) (by omega)).mono ?_; rintro e w7 ⟨rfl, hm7⟩)
        have hmA := (Mod.drew [] w3).ext hm7
        have hBd7 := hBd.ext hmA
        have cd := hBd7.cell' (i := 2) rfl
        refine wpT_gq (gi := 2) rfl rfl rfl rfl rfl (fun K hK => ?_)
        go_wp2_with fail
        iterate 2 (refine wpT_n rfl rfl (fun K hK => ?_); go_wp2_with fail)
        iterate 5 (refine wpT_gq (gi := 9) rfl rfl rfl rfl rfl (fun K hK => ?_); go_wp2_with fail)
        refine wpT_gcallh (gi := 9) rfl rfl rfl rfl (fun K hK => ?_)
        go_wp2_with (go_at_call 48; refine (err_any r q l err _ (hR6.ext hmA)).mono ?_; rintro e w1 ⟨rfl, rfl⟩)
        refine ⟨agains_same, ?_⟩
        refine wpT_gq (gi := 9) rfl rfl rfl rfl rfl (fun K hK => ?_)
        go_wp2_with fail
        iterate 2 (refine wpT_n rfl rfl (fun K hK => ?_); go_wp2_with fail)
        iterate 2 (refine wpT_gq (gi := 18) rfl rfl rfl rfl rfl (fun K hK => ?_); go_wp2_with fail)
        refine wpT_gcall (gi := 18) rfl rfl rfl rfl (fun K hK => ?_)
        go_wp2_with (go_at_call 49; refine (end_any r q l err _ (hR6.ext hmA)).mono ?_; rintro e w1 ⟨rfl, rfl⟩)
        refine wpT_gcall (gi := 18) rfl rfl rfl rfl (fun K hK => ?_)
        go_wp2_with (go_at_call 50; refine (refEnd_any d b0 l err _ (hD6.ext hmA) (by omega)).mono ?_; rintro e w8 ⟨rfl, hm8⟩)
        refine wpT_gq (gi := 18) rfl rfl rfl rfl rfl (fun K hK => ?_)
        go_wp2_with fail
        refine wpT_n rfl rfl (fun K hK => ?_)
        go_wp2_with fail
        refine wpT_nil ?_
        go_wp2_with fail
        go_roundw
        case rel => exact ⟨j + 1, l, err, by omega, by go_num, hm6.ext (hmA.ext hm8), hR6.ext (hmA.ext hm8), hD6.ext (hmA.ext hm8), hl6⟩
        case measure => simp [intOf]; omega
      · obtain rfl : j = m := by omega
        go_wp2_with (go_at_call 19; refine (awake_any _).mono ?_; rintro e w8 ⟨rfl, hm8⟩)
        go_ret
        exact ⟨rfl, hmr.ext hm8⟩
end Go.Proofs.Ytkedbphdflhhlaa
