import Derived.Test.YtkedbphdflhhlaaDkJ
/-! does: a script's writes, syncs and crashes on a disk of four sectors. -/
set_option linter.unusedVariables false
set_option linter.unusedSimpArgs false
set_option maxRecDepth 100000
namespace Go.Proofs.Ytkedbphdflhhlaa
open Go.RowKit Gw

def doOne (m : Dm) (o : Dop) : Dm := if pick o.d 4 = 2 then m.sync else if pick o.d 4 = 3 then m.crash o.F else m.write (pick o.a 4).toNat (fillL o.x 64)
def doAll (os : List Dop) (m : Dm) : Dm := os.foldl doOne m
structure D4 (m : Dm) : Prop where
  ok : m.ok
  sz : m.sz = 64
  n : m.dur.length = 4
theorem D4.settle {m : Dm} (h : D4 m) (g : Nat → Nat) : D4 (m.settle g) := ⟨h.ok.settle g, h.sz, by unfold Dm.settle; rw [settleD_len]; exact h.n⟩
theorem D4.write {m : Dm} (h : D4 m) {a : Nat} {b : List UInt8} (ha : a < 4) (hb : b.length = 64) : D4 (m.write a b) := ⟨h.ok.write (by rw [h.n]; exact ha) (by rw [h.sz]; exact hb), h.sz, h.n⟩
theorem pick4 (a : Int) : (pick a 4).toNat < 4 := by have := pick_lt a 4 (by omega); have := pick_ge a 4; omega
theorem D4.one {m : Dm} (h : D4 m) (o : Dop) : D4 (doOne m o) := by
  unfold doOne
  split
  · exact h.settle _
  · split
    · exact h.settle _
    · exact h.write (pick4 _) (fillL_len _ _)
theorem D4.all : ∀ (os : List Dop) {m : Dm}, D4 m → D4 (doAll os m)
  | [], _, h => h
  | o :: os, _, h => D4.all os (h.one o)
theorem doOne_rows (m : Dm) (o : Dop) : (doOne m o).row.length ≤ m.row.length + 1 := by
  unfold doOne
  split
  · simp [Dm.sync, Dm.settle]
  · split
    · simp [Dm.crash, Dm.settle]
    · simp [Dm.write]
theorem doAll_rows : ∀ (os : List Dop) (m : Dm), (doAll os m).row.length ≤ m.row.length + os.length
  | [], m => by simp [doAll]
  | o :: os, m => by
    have h1 := doAll_rows os (doOne m o)
    have h2 := doOne_rows m o
    have h3 : doAll (o :: os) m = doAll os (doOne m o) := rfl
    rw [h3, List.length_cons]
    omega
theorem doAll_succ (os : List Dop) (j : Nat) (h : j < os.length) (m : Dm) : doAll (os.take (j + 1)) m = doOne (doAll (os.take j) m) os[j] := by
  unfold doAll
  rw [List.take_add_one, List.getElem?_eq_getElem h, List.foldl_append]
  rfl
theorem zero_dop : (Try.prog.info? 89).map (·.zero) = some (some (.agg #[.int .i64 0, .int .i64 0, .int .i64 0, .int .i64 0, .int .i64 0, .slice none 0 0])) := by kernel_rfl
set_option maxRecDepth 1000000 in
set_option maxHeartbeats 8000000 in
theorem does_any (W w : World) (p : Nat) (m : Dm) (L : List Nat) (os : List Dop) (sv : Value) (h0 : Mod [] W w) (hO : Own W w p m L) (hm4 : D4 m) (hr : m.row.length ≤ 1000000) (hs : Dops W sv os) (hFo : ∀ o ∈ os, o.F.length ≤ 1048576) :
    Calls Try.prog 53 #[.pointer (some ⟨p, 0, none⟩), sv] w fun e w' => e = .returned (.tuple #[]) ∧ ∃ L', Own W w' p (doAll (os.take 200) m) L' ∧ Mod L w w' ∧ ∀ k ∈ L', k ∈ L ∨ w.heap.size ≤ k := by
  obtain ⟨hD, hOw⟩ := hO
  obtain ⟨hs1, hs2⟩ := hs
  obtain ⟨aos, caps, rfl, hcs, hcs2⟩ := hs1.form
  obtain ⟨N, hN⟩ : ∃ N, N = min os.length 200 := ⟨_, rfl⟩
  have HN := Lib.hid hN
  clear hN
  go_enter Try.func53, Try.ntmps53
  go_wp2_with fail
  go_loopw [4] (fun i wr => ∃ (j : Nat) (Lj : List Nat), j ≤ N ∧ i = .int .i64 j ∧ Dk wr p (doAll (os.take j) m) Lj ∧ Mod L w wr ∧ ∀ k ∈ Lj, k ∈ L ∨ w.heap.size ≤ k) (fun i _ => N - (intOf i).toNat)
  case atStart => exact ⟨0, L, Nat.zero_le _, rfl, hD, Mod.refl _ _, fun k hk => .inl hk⟩
  case round =>
    obtain ⟨j, Lj, hj, rfl, hB, hMr, hLj⟩ := hrel
    obtain ⟨c, hc⟩ : ∃ c, c = decide (j < N) := ⟨_, rfl⟩
    have HC := Lib.hid hc
    clear hc
    go_upto_region 1 with fail
    go_cut [13] (fun u wx => u = .bool c ∧ wr = wx)
    case first =>
      by_cases h1 : j < os.length
      · have y1 : (j : Int) < os.length := by omega
        by_cases h2 : j < 200
        · have y2 : (j : Int) < 200 := by omega
          go_wp2_with fail
          go_meet
          exact ⟨by rw [HC.out, decide_eq_true (show j < N by have := HN.out; omega)]; try (simp; omega), rfl⟩
        · have y2 : (200 : Int) ≤ j := by omega
          go_wp2_with fail
          go_meet
          exact ⟨by rw [HC.out, decide_eq_false (show ¬ j < N by have := HN.out; omega)]; try (simp; omega), rfl⟩
      · have y1 : (os.length : Int) ≤ j := by omega
        go_wp2_with fail
        go_meet
        exact ⟨by rw [HC.out, decide_eq_false (show ¬ j < N by have := HN.out; omega)]; try (simp; omega), rfl⟩
    case rest =>
    obtain ⟨rfl, rfl⟩ := hcut
    cases c with
    | true =>
      have hlt : j < N := of_decide_eq_true HC.out.symm
      have hjo : j < os.length := by have := HN.out; omega
      have hj2 : j < 200 := by have := HN.out; omega
      have y1 : (j : Int) < os.length := by omega
      clear HC
      have hMW : Mod [] W wr := h0.fresh hMr hOw
      have hLW : ∀ k ∈ Lj, W.heap.size ≤ k := fun k hk => (hLj k hk).elim (hOw k) (fun h => Nat.le_trans h0.size h)
      obtain ⟨b, o, rfl, hcr⟩ := Dops.elem (Sl.ext hs1 hMW) hjo
      have hop := hs2 _ (List.getElem_mem hjo)
      have hFoj := hFo _ (List.getElem_mem hjo)
      have hstep := doAll_succ os j hjo m
      have h4 := hm4.all (os.take j)
      have hrj := doAll_rows (os.take j) m
      rw [List.length_take] at hrj
      obtain ⟨mj, hmj⟩ : ∃ x, x = doAll (os.take j) m := ⟨_, rfl⟩
      rw [← hmj] at hB hstep h4 hrj
      clear hmj
      obtain ⟨op, hop'⟩ : ∃ op, op = os[j] := ⟨_, rfl⟩
      rw [← hop'] at hcr hop hFoj hstep
      clear hop'
      obtain ⟨d, n, at_, q, le, fv, F⟩ := op
      obtain ⟨hFs, hold, hd, hn, ha, hx, hle⟩ := hop
      dsimp only [Dop.cells] at hcr hFs hold hd hn ha hle hFoj
      unfold doOne at hstep
      dsimp only at hstep
      have hF : Fs wr fv F := Sl.ext hFs hMW
      have hFL : F ≠ [] → ∀ b ∈ blks fv, b ∉ Lj := fun hne b hb hh => by have := hold hne b hb; have := hLW b hh; omega
      have P4 := fun w => pick_any d 4 w hd.1 hd.2 (by omega) (by omega)
      have PA := fun w => pick_any at_ 4 w ha.1 ha.2 (by omega) (by omega)
      have pg := pick_ge d 4
      have pl := pick_lt d 4 (by omega)
      have pag := pick_ge at_ 4
      have pal := pick4 at_
      obtain ⟨ka, hka⟩ : ∃ k, k = (pick at_ 4).toNat := ⟨_, rfl⟩
      rw [← hka] at hstep pal
      rw [show pick at_ 4 = (ka : Nat) by omega] at PA
      clear hka pag
      obtain ⟨k, hk⟩ : ∃ k, k = pick d 4 := ⟨_, rfl⟩
      rw [← hk] at P4 pg pl hstep
      clear hk
      obtain ⟨aof, capf, rfl, _, _⟩ := hF.form
      have F64 := fun w => fill64 q w
      obtain ⟨B, hBb⟩ : ∃ B, B = fillL q 64 := ⟨_, rfl⟩
      have hBl : B.length = 64 := by rw [hBb, fillL_len]
      rw [← hBb] at F64 hstep
      have HBL := Lib.hid hBl
      clear hBb hBl
      have HST := Lib.hid hstep
      clear hstep
      go_wp2_with (with_reducible refine st_load 89 ?_)
      refine StopOp.go rfl fun K hK => ?_
      refine wp_load_mid 89 _ rfl b (o + j * 6) (by rfl) [.int .i64 d, .int .i64 n, .int .i64 at_, .int .i64 q, .int .i64 le, .slice aof F.length capf] _ hcr Try.underlying89 rfl (by kernel_rfl) ?_
      simp only [put_some, List.set_cons_succ, List.set_cons_zero]
      refine hK _ _ ?_
      clear hK K
      go_wp2_with (with_reducible refine st_alloc ?_)
      refine StopOp.go rfl fun K hK => ?_
      refine wp_alloc zero_dop ?_
      intro g w2 hg1 hg2 hm2 hB2
      simp only [put_some, List.set_cons_succ, List.set_cons_zero]
      refine hK _ _ ?_
      clear hK K
      go_wp2_with (with_reducible refine st_store ?_)
      refine StopOp.go rfl fun K hK => ?_
      refine wp_store (u := .agg #[.int .i64 d, .int .i64 n, .int .i64 at_, .int .i64 q, .int .i64 le, .slice aof F.length capf]) (by rfl) (by rfl) (by kernel_rfl) hB2 (by simp [Value.cells]) (by simp [Value.cells, Value.oneCell']) ?_
      intro w3 hm3 hB3
      refine hK _ _ ?_
      clear hK K
      have hm23 : Mod [] wr w3 := hm2.fresh hm3 (by simpa using hg1)
      have hG : Blk w3 g 89 [.int .i64 d, .int .i64 n, .int .i64 at_, .int .i64 q, .int .i64 le, .slice aof F.length capf] := hB3
      have hBk := hB.ext hm23
      have hF3 : Fs w3 _ F := Sl.ext hF hm23
      clear hB2 hB3 hm2 hm3 hcr
      have c0 := hG.cell' (i := 0) rfl
      go_upto_if 31 with (go_at_call 24; (with_reducible refine (P4 _).mono ?_); rintro e w4 ⟨rfl, rfl⟩)
      have hfin : ∀ (m' : Dm) (w' : World), m' = doAll (os.take (j + 1)) m → DkPost w3 p m' Lj w' → ∃ (j' : Nat) (Lj : List Nat), j' ≤ N ∧ Value.int .i64 ((j : Int) + 1) = .int .i64 (j' : Nat) ∧ Dk w' p (doAll (os.take j') m) Lj ∧ Mod L w w' ∧ ∀ k ∈ Lj, k ∈ L ∨ w.heap.size ≤ k := fun m' w' he hp => by
        obtain ⟨L5, k1, k2, k3⟩ := hp
        have s1 := hMr.size
        have s2 := hm23.size
        refine ⟨j + 1, L5, by omega, by simp, he ▸ k1, (hMr.ext hm23).then k2 (fun g hg => hLj g hg), fun k hk => (k3 k hk).elim (hLj k) (fun h => .inr (by omega))⟩
      have hcase : k = 2 ∨ k = 3 ∨ (k ≠ 2 ∧ k ≠ 3) := by omega
      rcases hcase with rfl | rfl | ⟨h2, h3⟩
      · have hS := dsync_any p mj Lj w3 hBk h4.ok (by omega)
        have HE := Lib.hid (show mj.sync = doAll (os.take (j + 1)) m by rw [HST.out, if_pos rfl])
        go_wp2_with (go_at_call 38; (with_reducible refine hS.mono ?_); rintro e w5 ⟨rfl, hp⟩)
        obtain ⟨j', Lj', k1, k2, k3⟩ := hfin _ _ HE.out hp
        go_roundw
        case rel => exact ⟨j', Lj', k1, k2, k3⟩
        case measure => simp [intOf]; omega
      · have hC := dcrash_any p mj Lj F (.slice aof F.length capf) w3 hBk h4.ok (by omega) hF3 hFL
        have HE := Lib.hid (show mj.crash F = doAll (os.take (j + 1)) m by rw [HST.out, if_neg (by omega), if_pos rfl])
        have c5 := hG.cell' (i := 5) rfl
        go_wp2_with (go_at_call 39; (with_reducible refine hC.mono ?_); rintro e w5 ⟨rfl, hp⟩)
        obtain ⟨j', Lj', k1, k2, k3⟩ := hfin _ _ HE.out hp
        go_roundw
        case rel => exact ⟨j', Lj', k1, k2, k3⟩
        case measure => simp [intOf]; omega
      · have HE := Lib.hid (show mj.write ka B = doAll (os.take (j + 1)) m by rw [HST.out, if_neg h2, if_neg h3])
        have e2 : (k == 2) = false := by rw [beq_eq_false_iff_ne]; exact h2
        have e3 : (k == 3) = false := by rw [beq_eq_false_iff_ne]; exact h3
        go_wp2_with fail
        refine wp_region_T [⟨0, true, []⟩, ⟨1, true, []⟩, ⟨2, true, []⟩, ⟨4, true, []⟩, ⟨5, true, []⟩, ⟨3, false, [5]⟩, ⟨6, false, []⟩, ⟨7, false, []⟩] (by kernel_rfl) (by kernel_rfl) ?_
        have hm0 : Mod [] w3 w3.drew := Mod.drew [] _
        have hG0 := hG.ext hm0
        have hB0 := hBk.ext hm0
        obtain ⟨w0, hw0⟩ : ∃ w, w = w3.drew := ⟨_, rfl⟩
        rw [← hw0] at hG0 hB0 hm0 ⊢
        clear hw0 c0
        have c2 := hG0.cell' (i := 2) rfl
        have c3 := hG0.cell' (i := 3) rfl
        iterate 5 (refine wpT_n rfl rfl (fun K hK => ?_); go_wp2_with fail)
        refine wpT_callh rfl rfl (fun K hK => ?_)
        go_wp2_with (go_at_call 24; (with_reducible refine (PA _).mono ?_); rintro e w4 ⟨rfl, rfl⟩)
        refine ⟨agains_same, ?_⟩
        refine wpT_call rfl rfl (fun K hK => ?_)
        go_wp2_with (go_at_call 36; (with_reducible refine (F64 _).mono ?_); rintro e w5 ⟨v5, rfl, ho5, hn5, hm5⟩)
        obtain ⟨ao5, cap5, rfl, _, _⟩ := ho5.sl.form
        have hWr := dwrite_ok p mj Lj ka B _ w5 (hB0.ext hm5) h4.ok (Ob.bs ho5) (by rw [h4.n]; exact pal) (HBL.out.trans h4.sz.symm) (by omega)
        refine wpT_call rfl rfl (fun K hK => ?_)
        go_wp2_with (go_at_call 37; (refine hWr.mono ?_); rintro e w6 ⟨rfl, hp⟩)
        have hp' : DkPost w3 p (mj.write ka B) Lj w6 := by
          obtain ⟨L6, k1, k2, k3⟩ := hp
          have s1 := hm0.size
          have s2 := hm5.size
          exact ⟨L6, k1, ((hm0.ext hm5).weak (by simp)).trans k2, fun k hk => (k3 k hk).imp id (fun h => by omega)⟩
        refine wpT_nil ?_
        go_wp2_with fail
        obtain ⟨j', Lj', k1, k2, k3⟩ := hfin _ _ HE.out hp'
        go_roundw
        case rel => exact ⟨j', Lj', k1, k2, k3⟩
        case measure => simp [intOf]; omega
    | false =>
      have hjN : j = N := by have := HC.out; have : ¬ j < N := of_decide_eq_false this.symm; omega
      have ht : os.take j = os.take 200 := by
        rw [hjN, HN.out]
        by_cases h : os.length ≤ 200
        · rw [show min os.length 200 = os.length by omega, List.take_of_length_le (Nat.le_refl _), List.take_of_length_le h]
        · rw [show min os.length 200 = 200 by omega]
      have hLW : ∀ k ∈ Lj, W.heap.size ≤ k := fun k hk => (hLj k hk).elim (hOw k) (fun h => Nat.le_trans h0.size h)
      rw [ht] at hB
      clear HC hjN ht
      go_wp2_with fail
      go_end0
      exact ⟨rfl, Lj, ⟨hB, hLW⟩, hMr, hLj⟩
end Go.Proofs.Ytkedbphdflhhlaa
