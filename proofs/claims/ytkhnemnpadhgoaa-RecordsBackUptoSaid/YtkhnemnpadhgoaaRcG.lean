import Derived.Test.YtkhnemnpadhgoaaRcF
import Derived.Test.YtkhnemnpadhgoaaRdA
/-! Records: the reference's Get. -/
set_option linter.unusedVariables false
set_option linter.unusedSimpArgs false
set_option maxRecDepth 100000
namespace Go.Proofs.Ytkhnemnpadhgoaa
open Go.RowKit Gw

/-- b[lo:hi] of bytes -/
theorem Bs.sub {w : World} {ao : Option Addr} {n cap lo hi : Nat} {l : List UInt8} (h : Bs w (.slice ao n cap) l) (h1 : lo < hi) (h2 : hi ≤ l.length) (hc : n ≤ cap) (hn : n = l.length) : Bs w (.slice (ao.map (·.add lo)) (hi - lo) (cap - lo)) ((l.drop lo).take (hi - lo)) := by
  subst hn
  have hcm : ¬ cap = lo := by omega
  have := Sl.cut (lo := lo) (hi := hi) (m := cap) h (by omega) h2 (by omega) (by omega)
  rw [if_neg hcm] at this
  unfold Bs
  rw [List.length_take, List.length_drop, Nat.min_eq_left (by omega)]
  have hb : bv ((l.drop lo).take (hi - lo)) = ((bv l).drop lo).take (hi - lo) := by simp [bv, List.map_take, List.map_drop]
  rw [hb]
  simpa using this
theorem nb_byte (b : List UInt8) (h : 0 < b.length) : b[0].toNat = nb b 0 1 := by
  cases b with
  | nil => simp at h
  | cons a l => unfold nb; simp [val]
set_option maxRecDepth 1000000 in
set_option maxHeartbeats 8000000 in
theorem rget_bad (b : List UInt8) (bv0 : Value) (w : World) (hb : Bs w bv0 b) (hl : b.length ≤ 140737488355328) (hbad : b = [] ∨ okC (nb b 0 1) = false ∨ b.length < sizeC (nb b 0 1)) : Calls Try.prog 14 #[bv0] w (GetC b w) := by
  obtain ⟨aob, capb, rfl, hc1, hc2⟩ := hb.form
  by_cases h0 : b = []
  · subst h0
    go_enter Try.func14, Try.ntmps14
    go_wp2_with (with_reducible refine st_alloc ?_)
    refine StopOp.go rfl fun K hK => ?_
    refine wp_alloc zero_rec ?_
    intro g w1 hg1 hg2 hm1 hB1
    simp only [put_some, List.set_cons_succ, List.set_cons_zero]
    refine hK _ _ ?_
    clear hK K
    go_wp2_with (with_reducible refine st_store ?_)
    refine StopOp.go rfl fun K hK => ?_
    refine wp_store (u := .agg #[.int .i64 0, .int .u32 0, .int .i64 0, .int .i64 0, .int .i64 0]) (by rfl) (by rfl) (by kernel_rfl) hB1 (by simp [Value.cells, cellsC]) (by simp [Value.cells, Value.oneCell']) ?_
    intro w90 hm90 hB90
    refine hK _ _ ?_
    clear hK K
    have z0 := hB90.cell' (i := 0) rfl
    have z1 := hB90.cell' (i := 1) rfl
    have z2 := hB90.cell' (i := 2) rfl
    have z3 := hB90.cell' (i := 3) rfl
    have z4 := hB90.cell' (i := 4) rfl
    go_wp2_with fail
    exact bodyPost_ret (v := .tuple #[.agg #[.int .i64 0, .int .u32 0, .int .i64 0, .int .i64 0, .int .i64 0], .int .i64 4]) (by simp [results, Try.results14, go_sem, z0, z1, z2, z3, z4]) rfl (gc_no rfl (by decide) rfl (hm1.fresh hm90 (by simpa using hg1)))
  have hlen : 0 < b.length := List.length_pos_iff.2 h0
  have hlen' : ((b.length : Int) == 0) = false := by simpa using h0
  obtain ⟨bb, bo, rfl, _⟩ := hb.byte hlen
  have hn0 := nb_byte b hlen
  obtain ⟨n, hn⟩ : ∃ n, n = nb b 0 1 := ⟨_, rfl⟩
  rw [← hn] at hn0 hbad
  have n255 : (n : Int) ≤ 255 := by have := nb_lt b 0 1; omega
  have nn : (0 : Int) ≤ n := by omega
  have SZ := fun w => rsize_any (n : Int) w
  have herr : errC b = if okC (n : Int) = false then 160 else if b.length < sizeC (n : Int) then 4 else if mayC (parC b) = false then 160 else if sizeC (n : Int) < b.length then 5 else 0 := by
    unfold errC
    rw [if_neg h0, ← hn]
  have hs0 : okC (n : Int) = false → sizeC (n : Int) = 0 := sizeC_no
  have hs1 : okC (n : Int) = true → 5 ≤ sizeC (n : Int) := fun h => (sizeC_pos h).1
  obtain ⟨okb, hok⟩ : ∃ x, x = okC (n : Int) := ⟨_, rfl⟩
  obtain ⟨S, hS⟩ : ∃ S, S = sizeC (n : Int) := ⟨_, rfl⟩
  rw [← hS] at SZ herr hs0 hs1 hbad
  rw [← hok] at herr hs0 hs1 hbad
  have HERR := Lib.hid herr
  have HN0 := Lib.hid hn0
  clear hn hok hS herr hn0
  cases okb with
  | false =>
    obtain rfl := hs0 rfl
    clear hs0 hs1 hbad h0
    go_enter Try.func14, Try.ntmps14
    go_wp2_with (with_reducible refine st_alloc ?_)
    refine StopOp.go rfl fun K hK => ?_
    refine wp_alloc zero_rec ?_
    intro g w1 hg1 hg2 hm1 hB1
    simp only [put_some, List.set_cons_succ, List.set_cons_zero]
    refine hK _ _ ?_
    clear hK K
    obtain ⟨_, _, hx, hc⟩ := (hb.ext hm1).byte hlen
    cases hx
    rw [HN0.out, Nat.add_zero] at hc
    go_wp2_with (first
                  | (with_reducible refine st_store ?_)
                  | (go_at_call 22; (with_reducible refine (SZ _).mono ?_); rintro e w2 ⟨rfl, rfl⟩))
    refine StopOp.go rfl fun K hK => ?_
    refine wp_store (u := .agg #[.int .i64 0, .int .u32 0, .int .i64 0, .int .i64 0, .int .i64 0]) (by rfl) (by rfl) (by kernel_rfl) hB1 (by simp [Value.cells, cellsC]) (by simp [Value.cells, Value.oneCell']) ?_
    intro w90 hm90 hB90
    refine hK _ _ ?_
    clear hK K
    have z0 := hB90.cell' (i := 0) rfl
    have z1 := hB90.cell' (i := 1) rfl
    have z2 := hB90.cell' (i := 2) rfl
    have z3 := hB90.cell' (i := 3) rfl
    have z4 := hB90.cell' (i := 4) rfl
    go_wp2_with fail
    exact bodyPost_ret (v := .tuple #[.agg #[.int .i64 0, .int .u32 0, .int .i64 0, .int .i64 0, .int .i64 0], .int .i64 160]) (by simp [results, Try.results14, go_sem, z0, z1, z2, z3, z4]) rfl (gc_no (by rw [HERR.out]; rfl) (by decide) rfl (hm1.fresh hm90 (by simpa using hg1)))
  | true =>
    have h5 := hs1 rfl
    have hlt : b.length < S := (hbad.resolve_left h0).resolve_left (by simp)
    have hd : decide (b.length < S) = true := decide_eq_true hlt
    have hz : ((S : Int) == 0) = false := by simp; omega
    clear hs0 hs1 hbad h0
    go_enter Try.func14, Try.ntmps14
    go_wp2_with (with_reducible refine st_alloc ?_)
    refine StopOp.go rfl fun K hK => ?_
    refine wp_alloc zero_rec ?_
    intro g w1 hg1 hg2 hm1 hB1
    simp only [put_some, List.set_cons_succ, List.set_cons_zero]
    refine hK _ _ ?_
    clear hK K
    obtain ⟨_, _, hx, hc⟩ := (hb.ext hm1).byte hlen
    cases hx
    rw [HN0.out, Nat.add_zero] at hc
    go_wp2_with (first
                  | (with_reducible refine st_store ?_)
                  | (go_at_call 22; (with_reducible refine (SZ _).mono ?_); rintro e w2 ⟨rfl, rfl⟩))
    refine StopOp.go rfl fun K hK => ?_
    refine wp_store (u := .agg #[.int .i64 0, .int .u32 0, .int .i64 0, .int .i64 0, .int .i64 0]) (by rfl) (by rfl) (by kernel_rfl) hB1 (by simp [Value.cells, cellsC]) (by simp [Value.cells, Value.oneCell']) ?_
    intro w90 hm90 hB90
    refine hK _ _ ?_
    clear hK K
    have z0 := hB90.cell' (i := 0) rfl
    have z1 := hB90.cell' (i := 1) rfl
    have z2 := hB90.cell' (i := 2) rfl
    have z3 := hB90.cell' (i := 3) rfl
    have z4 := hB90.cell' (i := 4) rfl
    go_wp2_with fail
    exact bodyPost_ret (v := .tuple #[.agg #[.int .i64 0, .int .u32 0, .int .i64 0, .int .i64 0, .int .i64 0], .int .i64 4]) (by simp [results, Try.results14, go_sem, z0, z1, z2, z3, z4]) rfl (gc_no (by rw [HERR.out, if_neg (by simp), if_pos hlt]) (by decide) rfl (hm1.fresh hm90 (by simpa using hg1)))
set_option maxRecDepth 1000000 in
set_option maxHeartbeats 8000000 in
theorem rget_1 (b : List UInt8) (bv0 : Value) (w : World) (hb : Bs w bv0 b) (hl : b.length ≤ 140737488355328) (hk : nb b 0 1 = 1) (hlen : 15 ≤ b.length) : Calls Try.prog 14 #[bv0] w (GetC b w) := by
  obtain ⟨aob, capb, rfl, hc1, hc2⟩ := hb.form
  obtain ⟨bb, bo, rfl, _⟩ := hb.byte (j := 0) (by omega)
  have hn0 := nb_byte b (by omega)
  rw [hk] at hn0
  have hlen' : ((b.length : Int) == 0) = false := by simp; intro h; subst h; simp at hlen
  have hd : decide (b.length < 15) = false := decide_eq_false (by omega)
  have hd' : ¬ ((b.length : Int) < 15) := by omega
  have p1 := Bs.sub (lo := 1) (hi := 5) hb (by omega) (by omega) hc1 rfl
  have V1 := fun w (hb : Bs w _ _) => refValue_any ((b.drop 1).take 4) (.slice (some ⟨bb, bo + 1, none⟩) 4 (capb - 1)) w hb (by rw [List.length_take]; omega)
  rw [show val ((b.drop 1).take 4) = nb b 1 4 from rfl] at V1
  have z1 : (nb b 1 4 : Int) ≤ 4294967295 := by have := nb_lt b 1 4; omega
  have zz1 : (0 : Int) ≤ (nb b 1 4 : Int) := by omega
  have c1 : ¬ capb = 1 := by omega
  have d1 : 5 ≤ capb := by omega
  simp only [Option.map_some, Addr.add_lit, Nat.reduceSub] at p1
  have p2 := Bs.sub (lo := 5) (hi := 7) hb (by omega) (by omega) hc1 rfl
  have V2 := fun w (hb : Bs w _ _) => refValue_any ((b.drop 5).take 2) (.slice (some ⟨bb, bo + 5, none⟩) 2 (capb - 5)) w hb (by rw [List.length_take]; omega)
  rw [show val ((b.drop 5).take 2) = nb b 5 2 from rfl] at V2
  have z2 : (nb b 5 2 : Int) ≤ 65535 := by have := nb_lt b 5 2; omega
  have zz2 : (0 : Int) ≤ (nb b 5 2 : Int) := by omega
  have c2 : ¬ capb = 5 := by omega
  have d2 : 7 ≤ capb := by omega
  simp only [Option.map_some, Addr.add_lit, Nat.reduceSub] at p2
  have p3 := Bs.sub (lo := 7) (hi := 15) hb (by omega) (by omega) hc1 rfl
  have V3 := fun w (hb : Bs w _ _) => refValue_any ((b.drop 7).take 8) (.slice (some ⟨bb, bo + 7, none⟩) 8 (capb - 7)) w hb (by rw [List.length_take]; omega)
  rw [show val ((b.drop 7).take 8) = nb b 7 8 from rfl] at V3
  have z3 : (nb b 7 8 : Int) ≤ 18446744073709551615 := by have := nb_lt b 7 8; omega
  have zz3 : (0 : Int) ≤ (nb b 7 8 : Int) := by omega
  have c3 : ¬ capb = 7 := by omega
  have d3 : 15 ≤ capb := by omega
  simp only [Option.map_some, Addr.add_lit, Nat.reduceSub] at p3
  obtain ⟨T, hT⟩ : ∃ T, T = wrap64 (nb b 7 8) := ⟨_, rfl⟩
  have hpar : parC b = ⟨1, (nb b 1 4 : Nat), (nb b 5 2 : Nat), T, 0⟩ := by
    unfold parC
    rw [hk]
    dsimp only
    rw [hT]
    simp [cI, cS, cU, cC]
  have hps := parC_ok b
  have herr : errC b = if mayC (parC b) = false then 160 else if 15 < b.length then 5 else 0 := by
    unfold errC
    rw [hk, if_neg (by intro h; subst h; simp at hlen), if_neg (by decide), if_neg (by simp [sizeC]; omega)]
    rfl
  rw [hpar] at hps herr
  have CK := fun w => rmay_any _ hps w
  dsimp only [Rc.v] at CK
  obtain ⟨M, hM0⟩ : ∃ M, M = mayC ⟨1, (nb b 1 4 : Nat), (nb b 5 2 : Nat), T, 0⟩ := ⟨_, rfl⟩
  rw [← hM0] at CK herr
  have HE := Lib.hid herr
  have HP := Lib.hid hpar
  have SZ := fun w => rsize_any (1 : Int) w
  rw [show ((sizeC 1 : Nat) : Int) = 15 from rfl] at SZ
  have HN0 := Lib.hid hn0
  have HT := Lib.hid hT
  clear herr hpar hM0 hn0 hps hk hT
  go_enter Try.func14, Try.ntmps14
  go_wp2_with (with_reducible refine st_alloc ?_)
  refine StopOp.go rfl fun K hK => ?_
  refine wp_alloc zero_rec ?_
  intro g w1 hg1 hg2 hm1 hB1
  simp only [put_some, List.set_cons_succ, List.set_cons_zero]
  refine hK _ _ ?_
  clear hK K
  obtain ⟨_, _, hx, hc⟩ := (hb.ext hm1).byte (j := 0) (by omega)
  cases hx
  rw [HN0.out, Nat.add_zero] at hc
  go_wp2_with (first
                | (with_reducible refine st_alloc ?_)
                | (go_at_call 22; (with_reducible refine (SZ _).mono ?_); rintro e w2 ⟨rfl, rfl⟩))
  refine StopOp.go rfl fun K hK => ?_
  refine wp_alloc zero_rec ?_
  intro p w4 hp1 hp2 hm4 hB4
  simp only [put_some, List.set_cons_succ, List.set_cons_zero]
  refine hK _ _ ?_
  clear hK K
  go_wp2_with (with_reducible refine st_store ?_)
  refine StopOp.go rfl fun K hK => ?_
  refine wp_store (u := .agg #[.int .i64 1, .int .u32 0, .int .i64 0, .int .i64 0, .int .i64 0]) (by rfl) (by rfl) (by kernel_rfl) hB4 (by simp [Value.cells]) (by simp [Value.cells, Value.oneCell']) ?_
  intro w5 hm5 hB5
  refine hK _ _ ?_
  clear hK K
  have hP5 : Blk w5 p 25 [.int .i64 1, .int .u32 0, .int .i64 0, .int .i64 0, .int .i64 0] := hB5
  have hm15 : Mod [] w1 w5 := hm4.fresh hm5 (by simpa using hp1)
  have hM5 := hm1.ext hm15
  have hG5 : Blk w5 g 25 (cellsC cz) := Blk.ext hB1 hm15
  have hpw : w.heap.size ≤ p := Nat.le_trans hm1.size hp1
  have hgw : w.heap.size ≤ g := hg1
  have hgp : g ≠ p := by have := hm1.size; omega
  clear hB1 hm1 hB4 hB5 hm4 hm5 hm15 hc
  go_wp2_with (first
                | (with_reducible refine st_store ?_)
                | (go_at_call 38; refine (V1 _ (p1.ext hM5)).mono ?_; rintro e wv1 ⟨rfl, rfl⟩))
  refine StopOp.go rfl fun K hK => ?_
  refine wp_store1 (by kernel_rfl) (by rfl) (u := (.int .u32 (nb b 1 4))) (by rfl) ⟨rfl, rfl⟩ hP5 (by simp) ?_
  intro w6 hm6 hB6
  refine hK _ _ ?_
  clear hK K
  have hP6 : Blk w6 p 25 [.int .i64 1, .int .u32 (nb b 1 4 : Nat), .int .i64 0, .int .i64 0, .int .i64 0] := by
    skip
    exact hB6
  have hG6 := hG5.mod hm6 (by simpa using hgp)
  have hM6 := hM5.fresh hm6 (by simpa using hpw)
  clear hB6 hm6 hP5 hG5 hM5
  go_wp2_with (first
                | (with_reducible refine st_store ?_)
                | (go_at_call 38; refine (V2 _ (p2.ext hM6)).mono ?_; rintro e wv2 ⟨rfl, rfl⟩))
  refine StopOp.go rfl fun K hK => ?_
  refine wp_store1 (by kernel_rfl) (by rfl) (u := (.int .i64 (nb b 5 2))) (by rfl) ⟨rfl, rfl⟩ hP6 (by simp) ?_
  intro w7 hm7 hB7
  refine hK _ _ ?_
  clear hK K
  have hP7 : Blk w7 p 25 [.int .i64 1, .int .u32 (nb b 1 4 : Nat), .int .i64 (nb b 5 2 : Nat), .int .i64 0, .int .i64 0] := by
    skip
    exact hB7
  have hG7 := hG6.mod hm7 (by simpa using hgp)
  have hM7 := hM6.fresh hm7 (by simpa using hpw)
  clear hB7 hm7 hP6 hG6 hM6
  go_wp2_with (first
                | (with_reducible refine st_store ?_)
                | (go_at_call 38; refine (V3 _ (p3.ext hM7)).mono ?_; rintro e wv3 ⟨rfl, rfl⟩))
  refine StopOp.go rfl fun K hK => ?_
  refine wp_store1 (by kernel_rfl) (by rfl) (u := (.int .i64 (wrap64 (nb b 7 8)))) (by rfl) ⟨rfl, rfl⟩ hP7 (by simp) ?_
  intro w8 hm8 hB8
  refine hK _ _ ?_
  clear hK K
  have hP8 : Blk w8 p 25 [.int .i64 1, .int .u32 (nb b 1 4 : Nat), .int .i64 (nb b 5 2 : Nat), .int .i64 T, .int .i64 0] := by
    rw [← HT.out] at hB8
    exact hB8
  have hG8 := hG7.mod hm8 (by simpa using hgp)
  have hM8 := hM7.fresh hm8 (by simpa using hpw)
  clear hB8 hm8 hP7 hG7 hM7
  have k0 := hP8.cell' (i := 0) rfl
  have k1 := hP8.cell' (i := 1) rfl
  have k2 := hP8.cell' (i := 2) rfl
  have k3 := hP8.cell' (i := 3) rfl
  have k4 := hP8.cell' (i := 4) rfl
  cases M with
  | false =>
    go_wp2_with (first
                  | (with_reducible refine st_store ?_)
                  | (go_at_call 39; (with_reducible refine (CK _).mono ?_); rintro e w10 ⟨rfl, hm10⟩))
    have hG' := hG8.ext hm10
    refine StopOp.go rfl fun K hK => ?_
    refine wp_store (u := .agg #[.int .i64 0, .int .u32 0, .int .i64 0, .int .i64 0, .int .i64 0]) (by rfl) (by rfl) (by kernel_rfl) hG' (by simp [Value.cells, cellsC]) (by simp [Value.cells, Value.oneCell']) ?_
    intro w90 hm90 hB90
    refine hK _ _ ?_
    clear hK K
    have z0 := hB90.cell' (i := 0) rfl
    have z1 := hB90.cell' (i := 1) rfl
    have z2 := hB90.cell' (i := 2) rfl
    have z3 := hB90.cell' (i := 3) rfl
    have z4 := hB90.cell' (i := 4) rfl
    go_wp2_with fail
    exact bodyPost_ret (v := .tuple #[.agg #[.int .i64 0, .int .u32 0, .int .i64 0, .int .i64 0, .int .i64 0], .int .i64 160]) (by simp [results, Try.results14, go_sem, z0, z1, z2, z3, z4]) rfl (gc_no (by rw [HE.out]; rfl) (by decide) rfl ((hM8.ext hm10).fresh hm90 (by simpa using hgw)))
  | true =>
    by_cases hgt : 15 < b.length
    · have hd2 : decide (15 < b.length) = true := decide_eq_true hgt
      have hd3 : (15 : Int) < b.length := by omega
      go_wp2_with (first
                    | (with_reducible refine st_store ?_)
                    | (go_at_call 39; (with_reducible refine (CK _).mono ?_); rintro e w10 ⟨rfl, hm10⟩))
      have hG' := hG8.ext hm10
      refine StopOp.go rfl fun K hK => ?_
      refine wp_store (u := .agg #[.int .i64 0, .int .u32 0, .int .i64 0, .int .i64 0, .int .i64 0]) (by rfl) (by rfl) (by kernel_rfl) hG' (by simp [Value.cells, cellsC]) (by simp [Value.cells, Value.oneCell']) ?_
      intro w90 hm90 hB90
      refine hK _ _ ?_
      clear hK K
      have z0 := hB90.cell' (i := 0) rfl
      have z1 := hB90.cell' (i := 1) rfl
      have z2 := hB90.cell' (i := 2) rfl
      have z3 := hB90.cell' (i := 3) rfl
      have z4 := hB90.cell' (i := 4) rfl
      go_wp2_with fail
      exact bodyPost_ret (v := .tuple #[.agg #[.int .i64 0, .int .u32 0, .int .i64 0, .int .i64 0, .int .i64 0], .int .i64 5]) (by simp [results, Try.results14, go_sem, z0, z1, z2, z3, z4]) rfl (gc_no (by rw [HE.out, if_neg (by simp), if_pos hgt]) (by decide) rfl ((hM8.ext hm10).fresh hm90 (by simpa using hgw)))
    · have hd2 : decide (15 < b.length) = false := decide_eq_false hgt
      have hd3 : ¬ (15 : Int) < b.length := by omega
      go_wp2_with (first
                    | (with_reducible refine st_store ?_)
                    | (go_at_call 39; (with_reducible refine (CK _).mono ?_); rintro e w10 ⟨rfl, hm10⟩; have hG' := hG8.ext hm10; have hP' := hP8.ext hm10; have v0 := hP'.cell' (i := 0) rfl; have v1 := hP'.cell' (i := 1) rfl; have v2 := hP'.cell' (i := 2) rfl; have v3 := hP'.cell' (i := 3) rfl; have v4 := hP'.cell' (i := 4) rfl))
      refine StopOp.go rfl fun K hK => ?_
      refine wp_store (u := .agg #[.int .i64 1, .int .u32 (nb b 1 4 : Nat), .int .i64 (nb b 5 2 : Nat), .int .i64 T, .int .i64 0]) (by rfl) (by rfl) (by kernel_rfl) hG' (by simp [Value.cells, cellsC]) (by simp [Value.cells, Value.oneCell']) ?_
      intro w90 hm90 hB90
      refine hK _ _ ?_
      clear hK K
      have z0 := hB90.cell' (i := 0) rfl
      have z1 := hB90.cell' (i := 1) rfl
      have z2 := hB90.cell' (i := 2) rfl
      have z3 := hB90.cell' (i := 3) rfl
      have z4 := hB90.cell' (i := 4) rfl
      go_wp2_with fail
      exact bodyPost_ret (v := .tuple #[.agg #[.int .i64 1, .int .u32 (nb b 1 4 : Nat), .int .i64 (nb b 5 2 : Nat), .int .i64 T, .int .i64 0], .int .i64 0]) (by simp [results, Try.results14, go_sem, z0, z1, z2, z3, z4]) rfl (gc_yes (by rw [HE.out, if_neg (by simp), if_neg hgt]) (by rw [HP.out]; rfl) ((hM8.ext hm10).fresh hm90 (by simpa using hgw)))
set_option maxRecDepth 1000000 in
set_option maxHeartbeats 8000000 in
theorem rget_2 (b : List UInt8) (bv0 : Value) (w : World) (hb : Bs w bv0 b) (hl : b.length ≤ 140737488355328) (hk : nb b 0 1 = 2) (hlen : 5 ≤ b.length) : Calls Try.prog 14 #[bv0] w (GetC b w) := by
  obtain ⟨aob, capb, rfl, hc1, hc2⟩ := hb.form
  obtain ⟨bb, bo, rfl, _⟩ := hb.byte (j := 0) (by omega)
  have hn0 := nb_byte b (by omega)
  rw [hk] at hn0
  have hlen' : ((b.length : Int) == 0) = false := by simp; intro h; subst h; simp at hlen
  have hd : decide (b.length < 5) = false := decide_eq_false (by omega)
  have hd' : ¬ ((b.length : Int) < 5) := by omega
  have p1 := Bs.sub (lo := 1) (hi := 5) hb (by omega) (by omega) hc1 rfl
  have V1 := fun w (hb : Bs w _ _) => refValue_any ((b.drop 1).take 4) (.slice (some ⟨bb, bo + 1, none⟩) 4 (capb - 1)) w hb (by rw [List.length_take]; omega)
  rw [show val ((b.drop 1).take 4) = nb b 1 4 from rfl] at V1
  have z1 : (nb b 1 4 : Int) ≤ 4294967295 := by have := nb_lt b 1 4; omega
  have zz1 : (0 : Int) ≤ (nb b 1 4 : Int) := by omega
  have c1 : ¬ capb = 1 := by omega
  have d1 : 5 ≤ capb := by omega
  simp only [Option.map_some, Addr.add_lit, Nat.reduceSub] at p1
  have hpar : parC b = ⟨2, (nb b 1 4 : Nat), 0, 0, 0⟩ := by
    unfold parC
    rw [hk]
    dsimp only
    skip
    simp [cI, cS, cU, cC]
  have hps := parC_ok b
  have herr : errC b = if mayC (parC b) = false then 160 else if 5 < b.length then 5 else 0 := by
    unfold errC
    rw [hk, if_neg (by intro h; subst h; simp at hlen), if_neg (by decide), if_neg (by simp [sizeC]; omega)]
    rfl
  rw [hpar] at hps herr
  have CK := fun w => rmay_any _ hps w
  dsimp only [Rc.v] at CK
  obtain ⟨M, hM0⟩ : ∃ M, M = mayC ⟨2, (nb b 1 4 : Nat), 0, 0, 0⟩ := ⟨_, rfl⟩
  rw [← hM0] at CK herr
  have HE := Lib.hid herr
  have HP := Lib.hid hpar
  have SZ := fun w => rsize_any (2 : Int) w
  rw [show ((sizeC 2 : Nat) : Int) = 5 from rfl] at SZ
  have HN0 := Lib.hid hn0
  clear herr hpar hM0 hn0 hps hk 
  go_enter Try.func14, Try.ntmps14
  go_wp2_with (with_reducible refine st_alloc ?_)
  refine StopOp.go rfl fun K hK => ?_
  refine wp_alloc zero_rec ?_
  intro g w1 hg1 hg2 hm1 hB1
  simp only [put_some, List.set_cons_succ, List.set_cons_zero]
  refine hK _ _ ?_
  clear hK K
  obtain ⟨_, _, hx, hc⟩ := (hb.ext hm1).byte (j := 0) (by omega)
  cases hx
  rw [HN0.out, Nat.add_zero] at hc
  go_wp2_with (first
                | (with_reducible refine st_alloc ?_)
                | (go_at_call 22; (with_reducible refine (SZ _).mono ?_); rintro e w2 ⟨rfl, rfl⟩))
  refine StopOp.go rfl fun K hK => ?_
  refine wp_alloc zero_rec ?_
  intro p w4 hp1 hp2 hm4 hB4
  simp only [put_some, List.set_cons_succ, List.set_cons_zero]
  refine hK _ _ ?_
  clear hK K
  go_wp2_with (with_reducible refine st_store ?_)
  refine StopOp.go rfl fun K hK => ?_
  refine wp_store (u := .agg #[.int .i64 2, .int .u32 0, .int .i64 0, .int .i64 0, .int .i64 0]) (by rfl) (by rfl) (by kernel_rfl) hB4 (by simp [Value.cells]) (by simp [Value.cells, Value.oneCell']) ?_
  intro w5 hm5 hB5
  refine hK _ _ ?_
  clear hK K
  have hP5 : Blk w5 p 25 [.int .i64 2, .int .u32 0, .int .i64 0, .int .i64 0, .int .i64 0] := hB5
  have hm15 : Mod [] w1 w5 := hm4.fresh hm5 (by simpa using hp1)
  have hM5 := hm1.ext hm15
  have hG5 : Blk w5 g 25 (cellsC cz) := Blk.ext hB1 hm15
  have hpw : w.heap.size ≤ p := Nat.le_trans hm1.size hp1
  have hgw : w.heap.size ≤ g := hg1
  have hgp : g ≠ p := by have := hm1.size; omega
  clear hB1 hm1 hB4 hB5 hm4 hm5 hm15 hc
  go_wp2_with (first
                | (with_reducible refine st_store ?_)
                | (go_at_call 38; refine (V1 _ (p1.ext hM5)).mono ?_; rintro e wv1 ⟨rfl, rfl⟩))
  refine StopOp.go rfl fun K hK => ?_
  refine wp_store1 (by kernel_rfl) (by rfl) (u := (.int .u32 (nb b 1 4))) (by rfl) ⟨rfl, rfl⟩ hP5 (by simp) ?_
  intro w6 hm6 hB6
  refine hK _ _ ?_
  clear hK K
  have hP6 : Blk w6 p 25 [.int .i64 2, .int .u32 (nb b 1 4 : Nat), .int .i64 0, .int .i64 0, .int .i64 0] := by
    skip
    exact hB6
  have hG6 := hG5.mod hm6 (by simpa using hgp)
  have hM6 := hM5.fresh hm6 (by simpa using hpw)
  clear hB6 hm6 hP5 hG5 hM5
  have k0 := hP6.cell' (i := 0) rfl
  have k1 := hP6.cell' (i := 1) rfl
  have k2 := hP6.cell' (i := 2) rfl
  have k3 := hP6.cell' (i := 3) rfl
  have k4 := hP6.cell' (i := 4) rfl
  cases M with
  | false =>
    go_wp2_with (first
                  | (with_reducible refine st_store ?_)
                  | (go_at_call 39; (with_reducible refine (CK _).mono ?_); rintro e w10 ⟨rfl, hm10⟩))
    have hG' := hG6.ext hm10
    refine StopOp.go rfl fun K hK => ?_
    refine wp_store (u := .agg #[.int .i64 0, .int .u32 0, .int .i64 0, .int .i64 0, .int .i64 0]) (by rfl) (by rfl) (by kernel_rfl) hG' (by simp [Value.cells, cellsC]) (by simp [Value.cells, Value.oneCell']) ?_
    intro w90 hm90 hB90
    refine hK _ _ ?_
    clear hK K
    have z0 := hB90.cell' (i := 0) rfl
    have z1 := hB90.cell' (i := 1) rfl
    have z2 := hB90.cell' (i := 2) rfl
    have z3 := hB90.cell' (i := 3) rfl
    have z4 := hB90.cell' (i := 4) rfl
    go_wp2_with fail
    exact bodyPost_ret (v := .tuple #[.agg #[.int .i64 0, .int .u32 0, .int .i64 0, .int .i64 0, .int .i64 0], .int .i64 160]) (by simp [results, Try.results14, go_sem, z0, z1, z2, z3, z4]) rfl (gc_no (by rw [HE.out]; rfl) (by decide) rfl ((hM6.ext hm10).fresh hm90 (by simpa using hgw)))
  | true =>
    by_cases hgt : 5 < b.length
    · have hd2 : decide (5 < b.length) = true := decide_eq_true hgt
      have hd3 : (5 : Int) < b.length := by omega
      go_wp2_with (first
                    | (with_reducible refine st_store ?_)
                    | (go_at_call 39; (with_reducible refine (CK _).mono ?_); rintro e w10 ⟨rfl, hm10⟩))
      have hG' := hG6.ext hm10
      refine StopOp.go rfl fun K hK => ?_
      refine wp_store (u := .agg #[.int .i64 0, .int .u32 0, .int .i64 0, .int .i64 0, .int .i64 0]) (by rfl) (by rfl) (by kernel_rfl) hG' (by simp [Value.cells, cellsC]) (by simp [Value.cells, Value.oneCell']) ?_
      intro w90 hm90 hB90
      refine hK _ _ ?_
      clear hK K
      have z0 := hB90.cell' (i := 0) rfl
      have z1 := hB90.cell' (i := 1) rfl
      have z2 := hB90.cell' (i := 2) rfl
      have z3 := hB90.cell' (i := 3) rfl
      have z4 := hB90.cell' (i := 4) rfl
      go_wp2_with fail
      exact bodyPost_ret (v := .tuple #[.agg #[.int .i64 0, .int .u32 0, .int .i64 0, .int .i64 0, .int .i64 0], .int .i64 5]) (by simp [results, Try.results14, go_sem, z0, z1, z2, z3, z4]) rfl (gc_no (by rw [HE.out, if_neg (by simp), if_pos hgt]) (by decide) rfl ((hM6.ext hm10).fresh hm90 (by simpa using hgw)))
    · have hd2 : decide (5 < b.length) = false := decide_eq_false hgt
      have hd3 : ¬ (5 : Int) < b.length := by omega
      go_wp2_with (first
                    | (with_reducible refine st_store ?_)
                    | (go_at_call 39; (with_reducible refine (CK _).mono ?_); rintro e w10 ⟨rfl, hm10⟩; have hG' := hG6.ext hm10; have hP' := hP6.ext hm10; have v0 := hP'.cell' (i := 0) rfl; have v1 := hP'.cell' (i := 1) rfl; have v2 := hP'.cell' (i := 2) rfl; have v3 := hP'.cell' (i := 3) rfl; have v4 := hP'.cell' (i := 4) rfl))
      refine StopOp.go rfl fun K hK => ?_
      refine wp_store (u := .agg #[.int .i64 2, .int .u32 (nb b 1 4 : Nat), .int .i64 0, .int .i64 0, .int .i64 0]) (by rfl) (by rfl) (by kernel_rfl) hG' (by simp [Value.cells, cellsC]) (by simp [Value.cells, Value.oneCell']) ?_
      intro w90 hm90 hB90
      refine hK _ _ ?_
      clear hK K
      have z0 := hB90.cell' (i := 0) rfl
      have z1 := hB90.cell' (i := 1) rfl
      have z2 := hB90.cell' (i := 2) rfl
      have z3 := hB90.cell' (i := 3) rfl
      have z4 := hB90.cell' (i := 4) rfl
      go_wp2_with fail
      exact bodyPost_ret (v := .tuple #[.agg #[.int .i64 2, .int .u32 (nb b 1 4 : Nat), .int .i64 0, .int .i64 0, .int .i64 0], .int .i64 0]) (by simp [results, Try.results14, go_sem, z0, z1, z2, z3, z4]) rfl (gc_yes (by rw [HE.out, if_neg (by simp), if_neg hgt]) (by rw [HP.out]; rfl) ((hM6.ext hm10).fresh hm90 (by simpa using hgw)))
set_option maxRecDepth 1000000 in
set_option maxHeartbeats 8000000 in
theorem rget_3 (b : List UInt8) (bv0 : Value) (w : World) (hb : Bs w bv0 b) (hl : b.length ≤ 140737488355328) (hk : nb b 0 1 = 3) (hlen : 5 ≤ b.length) : Calls Try.prog 14 #[bv0] w (GetC b w) := by
  obtain ⟨aob, capb, rfl, hc1, hc2⟩ := hb.form
  obtain ⟨bb, bo, rfl, _⟩ := hb.byte (j := 0) (by omega)
  have hn0 := nb_byte b (by omega)
  rw [hk] at hn0
  have hlen' : ((b.length : Int) == 0) = false := by simp; intro h; subst h; simp at hlen
  have hd : decide (b.length < 5) = false := decide_eq_false (by omega)
  have hd' : ¬ ((b.length : Int) < 5) := by omega
  have p1 := Bs.sub (lo := 1) (hi := 5) hb (by omega) (by omega) hc1 rfl
  have V1 := fun w (hb : Bs w _ _) => refValue_any ((b.drop 1).take 4) (.slice (some ⟨bb, bo + 1, none⟩) 4 (capb - 1)) w hb (by rw [List.length_take]; omega)
  rw [show val ((b.drop 1).take 4) = nb b 1 4 from rfl] at V1
  have z1 : (nb b 1 4 : Int) ≤ 4294967295 := by have := nb_lt b 1 4; omega
  have zz1 : (0 : Int) ≤ (nb b 1 4 : Int) := by omega
  have c1 : ¬ capb = 1 := by omega
  have d1 : 5 ≤ capb := by omega
  simp only [Option.map_some, Addr.add_lit, Nat.reduceSub] at p1
  have hpar : parC b = ⟨3, (nb b 1 4 : Nat), 0, 0, 0⟩ := by
    unfold parC
    rw [hk]
    dsimp only
    skip
    simp [cI, cS, cU, cC]
  have hps := parC_ok b
  have herr : errC b = if mayC (parC b) = false then 160 else if 5 < b.length then 5 else 0 := by
    unfold errC
    rw [hk, if_neg (by intro h; subst h; simp at hlen), if_neg (by decide), if_neg (by simp [sizeC]; omega)]
    rfl
  rw [hpar] at hps herr
  have CK := fun w => rmay_any _ hps w
  dsimp only [Rc.v] at CK
  obtain ⟨M, hM0⟩ : ∃ M, M = mayC ⟨3, (nb b 1 4 : Nat), 0, 0, 0⟩ := ⟨_, rfl⟩
  rw [← hM0] at CK herr
  have HE := Lib.hid herr
  have HP := Lib.hid hpar
  have SZ := fun w => rsize_any (3 : Int) w
  rw [show ((sizeC 3 : Nat) : Int) = 5 from rfl] at SZ
  have HN0 := Lib.hid hn0
  clear herr hpar hM0 hn0 hps hk 
  go_enter Try.func14, Try.ntmps14
  go_wp2_with (with_reducible refine st_alloc ?_)
  refine StopOp.go rfl fun K hK => ?_
  refine wp_alloc zero_rec ?_
  intro g w1 hg1 hg2 hm1 hB1
  simp only [put_some, List.set_cons_succ, List.set_cons_zero]
  refine hK _ _ ?_
  clear hK K
  obtain ⟨_, _, hx, hc⟩ := (hb.ext hm1).byte (j := 0) (by omega)
  cases hx
  rw [HN0.out, Nat.add_zero] at hc
  go_wp2_with (first
                | (with_reducible refine st_alloc ?_)
                | (go_at_call 22; (with_reducible refine (SZ _).mono ?_); rintro e w2 ⟨rfl, rfl⟩))
  refine StopOp.go rfl fun K hK => ?_
  refine wp_alloc zero_rec ?_
  intro p w4 hp1 hp2 hm4 hB4
  simp only [put_some, List.set_cons_succ, List.set_cons_zero]
  refine hK _ _ ?_
  clear hK K
  go_wp2_with (with_reducible refine st_store ?_)
  refine StopOp.go rfl fun K hK => ?_
  refine wp_store (u := .agg #[.int .i64 3, .int .u32 0, .int .i64 0, .int .i64 0, .int .i64 0]) (by rfl) (by rfl) (by kernel_rfl) hB4 (by simp [Value.cells]) (by simp [Value.cells, Value.oneCell']) ?_
  intro w5 hm5 hB5
  refine hK _ _ ?_
  clear hK K
  have hP5 : Blk w5 p 25 [.int .i64 3, .int .u32 0, .int .i64 0, .int .i64 0, .int .i64 0] := hB5
  have hm15 : Mod [] w1 w5 := hm4.fresh hm5 (by simpa using hp1)
  have hM5 := hm1.ext hm15
  have hG5 : Blk w5 g 25 (cellsC cz) := Blk.ext hB1 hm15
  have hpw : w.heap.size ≤ p := Nat.le_trans hm1.size hp1
  have hgw : w.heap.size ≤ g := hg1
  have hgp : g ≠ p := by have := hm1.size; omega
  clear hB1 hm1 hB4 hB5 hm4 hm5 hm15 hc
  go_wp2_with (first
                | (with_reducible refine st_store ?_)
                | (go_at_call 38; refine (V1 _ (p1.ext hM5)).mono ?_; rintro e wv1 ⟨rfl, rfl⟩))
  refine StopOp.go rfl fun K hK => ?_
  refine wp_store1 (by kernel_rfl) (by rfl) (u := (.int .u32 (nb b 1 4))) (by rfl) ⟨rfl, rfl⟩ hP5 (by simp) ?_
  intro w6 hm6 hB6
  refine hK _ _ ?_
  clear hK K
  have hP6 : Blk w6 p 25 [.int .i64 3, .int .u32 (nb b 1 4 : Nat), .int .i64 0, .int .i64 0, .int .i64 0] := by
    skip
    exact hB6
  have hG6 := hG5.mod hm6 (by simpa using hgp)
  have hM6 := hM5.fresh hm6 (by simpa using hpw)
  clear hB6 hm6 hP5 hG5 hM5
  have k0 := hP6.cell' (i := 0) rfl
  have k1 := hP6.cell' (i := 1) rfl
  have k2 := hP6.cell' (i := 2) rfl
  have k3 := hP6.cell' (i := 3) rfl
  have k4 := hP6.cell' (i := 4) rfl
  cases M with
  | false =>
    go_wp2_with (first
                  | (with_reducible refine st_store ?_)
                  | (go_at_call 39; (with_reducible refine (CK _).mono ?_); rintro e w10 ⟨rfl, hm10⟩))
    have hG' := hG6.ext hm10
    refine StopOp.go rfl fun K hK => ?_
    refine wp_store (u := .agg #[.int .i64 0, .int .u32 0, .int .i64 0, .int .i64 0, .int .i64 0]) (by rfl) (by rfl) (by kernel_rfl) hG' (by simp [Value.cells, cellsC]) (by simp [Value.cells, Value.oneCell']) ?_
    intro w90 hm90 hB90
    refine hK _ _ ?_
    clear hK K
    have z0 := hB90.cell' (i := 0) rfl
    have z1 := hB90.cell' (i := 1) rfl
    have z2 := hB90.cell' (i := 2) rfl
    have z3 := hB90.cell' (i := 3) rfl
    have z4 := hB90.cell' (i := 4) rfl
    go_wp2_with fail
    exact bodyPost_ret (v := .tuple #[.agg #[.int .i64 0, .int .u32 0, .int .i64 0, .int .i64 0, .int .i64 0], .int .i64 160]) (by simp [results, Try.results14, go_sem, z0, z1, z2, z3, z4]) rfl (gc_no (by rw [HE.out]; rfl) (by decide) rfl ((hM6.ext hm10).fresh hm90 (by simpa using hgw)))
  | true =>
    by_cases hgt : 5 < b.length
    · have hd2 : decide (5 < b.length) = true := decide_eq_true hgt
      have hd3 : (5 : Int) < b.length := by omega
      go_wp2_with (first
                    | (with_reducible refine st_store ?_)
                    | (go_at_call 39; (with_reducible refine (CK _).mono ?_); rintro e w10 ⟨rfl, hm10⟩))
      have hG' := hG6.ext hm10
      refine StopOp.go rfl fun K hK => ?_
      refine wp_store (u := .agg #[.int .i64 0, .int .u32 0, .int .i64 0, .int .i64 0, .int .i64 0]) (by rfl) (by rfl) (by kernel_rfl) hG' (by simp [Value.cells, cellsC]) (by simp [Value.cells, Value.oneCell']) ?_
      intro w90 hm90 hB90
      refine hK _ _ ?_
      clear hK K
      have z0 := hB90.cell' (i := 0) rfl
      have z1 := hB90.cell' (i := 1) rfl
      have z2 := hB90.cell' (i := 2) rfl
      have z3 := hB90.cell' (i := 3) rfl
      have z4 := hB90.cell' (i := 4) rfl
      go_wp2_with fail
      exact bodyPost_ret (v := .tuple #[.agg #[.int .i64 0, .int .u32 0, .int .i64 0, .int .i64 0, .int .i64 0], .int .i64 5]) (by simp [results, Try.results14, go_sem, z0, z1, z2, z3, z4]) rfl (gc_no (by rw [HE.out, if_neg (by simp), if_pos hgt]) (by decide) rfl ((hM6.ext hm10).fresh hm90 (by simpa using hgw)))
    · have hd2 : decide (5 < b.length) = false := decide_eq_false hgt
      have hd3 : ¬ (5 : Int) < b.length := by omega
      go_wp2_with (first
                    | (with_reducible refine st_store ?_)
                    | (go_at_call 39; (with_reducible refine (CK _).mono ?_); rintro e w10 ⟨rfl, hm10⟩; have hG' := hG6.ext hm10; have hP' := hP6.ext hm10; have v0 := hP'.cell' (i := 0) rfl; have v1 := hP'.cell' (i := 1) rfl; have v2 := hP'.cell' (i := 2) rfl; have v3 := hP'.cell' (i := 3) rfl; have v4 := hP'.cell' (i := 4) rfl))
      refine StopOp.go rfl fun K hK => ?_
      refine wp_store (u := .agg #[.int .i64 3, .int .u32 (nb b 1 4 : Nat), .int .i64 0, .int .i64 0, .int .i64 0]) (by rfl) (by rfl) (by kernel_rfl) hG' (by simp [Value.cells, cellsC]) (by simp [Value.cells, Value.oneCell']) ?_
      intro w90 hm90 hB90
      refine hK _ _ ?_
      clear hK K
      have z0 := hB90.cell' (i := 0) rfl
      have z1 := hB90.cell' (i := 1) rfl
      have z2 := hB90.cell' (i := 2) rfl
      have z3 := hB90.cell' (i := 3) rfl
      have z4 := hB90.cell' (i := 4) rfl
      go_wp2_with fail
      exact bodyPost_ret (v := .tuple #[.agg #[.int .i64 3, .int .u32 (nb b 1 4 : Nat), .int .i64 0, .int .i64 0, .int .i64 0], .int .i64 0]) (by simp [results, Try.results14, go_sem, z0, z1, z2, z3, z4]) rfl (gc_yes (by rw [HE.out, if_neg (by simp), if_neg hgt]) (by rw [HP.out]; rfl) ((hM6.ext hm10).fresh hm90 (by simpa using hgw)))
set_option maxRecDepth 1000000 in
set_option maxHeartbeats 8000000 in
theorem rget_4 (b : List UInt8) (bv0 : Value) (w : World) (hb : Bs w bv0 b) (hl : b.length ≤ 140737488355328) (hk : nb b 0 1 = 4) (hlen : 7 ≤ b.length) : Calls Try.prog 14 #[bv0] w (GetC b w) := by
  obtain ⟨aob, capb, rfl, hc1, hc2⟩ := hb.form
  obtain ⟨bb, bo, rfl, _⟩ := hb.byte (j := 0) (by omega)
  have hn0 := nb_byte b (by omega)
  rw [hk] at hn0
  have hlen' : ((b.length : Int) == 0) = false := by simp; intro h; subst h; simp at hlen
  have hd : decide (b.length < 7) = false := decide_eq_false (by omega)
  have hd' : ¬ ((b.length : Int) < 7) := by omega
  have p1 := Bs.sub (lo := 1) (hi := 5) hb (by omega) (by omega) hc1 rfl
  have V1 := fun w (hb : Bs w _ _) => refValue_any ((b.drop 1).take 4) (.slice (some ⟨bb, bo + 1, none⟩) 4 (capb - 1)) w hb (by rw [List.length_take]; omega)
  rw [show val ((b.drop 1).take 4) = nb b 1 4 from rfl] at V1
  have z1 : (nb b 1 4 : Int) ≤ 4294967295 := by have := nb_lt b 1 4; omega
  have zz1 : (0 : Int) ≤ (nb b 1 4 : Int) := by omega
  have c1 : ¬ capb = 1 := by omega
  have d1 : 5 ≤ capb := by omega
  simp only [Option.map_some, Addr.add_lit, Nat.reduceSub] at p1
  have p2 := Bs.sub (lo := 5) (hi := 7) hb (by omega) (by omega) hc1 rfl
  have V2 := fun w (hb : Bs w _ _) => refValue_any ((b.drop 5).take 2) (.slice (some ⟨bb, bo + 5, none⟩) 2 (capb - 5)) w hb (by rw [List.length_take]; omega)
  rw [show val ((b.drop 5).take 2) = nb b 5 2 from rfl] at V2
  have z2 : (nb b 5 2 : Int) ≤ 65535 := by have := nb_lt b 5 2; omega
  have zz2 : (0 : Int) ≤ (nb b 5 2 : Int) := by omega
  have c2 : ¬ capb = 5 := by omega
  have d2 : 7 ≤ capb := by omega
  simp only [Option.map_some, Addr.add_lit, Nat.reduceSub] at p2
  have hpar : parC b = ⟨4, (nb b 1 4 : Nat), (nb b 5 2 : Nat), 0, 0⟩ := by
    unfold parC
    rw [hk]
    dsimp only
    skip
    simp [cI, cS, cU, cC]
  have hps := parC_ok b
  have herr : errC b = if mayC (parC b) = false then 160 else if 7 < b.length then 5 else 0 := by
    unfold errC
    rw [hk, if_neg (by intro h; subst h; simp at hlen), if_neg (by decide), if_neg (by simp [sizeC]; omega)]
    rfl
  rw [hpar] at hps herr
  have CK := fun w => rmay_any _ hps w
  dsimp only [Rc.v] at CK
  obtain ⟨M, hM0⟩ : ∃ M, M = mayC ⟨4, (nb b 1 4 : Nat), (nb b 5 2 : Nat), 0, 0⟩ := ⟨_, rfl⟩
  rw [← hM0] at CK herr
  have HE := Lib.hid herr
  have HP := Lib.hid hpar
  have SZ := fun w => rsize_any (4 : Int) w
  rw [show ((sizeC 4 : Nat) : Int) = 7 from rfl] at SZ
  have HN0 := Lib.hid hn0
  clear herr hpar hM0 hn0 hps hk 
  go_enter Try.func14, Try.ntmps14
  go_wp2_with (with_reducible refine st_alloc ?_)
  refine StopOp.go rfl fun K hK => ?_
  refine wp_alloc zero_rec ?_
  intro g w1 hg1 hg2 hm1 hB1
  simp only [put_some, List.set_cons_succ, List.set_cons_zero]
  refine hK _ _ ?_
  clear hK K
  obtain ⟨_, _, hx, hc⟩ := (hb.ext hm1).byte (j := 0) (by omega)
  cases hx
  rw [HN0.out, Nat.add_zero] at hc
  go_wp2_with (first
                | (with_reducible refine st_alloc ?_)
                | (go_at_call 22; (with_reducible refine (SZ _).mono ?_); rintro e w2 ⟨rfl, rfl⟩))
  refine StopOp.go rfl fun K hK => ?_
  refine wp_alloc zero_rec ?_
  intro p w4 hp1 hp2 hm4 hB4
  simp only [put_some, List.set_cons_succ, List.set_cons_zero]
  refine hK _ _ ?_
  clear hK K
  go_wp2_with (with_reducible refine st_store ?_)
  refine StopOp.go rfl fun K hK => ?_
  refine wp_store (u := .agg #[.int .i64 4, .int .u32 0, .int .i64 0, .int .i64 0, .int .i64 0]) (by rfl) (by rfl) (by kernel_rfl) hB4 (by simp [Value.cells]) (by simp [Value.cells, Value.oneCell']) ?_
  intro w5 hm5 hB5
  refine hK _ _ ?_
  clear hK K
  have hP5 : Blk w5 p 25 [.int .i64 4, .int .u32 0, .int .i64 0, .int .i64 0, .int .i64 0] := hB5
  have hm15 : Mod [] w1 w5 := hm4.fresh hm5 (by simpa using hp1)
  have hM5 := hm1.ext hm15
  have hG5 : Blk w5 g 25 (cellsC cz) := Blk.ext hB1 hm15
  have hpw : w.heap.size ≤ p := Nat.le_trans hm1.size hp1
  have hgw : w.heap.size ≤ g := hg1
  have hgp : g ≠ p := by have := hm1.size; omega
  clear hB1 hm1 hB4 hB5 hm4 hm5 hm15 hc
  go_wp2_with (first
                | (with_reducible refine st_store ?_)
                | (go_at_call 38; refine (V1 _ (p1.ext hM5)).mono ?_; rintro e wv1 ⟨rfl, rfl⟩))
  refine StopOp.go rfl fun K hK => ?_
  refine wp_store1 (by kernel_rfl) (by rfl) (u := (.int .u32 (nb b 1 4))) (by rfl) ⟨rfl, rfl⟩ hP5 (by simp) ?_
  intro w6 hm6 hB6
  refine hK _ _ ?_
  clear hK K
  have hP6 : Blk w6 p 25 [.int .i64 4, .int .u32 (nb b 1 4 : Nat), .int .i64 0, .int .i64 0, .int .i64 0] := by
    skip
    exact hB6
  have hG6 := hG5.mod hm6 (by simpa using hgp)
  have hM6 := hM5.fresh hm6 (by simpa using hpw)
  clear hB6 hm6 hP5 hG5 hM5
  go_wp2_with (first
                | (with_reducible refine st_store ?_)
                | (go_at_call 38; refine (V2 _ (p2.ext hM6)).mono ?_; rintro e wv2 ⟨rfl, rfl⟩))
  refine StopOp.go rfl fun K hK => ?_
  refine wp_store1 (by kernel_rfl) (by rfl) (u := (.int .i64 (nb b 5 2))) (by rfl) ⟨rfl, rfl⟩ hP6 (by simp) ?_
  intro w7 hm7 hB7
  refine hK _ _ ?_
  clear hK K
  have hP7 : Blk w7 p 25 [.int .i64 4, .int .u32 (nb b 1 4 : Nat), .int .i64 (nb b 5 2 : Nat), .int .i64 0, .int .i64 0] := by
    skip
    exact hB7
  have hG7 := hG6.mod hm7 (by simpa using hgp)
  have hM7 := hM6.fresh hm7 (by simpa using hpw)
  clear hB7 hm7 hP6 hG6 hM6
  have k0 := hP7.cell' (i := 0) rfl
  have k1 := hP7.cell' (i := 1) rfl
  have k2 := hP7.cell' (i := 2) rfl
  have k3 := hP7.cell' (i := 3) rfl
  have k4 := hP7.cell' (i := 4) rfl
  cases M with
  | false =>
    go_wp2_with (first
                  | (with_reducible refine st_store ?_)
                  | (go_at_call 39; (with_reducible refine (CK _).mono ?_); rintro e w10 ⟨rfl, hm10⟩))
    have hG' := hG7.ext hm10
    refine StopOp.go rfl fun K hK => ?_
    refine wp_store (u := .agg #[.int .i64 0, .int .u32 0, .int .i64 0, .int .i64 0, .int .i64 0]) (by rfl) (by rfl) (by kernel_rfl) hG' (by simp [Value.cells, cellsC]) (by simp [Value.cells, Value.oneCell']) ?_
    intro w90 hm90 hB90
    refine hK _ _ ?_
    clear hK K
    have z0 := hB90.cell' (i := 0) rfl
    have z1 := hB90.cell' (i := 1) rfl
    have z2 := hB90.cell' (i := 2) rfl
    have z3 := hB90.cell' (i := 3) rfl
    have z4 := hB90.cell' (i := 4) rfl
    go_wp2_with fail
    exact bodyPost_ret (v := .tuple #[.agg #[.int .i64 0, .int .u32 0, .int .i64 0, .int .i64 0, .int .i64 0], .int .i64 160]) (by simp [results, Try.results14, go_sem, z0, z1, z2, z3, z4]) rfl (gc_no (by rw [HE.out]; rfl) (by decide) rfl ((hM7.ext hm10).fresh hm90 (by simpa using hgw)))
  | true =>
    by_cases hgt : 7 < b.length
    · have hd2 : decide (7 < b.length) = true := decide_eq_true hgt
      have hd3 : (7 : Int) < b.length := by omega
      go_wp2_with (first
                    | (with_reducible refine st_store ?_)
                    | (go_at_call 39; (with_reducible refine (CK _).mono ?_); rintro e w10 ⟨rfl, hm10⟩))
      have hG' := hG7.ext hm10
      refine StopOp.go rfl fun K hK => ?_
      refine wp_store (u := .agg #[.int .i64 0, .int .u32 0, .int .i64 0, .int .i64 0, .int .i64 0]) (by rfl) (by rfl) (by kernel_rfl) hG' (by simp [Value.cells, cellsC]) (by simp [Value.cells, Value.oneCell']) ?_
      intro w90 hm90 hB90
      refine hK _ _ ?_
      clear hK K
      have z0 := hB90.cell' (i := 0) rfl
      have z1 := hB90.cell' (i := 1) rfl
      have z2 := hB90.cell' (i := 2) rfl
      have z3 := hB90.cell' (i := 3) rfl
      have z4 := hB90.cell' (i := 4) rfl
      go_wp2_with fail
      exact bodyPost_ret (v := .tuple #[.agg #[.int .i64 0, .int .u32 0, .int .i64 0, .int .i64 0, .int .i64 0], .int .i64 5]) (by simp [results, Try.results14, go_sem, z0, z1, z2, z3, z4]) rfl (gc_no (by rw [HE.out, if_neg (by simp), if_pos hgt]) (by decide) rfl ((hM7.ext hm10).fresh hm90 (by simpa using hgw)))
    · have hd2 : decide (7 < b.length) = false := decide_eq_false hgt
      have hd3 : ¬ (7 : Int) < b.length := by omega
      go_wp2_with (first
                    | (with_reducible refine st_store ?_)
                    | (go_at_call 39; (with_reducible refine (CK _).mono ?_); rintro e w10 ⟨rfl, hm10⟩; have hG' := hG7.ext hm10; have hP' := hP7.ext hm10; have v0 := hP'.cell' (i := 0) rfl; have v1 := hP'.cell' (i := 1) rfl; have v2 := hP'.cell' (i := 2) rfl; have v3 := hP'.cell' (i := 3) rfl; have v4 := hP'.cell' (i := 4) rfl))
      refine StopOp.go rfl fun K hK => ?_
      refine wp_store (u := .agg #[.int .i64 4, .int .u32 (nb b 1 4 : Nat), .int .i64 (nb b 5 2 : Nat), .int .i64 0, .int .i64 0]) (by rfl) (by rfl) (by kernel_rfl) hG' (by simp [Value.cells, cellsC]) (by simp [Value.cells, Value.oneCell']) ?_
      intro w90 hm90 hB90
      refine hK _ _ ?_
      clear hK K
      have z0 := hB90.cell' (i := 0) rfl
      have z1 := hB90.cell' (i := 1) rfl
      have z2 := hB90.cell' (i := 2) rfl
      have z3 := hB90.cell' (i := 3) rfl
      have z4 := hB90.cell' (i := 4) rfl
      go_wp2_with fail
      exact bodyPost_ret (v := .tuple #[.agg #[.int .i64 4, .int .u32 (nb b 1 4 : Nat), .int .i64 (nb b 5 2 : Nat), .int .i64 0, .int .i64 0], .int .i64 0]) (by simp [results, Try.results14, go_sem, z0, z1, z2, z3, z4]) rfl (gc_yes (by rw [HE.out, if_neg (by simp), if_neg hgt]) (by rw [HP.out]; rfl) ((hM7.ext hm10).fresh hm90 (by simpa using hgw)))
set_option maxRecDepth 1000000 in
set_option maxHeartbeats 8000000 in
theorem rget_5 (b : List UInt8) (bv0 : Value) (w : World) (hb : Bs w bv0 b) (hl : b.length ≤ 140737488355328) (hk : nb b 0 1 = 5) (hlen : 9 ≤ b.length) : Calls Try.prog 14 #[bv0] w (GetC b w) := by
  obtain ⟨aob, capb, rfl, hc1, hc2⟩ := hb.form
  obtain ⟨bb, bo, rfl, _⟩ := hb.byte (j := 0) (by omega)
  have hn0 := nb_byte b (by omega)
  rw [hk] at hn0
  have hlen' : ((b.length : Int) == 0) = false := by simp; intro h; subst h; simp at hlen
  have hd : decide (b.length < 9) = false := decide_eq_false (by omega)
  have hd' : ¬ ((b.length : Int) < 9) := by omega
  have p4 := Bs.sub (lo := 1) (hi := 9) hb (by omega) (by omega) hc1 rfl
  have V4 := fun w (hb : Bs w _ _) => refValue_any ((b.drop 1).take 8) (.slice (some ⟨bb, bo + 1, none⟩) 8 (capb - 1)) w hb (by rw [List.length_take]; omega)
  rw [show val ((b.drop 1).take 8) = nb b 1 8 from rfl] at V4
  have z4 : (nb b 1 8 : Int) ≤ 18446744073709551615 := by have := nb_lt b 1 8; omega
  have zz4 : (0 : Int) ≤ (nb b 1 8 : Int) := by omega
  have c4 : ¬ capb = 1 := by omega
  have d4 : 9 ≤ capb := by omega
  simp only [Option.map_some, Addr.add_lit, Nat.reduceSub] at p4
  obtain ⟨T, hT⟩ : ∃ T, T = wrap64 (nb b 1 8) := ⟨_, rfl⟩
  have hpar : parC b = ⟨5, 0, 0, 0, T⟩ := by
    unfold parC
    rw [hk]
    dsimp only
    rw [hT]
    simp [cI, cS, cU, cC]
  have hps := parC_ok b
  have herr : errC b = if mayC (parC b) = false then 160 else if 9 < b.length then 5 else 0 := by
    unfold errC
    rw [hk, if_neg (by intro h; subst h; simp at hlen), if_neg (by decide), if_neg (by simp [sizeC]; omega)]
    rfl
  rw [hpar] at hps herr
  have CK := fun w => rmay_any _ hps w
  dsimp only [Rc.v] at CK
  obtain ⟨M, hM0⟩ : ∃ M, M = mayC ⟨5, 0, 0, 0, T⟩ := ⟨_, rfl⟩
  rw [← hM0] at CK herr
  have HE := Lib.hid herr
  have HP := Lib.hid hpar
  have SZ := fun w => rsize_any (5 : Int) w
  rw [show ((sizeC 5 : Nat) : Int) = 9 from rfl] at SZ
  have HN0 := Lib.hid hn0
  have HT := Lib.hid hT
  clear herr hpar hM0 hn0 hps hk hT
  go_enter Try.func14, Try.ntmps14
  go_wp2_with (with_reducible refine st_alloc ?_)
  refine StopOp.go rfl fun K hK => ?_
  refine wp_alloc zero_rec ?_
  intro g w1 hg1 hg2 hm1 hB1
  simp only [put_some, List.set_cons_succ, List.set_cons_zero]
  refine hK _ _ ?_
  clear hK K
  obtain ⟨_, _, hx, hc⟩ := (hb.ext hm1).byte (j := 0) (by omega)
  cases hx
  rw [HN0.out, Nat.add_zero] at hc
  go_wp2_with (first
                | (with_reducible refine st_alloc ?_)
                | (go_at_call 22; (with_reducible refine (SZ _).mono ?_); rintro e w2 ⟨rfl, rfl⟩))
  refine StopOp.go rfl fun K hK => ?_
  refine wp_alloc zero_rec ?_
  intro p w4 hp1 hp2 hm4 hB4
  simp only [put_some, List.set_cons_succ, List.set_cons_zero]
  refine hK _ _ ?_
  clear hK K
  go_wp2_with (with_reducible refine st_store ?_)
  refine StopOp.go rfl fun K hK => ?_
  refine wp_store (u := .agg #[.int .i64 5, .int .u32 0, .int .i64 0, .int .i64 0, .int .i64 0]) (by rfl) (by rfl) (by kernel_rfl) hB4 (by simp [Value.cells]) (by simp [Value.cells, Value.oneCell']) ?_
  intro w5 hm5 hB5
  refine hK _ _ ?_
  clear hK K
  have hP5 : Blk w5 p 25 [.int .i64 5, .int .u32 0, .int .i64 0, .int .i64 0, .int .i64 0] := hB5
  have hm15 : Mod [] w1 w5 := hm4.fresh hm5 (by simpa using hp1)
  have hM5 := hm1.ext hm15
  have hG5 : Blk w5 g 25 (cellsC cz) := Blk.ext hB1 hm15
  have hpw : w.heap.size ≤ p := Nat.le_trans hm1.size hp1
  have hgw : w.heap.size ≤ g := hg1
  have hgp : g ≠ p := by have := hm1.size; omega
  clear hB1 hm1 hB4 hB5 hm4 hm5 hm15 hc
  go_wp2_with (first
                | (with_reducible refine st_store ?_)
                | (go_at_call 38; refine (V4 _ (p4.ext hM5)).mono ?_; rintro e wv4 ⟨rfl, rfl⟩))
  refine StopOp.go rfl fun K hK => ?_
  refine wp_store1 (by kernel_rfl) (by rfl) (u := (.int .i64 (wrap64 (nb b 1 8)))) (by rfl) ⟨rfl, rfl⟩ hP5 (by simp) ?_
  intro w6 hm6 hB6
  refine hK _ _ ?_
  clear hK K
  have hP6 : Blk w6 p 25 [.int .i64 5, .int .u32 0, .int .i64 0, .int .i64 0, .int .i64 T] := by
    rw [← HT.out] at hB6
    exact hB6
  have hG6 := hG5.mod hm6 (by simpa using hgp)
  have hM6 := hM5.fresh hm6 (by simpa using hpw)
  clear hB6 hm6 hP5 hG5 hM5
  have k0 := hP6.cell' (i := 0) rfl
  have k1 := hP6.cell' (i := 1) rfl
  have k2 := hP6.cell' (i := 2) rfl
  have k3 := hP6.cell' (i := 3) rfl
  have k4 := hP6.cell' (i := 4) rfl
  cases M with
  | false =>
    go_wp2_with (first
                  | (with_reducible refine st_store ?_)
                  | (go_at_call 39; (with_reducible refine (CK _).mono ?_); rintro e w10 ⟨rfl, hm10⟩))
    have hG' := hG6.ext hm10
    refine StopOp.go rfl fun K hK => ?_
    refine wp_store (u := .agg #[.int .i64 0, .int .u32 0, .int .i64 0, .int .i64 0, .int .i64 0]) (by rfl) (by rfl) (by kernel_rfl) hG' (by simp [Value.cells, cellsC]) (by simp [Value.cells, Value.oneCell']) ?_
    intro w90 hm90 hB90
    refine hK _ _ ?_
    clear hK K
    have z0 := hB90.cell' (i := 0) rfl
    have z1 := hB90.cell' (i := 1) rfl
    have z2 := hB90.cell' (i := 2) rfl
    have z3 := hB90.cell' (i := 3) rfl
    have z4 := hB90.cell' (i := 4) rfl
    go_wp2_with fail
    exact bodyPost_ret (v := .tuple #[.agg #[.int .i64 0, .int .u32 0, .int .i64 0, .int .i64 0, .int .i64 0], .int .i64 160]) (by simp [results, Try.results14, go_sem, z0, z1, z2, z3, z4]) rfl (gc_no (by rw [HE.out]; rfl) (by decide) rfl ((hM6.ext hm10).fresh hm90 (by simpa using hgw)))
  | true =>
    by_cases hgt : 9 < b.length
    · have hd2 : decide (9 < b.length) = true := decide_eq_true hgt
      have hd3 : (9 : Int) < b.length := by omega
      go_wp2_with (first
                    | (with_reducible refine st_store ?_)
                    | (go_at_call 39; (with_reducible refine (CK _).mono ?_); rintro e w10 ⟨rfl, hm10⟩))
      have hG' := hG6.ext hm10
      refine StopOp.go rfl fun K hK => ?_
      refine wp_store (u := .agg #[.int .i64 0, .int .u32 0, .int .i64 0, .int .i64 0, .int .i64 0]) (by rfl) (by rfl) (by kernel_rfl) hG' (by simp [Value.cells, cellsC]) (by simp [Value.cells, Value.oneCell']) ?_
      intro w90 hm90 hB90
      refine hK _ _ ?_
      clear hK K
      have z0 := hB90.cell' (i := 0) rfl
      have z1 := hB90.cell' (i := 1) rfl
      have z2 := hB90.cell' (i := 2) rfl
      have z3 := hB90.cell' (i := 3) rfl
      have z4 := hB90.cell' (i := 4) rfl
      go_wp2_with fail
      exact bodyPost_ret (v := .tuple #[.agg #[.int .i64 0, .int .u32 0, .int .i64 0, .int .i64 0, .int .i64 0], .int .i64 5]) (by simp [results, Try.results14, go_sem, z0, z1, z2, z3, z4]) rfl (gc_no (by rw [HE.out, if_neg (by simp), if_pos hgt]) (by decide) rfl ((hM6.ext hm10).fresh hm90 (by simpa using hgw)))
    · have hd2 : decide (9 < b.length) = false := decide_eq_false hgt
      have hd3 : ¬ (9 : Int) < b.length := by omega
      go_wp2_with (first
                    | (with_reducible refine st_store ?_)
                    | (go_at_call 39; (with_reducible refine (CK _).mono ?_); rintro e w10 ⟨rfl, hm10⟩; have hG' := hG6.ext hm10; have hP' := hP6.ext hm10; have v0 := hP'.cell' (i := 0) rfl; have v1 := hP'.cell' (i := 1) rfl; have v2 := hP'.cell' (i := 2) rfl; have v3 := hP'.cell' (i := 3) rfl; have v4 := hP'.cell' (i := 4) rfl))
      refine StopOp.go rfl fun K hK => ?_
      refine wp_store (u := .agg #[.int .i64 5, .int .u32 0, .int .i64 0, .int .i64 0, .int .i64 T]) (by rfl) (by rfl) (by kernel_rfl) hG' (by simp [Value.cells, cellsC]) (by simp [Value.cells, Value.oneCell']) ?_
      intro w90 hm90 hB90
      refine hK _ _ ?_
      clear hK K
      have z0 := hB90.cell' (i := 0) rfl
      have z1 := hB90.cell' (i := 1) rfl
      have z2 := hB90.cell' (i := 2) rfl
      have z3 := hB90.cell' (i := 3) rfl
      have z4 := hB90.cell' (i := 4) rfl
      go_wp2_with fail
      exact bodyPost_ret (v := .tuple #[.agg #[.int .i64 5, .int .u32 0, .int .i64 0, .int .i64 0, .int .i64 T], .int .i64 0]) (by simp [results, Try.results14, go_sem, z0, z1, z2, z3, z4]) rfl (gc_yes (by rw [HE.out, if_neg (by simp), if_neg hgt]) (by rw [HP.out]; rfl) ((hM6.ext hm10).fresh hm90 (by simpa using hgw)))
theorem rget_any (b : List UInt8) (bv0 : Value) (w : World) (hb : Bs w bv0 b) (hl : b.length ≤ 140737488355328) : Calls Try.prog 14 #[bv0] w (GetC b w) := by
  by_cases h0 : b = []
  · exact rget_bad b bv0 w hb hl (.inl h0)
  cases hk : okC (nb b 0 1) with
  | false => exact rget_bad b bv0 w hb hl (.inr (.inl hk))
  | true =>
    by_cases hlt : b.length < sizeC (nb b 0 1)
    · exact rget_bad b bv0 w hb hl (.inr (.inr hlt))
    · have hkk := kindsC _ hk
      obtain ⟨n, hn⟩ : ∃ n, n = nb b 0 1 := ⟨_, rfl⟩
      rw [← hn] at hkk hlt
      rcases (show n = 1 ∨ n = 2 ∨ n = 3 ∨ n = 4 ∨ n = 5 by omega) with rfl | rfl | rfl | rfl | rfl
      · exact rget_1 b bv0 w hb hl hn.symm (by simpa [sizeC] using hlt)
      · exact rget_2 b bv0 w hb hl hn.symm (by simpa [sizeC] using hlt)
      · exact rget_3 b bv0 w hb hl hn.symm (by simpa [sizeC] using hlt)
      · exact rget_4 b bv0 w hb hl hn.symm (by simpa [sizeC] using hlt)
      · exact rget_5 b bv0 w hb hl hn.symm (by simpa [sizeC] using hlt)
end Go.Proofs.Ytkhnemnpadhgoaa
