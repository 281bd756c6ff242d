import Derived.Test.YtfcoaiggpcjldaaDoorRpH
import Derived.Test.YtfcoaiggpcjldaaDoorApartB
/-! RepliesBegin. -/
set_option linter.unusedVariables false
set_option linter.unusedSimpArgs false
set_option maxRecDepth 100000
namespace Go.Proofs.YtfcoaiggpcjldaaDoor
open Go.RowKit Gw

theorem Bs.pre {w : World} {ao : Option Addr} {n cap k : Nat} {l : List UInt8} (h : Bs w (.slice ao n cap) l) (hn : n = l.length) (hk : k ≤ n) (hc : k ≤ cap) : Bs w (.slice ao k cap) (l.take k) := by
  subst hn
  have := Sl.cut (lo := 0) (hi := k) (m := cap) h (by omega) hk hc (by omega)
  simp only [Nat.mul_one, Nat.zero_mul, List.drop_zero, Nat.sub_zero, Addr.add, if_true, Option.map_id'] at this
  unfold Bs
  rw [List.length_take, Nat.min_eq_left (by omega)]
  have hb : bv (l.take k) = (bv l).take k := by simp [bv, List.map_take]
  rw [hb]
  simpa using this
theorem rp_eql_ne (r s : Rp) (h : r ≠ s) (w : World) : (binOp .eql 26 (.agg #[.int .u32 r.tag, .int .i64 r.kind, .int .i64 r.err, .int .u32 r.id, .int .i64 r.seat, .int .i64 r.till, .int .i64 r.count]) (.agg #[.int .u32 s.tag, .int .i64 s.kind, .int .i64 s.err, .int .u32 s.id, .int .i64 s.seat, .int .i64 s.till, .int .i64 s.count])).run Tryd.prog w = .ok (.bool false) w := by
  rw [run_eql_struct, run_equalIn_agg w 9999 _ _ _ (by kernel_rfl) (by kernel_rfl)]
  obtain ⟨a, b, c, d, e, f, g⟩ := r
  obtain ⟨a', b', c', d', e', f', g'⟩ := s
  dsimp only
  by_cases h0 : a = a'
  · subst h0
    by_cases h1 : b = b'
    · subst h1
      by_cases h2 : c = c'
      · subst h2
        by_cases h3 : d = d'
        · subst h3
          by_cases h4 : e = e'
          · subst h4
            by_cases h5 : f = f'
            · subst h5
              have e6 : (g == g') = false := by
                apply beq_false_of_ne
                intro hg
                subst hg
                exact h rfl
              go_simp
            · have e5 : (f == f') = false := by simpa using h5
              go_simp
          · have e4 : (e == e') = false := by simpa using h4
            go_simp
        · have e3 : (d == d') = false := by simpa using h3
          go_simp
      · have e2 : (c == c') = false := by simpa using h2
        go_simp
    · have e1 : (b == b') = false := by simpa using h1
      go_simp
  · have e0 : (a == a') = false := by simpa using h0
    go_simp
theorem same_no (la lb : List UInt8) (va vb : Value) (w : World) (ha : Bs w va la) (hb : Bs w vb lb) (h : la ≠ lb) :
    Calls Tryd.prog 12 #[va, vb] w fun e w' => e = .returned (.bool false) ∧ Mod [] w w' :=
  (same_any la lb va vb w ha hb).mono fun e w' ⟨he, hm⟩ => ⟨by rw [he, decide_eq_false h], hm⟩
/-- Of two replies that are unlike do the bytes differ where both have some. -/
theorem rbytes_unlike (r s : Rp) (hr : r.ok) (hs : s.ok) (mr : MayR r) (ms : MayR s) (h : r ≠ s) (n : Nat) (hn : n = min (rbytes r).length (rbytes s).length) : (rbytes r).take n ≠ (rbytes s).take n := by
  intro he
  apply h
  have e : rbytes r = rbytes s := by
    rcases Nat.le_total (rbytes r).length (rbytes s).length with hle | hle
    · rw [hn, Nat.min_eq_left hle, List.take_length] at he
      exact rget_pre _ _ (rgetOk_of r hr mr) (rgetOk_of s hs ms) (he ▸ List.take_prefix _ _)
    · rw [hn, Nat.min_eq_right hle, List.take_length] at he
      exact (rget_pre _ _ (rgetOk_of s hs ms) (rgetOk_of r hr mr) (he ▸ List.take_prefix _ _)).symm
  have h1 := rget_of r hr mr
  rw [e, rget_of s hs ms] at h1
  injection h1 with h1
  exact h1.symm

set_option maxRecDepth 1000000 in
set_option maxHeartbeats 8000000 in
theorem repliesBegin_core (r s : Rp) (hr : r.ok) (hs : s.ok) (m : List UInt8) (mv : Value) (cut : Int) (hc1 : -9223372036854775808 ≤ cut) (hc2 : cut ≤ 9223372036854775807) (w : World) (hT : Tab w) (hmo : Bs w mv m) (hl : m.length ≤ 1048576) :
    Calls Tryd.prog 7 #[r.v, s.v, mv, .int .i64 cut] w fun e w' => e = .returned (.bool true) ∧ Mod [] w w' := by
  obtain ⟨aom, capm, rfl, _, _⟩ := hmo.form
  have hrv : r.v = .agg #[.int .u32 r.tag, .int .i64 r.kind, .int .i64 r.err, .int .u32 r.id, .int .i64 r.seat, .int .i64 r.till, .int .i64 r.count] := rfl
  have hsv : s.v = .agg #[.int .u32 s.tag, .int .i64 s.kind, .int .i64 s.err, .int .u32 s.id, .int .i64 s.seat, .int .i64 s.till, .int .i64 s.count] := rfl
  go_enter Tryd.func7, Tryd.ntmps7
  go_wp2_with (with_reducible refine st_box ?_)
  refine StopOp.go rfl fun K hK => ?_
  refine wp_box (v := r.v) (by rfl) ?_
  intro g w1 hg1 hg2 hmw1 hBw1
  simp only [put_some, List.set_cons_succ, List.set_cons_zero]
  refine hK _ _ ?_
  clear hK K
  have hBg : Blk w1 g 26 [.int .u32 r.tag, .int .i64 r.kind, .int .i64 r.err, .int .u32 r.id, .int .i64 r.seat, .int .i64 r.till, .int .i64 r.count] := hBw1
  clear hBw1
  go_wp2_with (with_reducible refine st_box ?_)
  refine StopOp.go rfl fun K hK => ?_
  refine wp_box (v := s.v) (by rfl) ?_
  intro k w2 hk1 hk2 hmw2 hBw2
  simp only [put_some, List.set_cons_succ, List.set_cons_zero]
  refine hK _ _ ?_
  clear hK K
  have hBk : Blk w2 k 26 [.int .u32 s.tag, .int .i64 s.kind, .int .i64 s.err, .int .u32 s.id, .int .i64 s.seat, .int .i64 s.till, .int .i64 s.count] := hBw2
  clear hBw2
  have hM2 := hmw1.ext hmw2
  have hBr := hBg.ext hmw2
  go_upto_if 19 with (go_at_call 14; refine (rpawake_any _ (hT.ext hM2)).mono ?_; rintro e w3 ⟨rfl, hm3⟩)
  have hM3 := hM2.ext hm3
  have hBr3 := hBr.ext hm3
  have hBs3 := hBk.ext hm3
  clear hBg hBr hBk hmw1 hmw2 hm3 hM2
  have a0 := hBr3.cell' (i := 0) rfl
  have a1 := hBr3.cell' (i := 1) rfl
  have a2 := hBr3.cell' (i := 2) rfl
  have a3 := hBr3.cell' (i := 3) rfl
  have a4 := hBr3.cell' (i := 4) rfl
  have a5 := hBr3.cell' (i := 5) rfl
  have a6 := hBr3.cell' (i := 6) rfl
  have b0 := hBs3.cell' (i := 0) rfl
  have b1 := hBs3.cell' (i := 1) rfl
  have b2 := hBs3.cell' (i := 2) rfl
  have b3 := hBs3.cell' (i := 3) rfl
  have b4 := hBs3.cell' (i := 4) rfl
  have b5 := hBs3.cell' (i := 5) rfl
  have b6 := hBs3.cell' (i := 6) rfl
  by_cases mr : MayR r
  · have P := fun w h => rput_yes r hr mr w h
    have hok := rgetOk_of r hr mr
    have hgs := rget_of r hr mr
    have hbd := rbytes_bounds r
    have hun := fun ms h n hn => rbytes_unlike r s hr hs mr ms h n hn
    obtain ⟨A, hA⟩ : ∃ B, B = rbytes r := ⟨_, rfl⟩
    rw [← hA] at P hok hgs hbd hun
    rw [hrv] at P
    obtain ⟨k', hk'⟩ := Int.eq_ofNat_of_zero_le (pick_ge cut A.length)
    have hkl : (k' : Int) < A.length := by rw [← hk']; exact pick_lt _ _ (by omega)
    have K1 := fun w => pick_any cut A.length w hc1 hc2 (by omega) (by omega)
    rw [hk'] at K1
    have G2 := fun v w h1 h => rget_no (A.take k') v w h1 h (by rw [List.length_take]; omega) (rget_cut A hok k' (by omega))
    have G0 : m = [] → ∀ v w, Tab w → Bs w v (A ++ m) → Calls Tryd.prog 16 #[v] w fun e w' => e = .returned (.tuple #[r.v, .int .i64 0]) ∧ Mod [] w w' := fun hm v w h1 h => by
      subst hm
      rw [List.append_nil] at h
      exact rget_yes r A v w h1 h (by omega) hok hgs
    have G1 : m ≠ [] → ∀ v w, Tab w → Bs w v (A ++ m) → Calls Tryd.prog 16 #[v] w fun e w' => e = .returned (.tuple #[.agg #[.int .u32 0, .int .i64 0, .int .i64 0, .int .u32 0, .int .i64 0, .int .i64 0, .int .i64 0], .int .i64 210]) ∧ Mod [] w w' := fun hm v w h1 h =>
      rget_no (A ++ m) v w h1 h (by rw [List.length_append]; omega) (rget_long A m hok hm)
    rw [hrv] at G0
    have hA7 : 7 ≤ A.length ∧ A.length ≤ 19 := ⟨hbd.1, hbd.2.1⟩
    have HA7 := Lib.hid hA7
    have d3 : (0 : Int) ≤ k' := by omega
    have d4 : (k' : Int) ≤ A.length := by omega
    clear hok hgs hbd hA hA7 hk'
    -- the program's two Puts, whatever becomes of the second
    have Q : ∀ w, Tab w → Calls Tryd.prog 8 #[.agg #[.int .u32 s.tag, .int .i64 s.kind, .int .i64 s.err, .int .u32 s.id, .int .i64 s.seat, .int .i64 s.till, .int .i64 s.count]] w fun e w' => ∃ v, e = .returned (.tuple #[v, .int .i64 (chkR s)]) ∧ Ob w' v (if mayR s = true then rbytes s else []) ∧ New w v ∧ Mod [] w w' := fun w h => rput_any s hs w h
    obtain ⟨S, hS⟩ : ∃ S, S = (if mayR s = true then rbytes s else []) := ⟨_, rfl⟩
    obtain ⟨F, hF⟩ : ∃ F, F = chkR s := ⟨_, rfl⟩
    rw [← hS, ← hF] at Q
    have HS := Lib.hid hS
    have HF := Lib.hid hF
    have HU := Lib.hid hun
    clear hS hF hun hrv hsv
    go_upto_if 31 with (go_at_call 8; first
                  | ((with_reducible refine (P w3 (hT.ext hM3)).mono ?_); rintro e w4 ⟨v4, rfl, ho4, _, hm4⟩; obtain ⟨ao4, cap4, rfl, _, hcp4⟩ := ho4.bs.form; have hBr4 := hBr3.ext hm4; have hBs4 := hBs3.ext hm4; have c0 := hBs4.cell' (i := 0) rfl; have c1 := hBs4.cell' (i := 1) rfl; have c2 := hBs4.cell' (i := 2) rfl; have c3 := hBs4.cell' (i := 3) rfl; have c4 := hBs4.cell' (i := 4) rfl; have c5 := hBs4.cell' (i := 5) rfl; have c6 := hBs4.cell' (i := 6) rfl)
                  | ((with_reducible refine (Q w4 (hT.ext (hM3.ext hm4))).mono ?_); rintro e w5 ⟨v5, rfl, ho5, _, hm5⟩; obtain ⟨ao5, cap5, rfl, hcq5, hcp5⟩ := ho5.bs.form; have hBr5 := hBr4.ext hm5; have hBs5 := hBs4.ext hm5))
    have hM5 := (hM3.ext hm4).ext hm5
    have ho45 := ho4.ext hm5
    have d7 : (k' : Int) ≤ cap4 := by have := ho45.bs.form; obtain ⟨_, _, hv, h1, _⟩ := this; injection hv with _ _ hv; omega
    clear a0 a1 a2 a3 a4 a5 a6 b0 b1 b2 b3 b4 b5 b6 c0 c1 c2 c3 c4 c5 c6 hBr3 hBs3 hBr4 hBs4 hm4 hm5 ho4 hM3 P Q
    go_cut [2] (fun _ wx => Mod [] w5 wx)
    case first =>
      have hcut : ∀ wx, Mod [] w5 wx → Bs wx (.slice ao4 k' cap4) (A.take k') := fun wx hx => (ho45.ext hx).bs.pre rfl (by omega) (by omega)
      go_wp2_with (first
                    | (with_reducible refine st_append ?_)
                    | (go_at_call 19; refine (copy_any A _ _ ho45.bs (by have := HA7.out; omega)).mono ?_; rintro e w6 ⟨v6, rfl, ho6, hn6, hm6⟩; obtain ⟨ao6, cap6, rfl, _, _⟩ := ho6.bs.form))
      refine StopOp.go rfl fun K hK => ?_
      refine wp_append_ow stB (by rfl) (by rfl) ho6 (hmo.ext (hM5.ext hm6)) (bv_one _) (by have := HA7.out; omega) (by have := HA7.out; omega) ?_
      intro v7 w7 ho7 hm7' hb7
      simp only [put_some, List.set_cons_succ, List.set_cons_zero]
      refine hK _ _ ?_
      clear hK K
      have hm7 : Mod [] w5 w7 := hm6.fresh hm7' hn6
      rw [← bv_append] at ho7
      obtain ⟨ao7, cap7, rfl, _, _⟩ := ho7.sl.form
      have hs7 : Bs w7 (.slice ao7 (A.length + m.length) cap7) (A ++ m) := by
        unfold Bs
        rw [List.length_append]
        exact ho7.sl
      clear ho6 hn6 hm6 hm7' hb7 ho7
      have hT7 := hT.ext (hM5.ext hm7)
      by_cases hmz : m = []
      · have hml : m.length = 0 := by rw [hmz]; rfl
        rw [hml, Nat.add_zero] at hs7
        go_wp2_with (first
                      | (with_reducible refine st_alloc ?_)
                      | (go_at_call 16; refine (G0 hmz _ _ hT7 hs7).mono ?_; rintro e w8 ⟨rfl, hm8⟩))
        refine StopOp.go rfl fun K hK => ?_
        refine wp_alloc zero_rep ?_
        intro g9 w9 hg91 hg92 hmww9 hBww9
        simp only [put_some, List.set_cons_succ, List.set_cons_zero]
        refine hK _ _ ?_
        clear hK K
        go_wp2_with (with_reducible refine st_store ?_)
        refine StopOp.go rfl fun K hK => ?_
        refine wp_store (u := .agg #[.int .u32 r.tag, .int .i64 r.kind, .int .i64 r.err, .int .u32 r.id, .int .i64 r.seat, .int .i64 r.till, .int .i64 r.count]) (by rfl) (by rfl) (by kernel_rfl) hBww9 (by simp [Value.cells]) (by simp [Value.cells, Value.oneCell']) ?_
        intro w10 hmww10 hBww10
        refine hK _ _ ?_
        clear hK K
        have hBg9 : Blk w10 g9 26 [.int .u32 r.tag, .int .i64 r.kind, .int .i64 r.err, .int .u32 r.id, .int .i64 r.seat, .int .i64 r.till, .int .i64 r.count] := hBww10
        have hxw10 : Mod [] w8 w10 := hmww9.fresh hmww10 (by simpa using hg91)
        clear hBww9 hBww10 hmww9 hmww10
        have hm10 := (hm7.ext hm8).ext hxw10
        have hM10 := hM5.ext hm10
        go_wp2_with (first
                      | (with_reducible refine st_alloc ?_)
                      | (go_at_call 20; refine (K1 _).mono ?_; rintro e wz ⟨rfl, rfl⟩)
                      | (go_at_call 19; refine (copy_any (A.take k') _ _ (hcut _ hm10) (by rw [List.length_take]; have := HA7.out; omega)).mono ?_; rintro e w11 ⟨v11, rfl, ho11, _, hm11⟩; obtain ⟨ao11, cap11, rfl, _, _⟩ := ho11.n (n := k') (by rw [List.length_take]; omega))
                      | (go_at_call 16; refine (G2 _ _ (hT.ext (hM10.ext hm11)) ho11.bs).mono ?_; rintro e w12 ⟨rfl, hm12⟩))
        refine StopOp.go rfl fun K hK => ?_
        refine wp_alloc zero_rep ?_
        intro g13 w13 hg131 hg132 hmww13 hBww13
        simp only [put_some, List.set_cons_succ, List.set_cons_zero]
        refine hK _ _ ?_
        clear hK K
        go_wp2_with (with_reducible refine st_store ?_)
        refine StopOp.go rfl fun K hK => ?_
        refine wp_store (u := .agg #[.int .u32 0, .int .i64 0, .int .i64 0, .int .u32 0, .int .i64 0, .int .i64 0, .int .i64 0]) (by rfl) (by rfl) (by kernel_rfl) hBww13 (by simp [Value.cells]) (by simp [Value.cells, Value.oneCell']) ?_
        intro w14 hmww14 hBww14
        refine hK _ _ ?_
        clear hK K
        have hBg13 : Blk w14 g13 26 [.int .u32 0, .int .i64 0, .int .i64 0, .int .u32 0, .int .i64 0, .int .i64 0, .int .i64 0] := hBww14
        have hxw14 : Mod [] w12 w14 := hmww13.fresh hmww14 (by simpa using hg131)
        clear hBww13 hBww14 hmww13 hmww14
        go_wp2_with fail
        go_meet
        exact ((hm10.ext hm11).ext hm12).ext hxw14
      · have hml : ((m.length : Int) == 0) = false := by
          have : m.length ≠ 0 := fun h => hmz (List.eq_nil_of_length_eq_zero h)
          simp; exact hmz
        have hml2 : ¬ m = [] := hmz
        go_wp2_with (first
                      | (with_reducible refine st_alloc ?_)
                      | (go_at_call 16; refine (G1 hmz _ _ hT7 hs7).mono ?_; rintro e w8 ⟨rfl, hm8⟩))
        refine StopOp.go rfl fun K hK => ?_
        refine wp_alloc zero_rep ?_
        intro g9 w9 hg91 hg92 hmww9 hBww9
        simp only [put_some, List.set_cons_succ, List.set_cons_zero]
        refine hK _ _ ?_
        clear hK K
        go_wp2_with (with_reducible refine st_store ?_)
        refine StopOp.go rfl fun K hK => ?_
        refine wp_store (u := .agg #[.int .u32 0, .int .i64 0, .int .i64 0, .int .u32 0, .int .i64 0, .int .i64 0, .int .i64 0]) (by rfl) (by rfl) (by kernel_rfl) hBww9 (by simp [Value.cells]) (by simp [Value.cells, Value.oneCell']) ?_
        intro w10 hmww10 hBww10
        refine hK _ _ ?_
        clear hK K
        have hBg9 : Blk w10 g9 26 [.int .u32 0, .int .i64 0, .int .i64 0, .int .u32 0, .int .i64 0, .int .i64 0, .int .i64 0] := hBww10
        have hxw10 : Mod [] w8 w10 := hmww9.fresh hmww10 (by simpa using hg91)
        clear hBww9 hBww10 hmww9 hmww10
        have hm10 := (hm7.ext hm8).ext hxw10
        have hM10 := hM5.ext hm10
        go_wp2_with (first
                      | (with_reducible refine st_alloc ?_)
                      | (go_at_call 20; refine (K1 _).mono ?_; rintro e wz ⟨rfl, rfl⟩)
                      | (go_at_call 19; refine (copy_any (A.take k') _ _ (hcut _ hm10) (by rw [List.length_take]; have := HA7.out; omega)).mono ?_; rintro e w11 ⟨v11, rfl, ho11, _, hm11⟩; obtain ⟨ao11, cap11, rfl, _, _⟩ := ho11.n (n := k') (by rw [List.length_take]; omega))
                      | (go_at_call 16; refine (G2 _ _ (hT.ext (hM10.ext hm11)) ho11.bs).mono ?_; rintro e w12 ⟨rfl, hm12⟩))
        refine StopOp.go rfl fun K hK => ?_
        refine wp_alloc zero_rep ?_
        intro g13 w13 hg131 hg132 hmww13 hBww13
        simp only [put_some, List.set_cons_succ, List.set_cons_zero]
        refine hK _ _ ?_
        clear hK K
        go_wp2_with (with_reducible refine st_store ?_)
        refine StopOp.go rfl fun K hK => ?_
        refine wp_store (u := .agg #[.int .u32 0, .int .i64 0, .int .i64 0, .int .u32 0, .int .i64 0, .int .i64 0, .int .i64 0]) (by rfl) (by rfl) (by kernel_rfl) hBww13 (by simp [Value.cells]) (by simp [Value.cells, Value.oneCell']) ?_
        intro w14 hmww14 hBww14
        refine hK _ _ ?_
        clear hK K
        have hBg13 : Blk w14 g13 26 [.int .u32 0, .int .i64 0, .int .i64 0, .int .u32 0, .int .i64 0, .int .i64 0, .int .i64 0] := hBww14
        have hxw14 : Mod [] w12 w14 := hmww13.fresh hmww14 (by simpa using hg131)
        clear hBww13 hBww14 hmww13 hmww14
        go_wp2_with fail
        go_meet
        exact ((hm10.ext hm11).ext hm12).ext hxw14
    case rest =>
    have hmc := hcut
    have hMc := hM5.ext hmc
    have ha := ho45.ext hmc
    have hb := ho5.ext hmc
    have hBrc := hBr5.ext hmc
    have hBsc := hBs5.ext hmc
    clear hcut ho45 ho5 hBr5 hBs5 hM5 G0 G1 G2 K1 d3 d4 d7 hkl
    have a0 := hBrc.cell' (i := 0) rfl
    have a1 := hBrc.cell' (i := 1) rfl
    have a2 := hBrc.cell' (i := 2) rfl
    have a3 := hBrc.cell' (i := 3) rfl
    have a4 := hBrc.cell' (i := 4) rfl
    have a5 := hBrc.cell' (i := 5) rfl
    have a6 := hBrc.cell' (i := 6) rfl
    have b0 := hBsc.cell' (i := 0) rfl
    have b1 := hBsc.cell' (i := 1) rfl
    have b2 := hBsc.cell' (i := 2) rfl
    have b3 := hBsc.cell' (i := 3) rfl
    have b4 := hBsc.cell' (i := 4) rfl
    have b5 := hBsc.cell' (i := 5) rfl
    have b6 := hBsc.cell' (i := 6) rfl
    by_cases ms : MayR s
    · have hF : F = 0 := by rw [HF.out, chkR_yes ms]
      have hS : S = rbytes s := by
        have hmb : mayR s = true := decide_eq_true ms
        rw [HS.out, hmb, if_pos rfl]
      subst hF
      by_cases hrs : r = s
      · subst hrs
        have hcmp := fun w => rp_eql_same r.tag r.kind r.err r.id r.seat r.till r.count w
        go_wp2_with fail
        go_ret
        exact ⟨rfl, hMc⟩
      · have hcmp := fun w => rp_eql_ne r s hrs w
        have hcA : A.length ≤ cap4 := by obtain ⟨_, _, hv, h1, _⟩ := ha.bs.form; injection hv with _ _ hv; first | done | omega
        have hcS : S.length ≤ cap5 := by obtain ⟨_, _, hv, h1, _⟩ := hb.bs.form; injection hv with _ _ hv; first | done | omega
        by_cases hSA : S.length < A.length
        · have hne : A.take S.length ≠ S.take S.length := by rw [hS]; exact HU.out ms hrs _ (by rw [← hS]; omega)
          have hca : Bs wc (.slice ao4 S.length cap4) (A.take S.length) := ha.bs.pre rfl (by omega) (by omega)
          have hcb : Bs wc (.slice ao5 S.length cap5) (S.take S.length) := hb.bs.pre rfl (by omega) (by omega)
          have n5 : (S.length : Int) ≤ cap4 := by omega
          have n6 : (S.length : Int) ≤ cap5 := by omega
          have n5' : S.length ≤ cap4 := by omega
          have n6' : S.length ≤ cap5 := by omega
          clear hS ha hb HU HS HF
          go_wp2_with fail
          refine wp_region_T [⟨0, true, []⟩, ⟨1, true, []⟩, ⟨2, true, []⟩, ⟨3, true, []⟩, ⟨4, true, []⟩, ⟨5, true, []⟩, ⟨6, false, []⟩, ⟨7, true, []⟩, ⟨8, true, []⟩] (by kernel_rfl) (by kernel_rfl) ?_
          iterate 6 (refine wpT_n rfl rfl (fun K hK => ?_); go_wp2_with fail)
          refine wpT_call rfl rfl (fun K hK => ?_)
          go_wp2_with (go_at_call 12; refine (same_no _ _ _ _ _ (hca.ext (Mod.drew [] _)) (hcb.ext (Mod.drew [] _)) hne).mono ?_; rintro e w7 ⟨rfl, hm7'⟩)
          have hm7 : Mod [] wc w7 := (Mod.drew [] wc).ext hm7'
          iterate 2 (refine wpT_n rfl rfl (fun K hK => ?_); go_wp2_with fail)
          refine wpT_nil ?_
          go_wp2_with fail
          go_ret
          exact ⟨rfl, hMc.ext hm7⟩
        · have hne : A.take A.length ≠ S.take A.length := by rw [hS]; exact HU.out ms hrs _ (by rw [← hS]; omega)
          have hca : Bs wc (.slice ao4 A.length cap4) (A.take A.length) := ha.bs.pre rfl (by omega) (by omega)
          have hcb : Bs wc (.slice ao5 A.length cap5) (S.take A.length) := hb.bs.pre rfl (by omega) (by omega)
          have n5 : (A.length : Int) ≤ cap4 := by omega
          have n6 : (A.length : Int) ≤ cap5 := by omega
          have n5' : A.length ≤ cap4 := by omega
          have n6' : A.length ≤ cap5 := by omega
          clear hS ha hb HU HS HF
          go_wp2_with fail
          refine wp_region_T [⟨0, true, []⟩, ⟨1, true, []⟩, ⟨2, true, []⟩, ⟨3, true, []⟩, ⟨4, true, []⟩, ⟨5, true, []⟩, ⟨6, false, []⟩, ⟨7, true, []⟩, ⟨8, true, []⟩] (by kernel_rfl) (by kernel_rfl) ?_
          iterate 6 (refine wpT_n rfl rfl (fun K hK => ?_); go_wp2_with fail)
          refine wpT_call rfl rfl (fun K hK => ?_)
          go_wp2_with (go_at_call 12; refine (same_no _ _ _ _ _ (hca.ext (Mod.drew [] _)) (hcb.ext (Mod.drew [] _)) hne).mono ?_; rintro e w7 ⟨rfl, hm7'⟩)
          have hm7 : Mod [] wc w7 := (Mod.drew [] wc).ext hm7'
          iterate 2 (refine wpT_n rfl rfl (fun K hK => ?_); go_wp2_with fail)
          refine wpT_nil ?_
          go_wp2_with fail
          go_ret
          exact ⟨rfl, hMc.ext hm7⟩
    · have hF : F = 210 := by rw [HF.out, chkR_no ms]
      subst hF
      go_wp2_with fail
      go_ret
      exact ⟨rfl, hMc⟩
  · have P := fun w h => rput_no r hr mr w h
    have Q : ∀ w, Tab w → Calls Tryd.prog 8 #[.agg #[.int .u32 s.tag, .int .i64 s.kind, .int .i64 s.err, .int .u32 s.id, .int .i64 s.seat, .int .i64 s.till, .int .i64 s.count]] w fun e w' => ∃ v, e = .returned (.tuple #[v, .int .i64 (chkR s)]) ∧ Ob w' v (if mayR s = true then rbytes s else []) ∧ New w v ∧ Mod [] w w' := fun w h => rput_any s hs w h
    obtain ⟨S, hS⟩ : ∃ S, S = (if mayR s = true then rbytes s else []) := ⟨_, rfl⟩
    obtain ⟨F, hF⟩ : ∃ F, F = chkR s := ⟨_, rfl⟩
    rw [← hS, ← hF] at Q
    rw [hrv] at P
    clear hS hF hrv hsv
    go_wp2_with (go_at_call 8; first
                  | ((with_reducible refine (P w3 (hT.ext hM3)).mono ?_); rintro e w4 ⟨ao4, cap4, rfl, hm4⟩; have hBr4 := hBr3.ext hm4; have hBs4 := hBs3.ext hm4; have c0 := hBs4.cell' (i := 0) rfl; have c1 := hBs4.cell' (i := 1) rfl; have c2 := hBs4.cell' (i := 2) rfl; have c3 := hBs4.cell' (i := 3) rfl; have c4 := hBs4.cell' (i := 4) rfl; have c5 := hBs4.cell' (i := 5) rfl; have c6 := hBs4.cell' (i := 6) rfl)
                  | ((with_reducible refine (Q w4 (hT.ext (hM3.ext hm4))).mono ?_); rintro e w5 ⟨v5, rfl, ho5, _, hm5⟩; obtain ⟨ao5, cap5, rfl, hcq5, hcp5⟩ := ho5.bs.form))
    go_ret
    exact ⟨rfl, (hM3.ext hm4).ext hm5⟩
end Go.Proofs.YtfcoaiggpcjldaaDoor
