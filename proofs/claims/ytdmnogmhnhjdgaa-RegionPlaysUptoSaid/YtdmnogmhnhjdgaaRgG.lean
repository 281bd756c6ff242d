import Derived.Test.YtdmnogmhnhjdgaaRgF
/-! Regions: Write. -/
set_option linter.unusedVariables false
set_option linter.unusedSimpArgs false
set_option maxRecDepth 100000
namespace Go.Proofs.Ytdmnogmhnhjdgaa
open Go.RowKit Gw

theorem wrM_sz (m : Dm) (a : Int) (l : List UInt8) : (wrM m a l).sz = m.sz ∧ (wrM m a l).dur.length = m.dur.length ∧ (wrM m a l).row.length ≤ m.row.length + 1 := by
  unfold wrM
  split
  · exact ⟨rfl, rfl, by unfold Dm.write; simp⟩
  · exact ⟨rfl, rfl, by omega⟩
theorem wr_sz (v : Pv) (a : Int) (l : List UInt8) : (v.wr a l).m.sz = v.m.sz ∧ (v.wr a l).m.dur.length = v.m.dur.length ∧ (v.wr a l).m.row.length ≤ v.m.row.length + 1 ∧ (v.wr a l).n ≤ v.n + 1 := by
  have h := md_n2 v
  have e := v.md_m
  unfold Pv.wr
  split
  · obtain ⟨h1, h2, h3⟩ := wrM_sz v.m a l
    exact ⟨h1, h2, h3, h⟩
  · rw [e]
    exact ⟨rfl, rfl, by omega, h⟩
theorem wrC_sz (v : Pv) (S M T z : Nat) (x : List UInt8) : (wrC v S M T z x).1.m.sz = v.m.sz ∧ (wrC v S M T z x).1.m.dur.length = v.m.dur.length ∧ (wrC v S M T z x).1.m.row.length ≤ v.m.row.length + 1 ∧ (wrC v S M T z x).1.n ≤ v.n + 2 := by
  have h := md_n2 v
  have e := v.md_m
  have h' := md_n2 v.md
  have e' := v.md.md_m
  unfold wrC
  split
  · split
    · split
      · obtain ⟨h1, h2, h3, h4⟩ := wr_sz v.md S ((v.m.read S).take M ++ x ++ (v.m.read S).drop T)
        rw [e] at h1 h2 h3
        exact ⟨h1, h2, h3, by dsimp only; omega⟩
      · dsimp only
        rw [e', e]
        exact ⟨rfl, rfl, by omega, by omega⟩
    · dsimp only
      rw [e]
      exact ⟨rfl, rfl, by omega, by omega⟩
  · split
    · obtain ⟨h1, h2, h3, h4⟩ := wr_sz v S x
      exact ⟨h1, h2, h3, by dsimp only; omega⟩
    · dsimp only
      rw [e]
      exact ⟨rfl, rfl, by omega, by omega⟩
theorem wr1_any (r p q f c z rc bc S M T k : Nat) (v : Pv) (L : List Nat) (b : List UInt8) (bv0 : Value) (W : World) (hP : Pd W p q v L) (hR : Rgn W r p f c z) (hrc : Blk W rc 61 [.pointer (some ⟨r, 0, none⟩)]) (hbc : Blk W bc 35 [bv0]) (hb : Bs W bv0 b)
    (hS : S < v.m.dur.length) (hz : v.m.sz = z) (hMT : M < T) (hTz : T ≤ z) (hk : k = T - M) (hbl : k ≤ b.length) (hbl2 : b.length ≤ 1000000) (hn : v.n + 2 ≤ 1000000) (hr : v.m.row.length ≤ 1000000) (hdis : bc ∉ p :: L) (hdb : ∀ x ∈ blks bv0, x ∉ bc :: p :: L) (hrL : r ∉ bc :: p :: L) (hrcL : rc ∉ bc :: p :: L) :
    Calls Try.prog 77 #[.int .i64 (S : Nat), .int .i64 (M : Nat), .int .i64 (T : Nat), .pointer (some ⟨bc, 0, none⟩), .pointer (some ⟨rc, 0, none⟩)] W (Wr1P W p q bc bv0 b k L (wrC v S M T z (b.take k))) := by
  obtain ⟨ao, cap, rfl, _, _⟩ := hb.form
  by_cases h : k = cap
  · exact wr1a_any r p q f c z rc bc S M T k v L b ao cap W hP hR hrc hbc hb hS hz hMT hTz hk hbl hbl2 hn hr hdis hdb hrL hrcL h
  · exact wr1b_any r p q f c z rc bc S M T k v L b ao cap W hP hR hrc hbc hb hS hz hMT hTz hk hbl hbl2 hn hr hdis hdb hrL hrcL (fun e => h e.symm)
/-- what stands while Write goes -/
def WrJ (w : World) (r p q f c z rc bc : Nat) (B0 : List Nat) (L : List Nat) (e n0 r0 : Nat) (R0 : Pv × Int) (a : Nat) (W : World) : Prop :=
  ∃ v b bv' L', Pd W p q v L' ∧ Rgn W r p f c z ∧ Blk W rc 61 [.pointer (some ⟨r, 0, none⟩)] ∧ Blk W bc 35 [bv'] ∧ Bs W bv' b ∧ (∀ x ∈ blks bv', x ∈ B0) ∧ v.m.sz = z ∧ f + c ≤ v.m.dur.length ∧ v.n ≤ n0 + 2 * a ∧ v.m.row.length ≤ r0 + a ∧ b.length = e - a ∧ a ≤ e ∧ wrG f z v a e b = R0 ∧ Mod (p :: L) w W ∧ (∀ x ∈ L', x ∈ L ∨ w.heap.size ≤ x) ∧ bc ∉ L' ∧ rc ∉ L'
def WrX (w : World) (p q : Nat) (L : List Nat) (R0 : Pv × Int) (E : Int) (W : World) : Prop := E = R0.2 ∧ PdP w p q R0.1 L W
/-- what Write answers -/
def wrA (f c z : Nat) (v : Pv) (a : Int) (b : List UInt8) : Pv × Int := if hold (c * z) a b.length = true then wrG f z v a.toNat (a.toNat + b.length) b else (v, 2)
theorem wrG_ok {f z : Nat} {v : Pv} {a e : Nat} {b : List UInt8} (h : a < e) (hz : 0 < z) (h0 : (wrC v (f + a / z) (a % z) (toC z a e) z (b.take (toC z a e - a % z))).2 = 0) : wrG f z v a e b = wrG f z (wrC v (f + a / z) (a % z) (toC z a e) z (b.take (toC z a e - a % z))).1 (nxt z a e) e (b.drop (toC z a e - a % z)) := by
  rw [wrG, dif_pos ⟨h, hz⟩, if_pos h0]
theorem wrG_no {f z : Nat} {v : Pv} {a e : Nat} {b : List UInt8} (h : a < e) (hz : 0 < z) (h0 : (wrC v (f + a / z) (a % z) (toC z a e) z (b.take (toC z a e - a % z))).2 ≠ 0) : wrG f z v a e b = wrC v (f + a / z) (a % z) (toC z a e) z (b.take (toC z a e - a % z)) := by
  rw [wrG, dif_pos ⟨h, hz⟩, if_neg h0]
theorem wrG_end {f z : Nat} {v : Pv} {a : Nat} {b : List UInt8} : wrG f z v a a b = (v, 0) := by
  rw [wrG, dif_neg (by omega)]
set_option maxHeartbeats 4000000 in
theorem wrJ_step (w : World) (r p q f c z rc bc : Nat) (B0 : List Nat) (L : List Nat) (e n0 r0 : Nat) (R0 : Pv × Int) (hL : ∀ k ∈ p :: L, k < w.heap.size) (hrc : w.heap.size ≤ rc) (hbc : w.heap.size ≤ bc) (hrbc : rc ≠ bc) (hr : r < w.heap.size) (hrp : r ∉ p :: L) (hB : ∀ x ∈ B0, x < w.heap.size ∧ x ∉ p :: L) (he : e ≤ c * z) (hn0 : n0 + 2 * (c * z) ≤ 1000000) (hr0 : r0 + c * z ≤ 1000000) (hz : 0 < z)
    (a : Nat) (W : World) (hJ : WrJ w r p q f c z rc bc B0 L e n0 r0 R0 a W) (ha : a < e) :
    Calls Try.prog 77 #[.int .i64 ((f + a / z : Nat) : Int), .int .i64 ((a % z : Nat) : Int), .int .i64 ((toC z a e : Nat) : Int), .pointer (some ⟨bc, 0, none⟩), .pointer (some ⟨rc, 0, none⟩)] W fun e' W' => ∃ E, e' = .returned (.int .i64 E) ∧ (E = 0 → WrJ w r p q f c z rc bc B0 L e n0 r0 R0 (nxt z a e) W') ∧ (E ≠ 0 → WrX w p q L R0 E W') := by
  obtain ⟨v, b, bv', L', hP, hR, hrcB, hbcB, hb, hbl, hsz, hfc, hvn, hvr, hble, hae, hwr, hm, hL', hbL, hrL⟩ := hJ
  have hac : a / z < c := (Nat.div_lt_iff_lt_mul hz).2 (by omega)
  have h1 := toC_gt ha hz
  have h2 := toC_le z a e
  have h3 := nxt_gt ha hz
  have h4 := nxt_le (z := z) hae
  have h5 : nxt z a e = a + (toC z a e - a % z) := rfl
  have hp := hL p List.mem_cons_self
  have hpL : ∀ x, x < w.heap.size → x ∉ p :: L → x ∉ p :: L' := fun x hx hx2 hh => by
    rcases List.mem_cons.1 hh with h | h
    · exact hx2 (by simp [h])
    · rcases hL' x h with h | h
      · exact hx2 (by simp [h])
      · omega
  have hdis : bc ∉ p :: L' := fun hh => (List.mem_cons.1 hh).elim (fun e => by omega) hbL
  refine (wr1_any r p q f c z rc bc (f + a / z) (a % z) (toC z a e) (toC z a e - a % z) v L' b bv' W hP hR hrcB hbcB hb (by omega) hsz h1 h2 rfl (by omega) (by omega) (by omega) (by omega) hdis
    (fun x hx hh => ?_) (fun hh => ?_) (fun hh => ?_)).mono fun e' W' hh => ?_
  · obtain ⟨g1, g2⟩ := hB x (hbl x hx)
    rcases List.mem_cons.1 hh with h | h
    · omega
    · exact hpL x g1 g2 h
  · rcases List.mem_cons.1 hh with h | h
    · omega
    · exact hpL r hr hrp h
  · rcases List.mem_cons.1 hh with h | h
    · exact hrbc h
    · exact (List.mem_cons.1 h).elim (fun e => by omega) hrL
  · obtain ⟨L2, bv2, rfl, hP2, hbc2, hb2, hbb, hm2, hL2⟩ := hh
    obtain ⟨g1, g2, g3, g4⟩ := wrC_sz v (f + a / z) (a % z) (toC z a e) z (b.take (toC z a e - a % z))
    have hmW : Mod (p :: L) w W' := hm.then hm2 (fun g hg => by
      rcases List.mem_cons.1 hg with h | h
      · exact .inr (by omega)
      · rcases List.mem_cons.1 h with h | h
        · exact .inl (by simp [h])
        · exact (hL' g h).imp (fun h => List.mem_cons_of_mem _ h) id)
    have hs := hm.size
    have hLL : ∀ x ∈ L2, x ∈ L ∨ w.heap.size ≤ x := fun x hx => (hL2 x hx).elim (hL' x) (fun h => .inr (by omega))
    have hrn : r ∉ bc :: p :: L' := fun hh => (List.mem_cons.1 hh).elim (fun e => by omega) (hpL r hr hrp)
    have hrcn : rc ∉ bc :: p :: L' := fun hh => (List.mem_cons.1 hh).elim hrbc (fun h => (List.mem_cons.1 h).elim (fun e => by omega) hrL)
    refine ⟨_, rfl, fun h0 => ?_, fun h0 => ⟨by rw [← hwr, wrG_no ha hz h0], ⟨L2, by rw [← hwr, wrG_no ha hz h0]; exact hP2, hmW, hLL⟩⟩⟩
    refine ⟨_, _, bv2, L2, hP2, hR.mod hm2 hrn, hrcB.mod hm2 hrcn, hbc2, hb2, fun x hx => hbl x (hbb x hx), by rw [g1]; exact hsz, by rw [g2]; exact hfc, by omega, by omega, by rw [List.length_drop]; omega, h4, by rw [← wrG_ok ha hz h0]; exact hwr, hmW, hLL, fun hh => ?_, fun hh => ?_⟩
    · rcases hL2 _ hh with h | h
      · exact hbL h
      · have := Blk.lt hbcB; omega
    · rcases hL2 _ hh with h | h
      · exact hrL h
      · have := Blk.lt hrcB; omega
def GWrP (w : World) (p q : Nat) (L : List Nat) (R : Pv × Int) (e : Ending) (w' : World) : Prop := e = .returned (.int .i64 R.2) ∧ PdP w p q R.1 L w'
set_option maxRecDepth 1000000 in
set_option maxHeartbeats 8000000 in
theorem gWrite_any (r p q f c z : Nat) (v : Pv) (L : List Nat) (a : Int) (b : List UInt8) (bw : Value) (w : World) (hP : Pd w p q v L) (hR : Rgn w r p f c z) (hb : Bs w bw b) (hz : v.m.sz = z) (hfc : f + c ≤ v.m.dur.length) (hn : v.n + 2 * (c * z) ≤ 1000000) (hrow : v.m.row.length + c * z ≤ 1000000) (ha : i64 a) (hrL : r ∉ p :: L) (hbB : ∀ x ∈ blks bw, x < w.heap.size ∧ x ∉ p :: L) :
    Calls Try.prog 34 #[.pointer (some ⟨r, 0, none⟩), .int .i64 a, bw] w (GWrP w p q L (wrA f c z v a b)) := by
  obtain ⟨aob, capb, rfl, hcb, hcb2⟩ := hb.form
  have hs1 := hP.ok.m.s1
  have hs2 := hP.ok.m.s2
  have hn2 := hP.ok.m.n2
  rw [hz] at hs1 hs2
  have MA := fun w h => gmade_yes r p f c z w h
  have HO := fun w h => gholds_any r p f c z a b.length w h (by omega) ha ⟨by omega, by omega⟩
  obtain ⟨hh, hhe⟩ : ∃ x, x = hold (c * z) a b.length := ⟨_, rfl⟩
  rw [← hhe] at HO
  unfold wrA
  rw [← hhe]
  cases hh with
  | false =>
    rw [if_neg (by decide)]
    clear hhe
    go_enter Try.func34, Try.ntmps34
    go_wp2_with (with_reducible refine st_box ?_)
    refine StopOp.go rfl fun K hK => ?_
    refine wp_box (v := .pointer (some ⟨r, 0, none⟩)) (by rfl) ?_
    intro t w1 ht1 ht2 hm1 hT
    simp only [put_some, List.set_cons_succ, List.set_cons_zero]
    refine hK _ _ ?_
    clear hK K
    go_wp2_with (with_reducible refine st_box ?_)
    refine StopOp.go rfl fun K hK => ?_
    refine wp_box (v := .slice aob b.length capb) (by rfl) ?_
    intro u w2 hu1 hu2 hm2 hU
    simp only [put_some, List.set_cons_succ, List.set_cons_zero]
    refine hK _ _ ?_
    clear hK K
    have hT1 : Blk w1 t 61 [.pointer (some ⟨r, 0, none⟩)] := hT
    have hU2 : Blk w2 u 35 [.slice aob b.length capb] := hU
    have hT2 := hT1.ext hm2
    have hm02 := hm1.ext hm2
    have hR2 := hR.ext hm02
    have c0 := hT2.cell' (i := 0) rfl
    go_wp2_with (go_at_call 74; (with_reducible refine (MA _ hR2).mono ?_); rintro e w3 ⟨rfl, rfl⟩)
    refine wp_region_T [⟨0, true, []⟩, ⟨1, true, []⟩, ⟨2, true, []⟩, ⟨3, true, []⟩, ⟨4, true, []⟩, ⟨5, true, []⟩, ⟨6, false, []⟩, ⟨7, true, []⟩, ⟨8, true, []⟩] (by kernel_rfl) (by kernel_rfl) ?_
    have hmD := Mod.drew [] w2
    obtain ⟨x, hx⟩ : ∃ x, x = w2.drew := ⟨_, rfl⟩
    rw [← hx] at hmD ⊢
    clear hx c0
    have hT3 := hT2.ext hmD
    have hU3 := hU2.ext hmD
    have c0 := hT3.cell' (i := 0) rfl
    have c5 := hU3.cell' (i := 0) rfl
    iterate 6 (refine wpT_n rfl rfl (fun K hK => ?_); go_wp2_with fail)
    refine wpT_call rfl rfl (fun K hK => ?_)
    go_wp2_with (go_at_call 75; refine (HO _ (hR2.ext hmD)).mono ?_; rintro e w4 ⟨rfl, hm4⟩)
    iterate 2 (refine wpT_n rfl rfl (fun K hK => ?_); go_wp2_with fail)
    refine wpT_nil ?_
    go_wp2_with fail
    go_ret
    have hm04 := (hm02.ext hmD).ext hm4
    exact ⟨rfl, L, hP.ext hm04, hm04.weak (by simp), fun x hx => .inl hx⟩
  | true =>
    rw [if_pos rfl]
    obtain ⟨g1, g2, g3, g4⟩ := of_decide_eq_true hhe.symm
    obtain ⟨a', rfl⟩ := Int.eq_ofNat_of_zero_le g1
    obtain ⟨n', hn'⟩ : ∃ n, n = b.length := ⟨_, rfl⟩
    rw [← hn'] at HO g2 g4 hcb ⊢
    rw [← hn'] at hb
    rw [← hn'] at hbB
    have hle : a' + n' ≤ c * z := by omega
    rw [Int.toNat_natCast]
    obtain ⟨R0, hR0⟩ : ∃ R, R = wrG f z v a' (a' + n') b := ⟨_, rfl⟩
    rw [← hR0]
    have hcz : c * z ≤ 1000000 := by omega
    have H0 := Lib.hid (And.intro hR0 (And.intro hle (And.intro hz (And.intro hfc (And.intro hn (And.intro hcz (And.intro hrow hn')))))))
    have y1 : (a' : Int) ≤ 1000000 := by omega
    have y2 : (n' : Int) ≤ 1000000 := by omega
    have y3 : (n' : Int) ≤ capb := by omega
    clear hhe g1 g2 g3 g4 hR0 hle hz hfc hn hcz ha hn' hrow
    go_enter Try.func34, Try.ntmps34
    go_wp2_with (with_reducible refine st_box ?_)
    refine StopOp.go rfl fun K hK => ?_
    refine wp_box (v := .pointer (some ⟨r, 0, none⟩)) (by rfl) ?_
    intro t w1 ht1 ht2 hm1 hT
    simp only [put_some, List.set_cons_succ, List.set_cons_zero]
    refine hK _ _ ?_
    clear hK K
    go_wp2_with (with_reducible refine st_box ?_)
    refine StopOp.go rfl fun K hK => ?_
    refine wp_box (v := .slice aob n' capb) (by rfl) ?_
    intro u w2 hu1 hu2 hm2 hU
    simp only [put_some, List.set_cons_succ, List.set_cons_zero]
    refine hK _ _ ?_
    clear hK K
    have hT1 : Blk w1 t 61 [.pointer (some ⟨r, 0, none⟩)] := hT
    have hU2 : Blk w2 u 35 [.slice aob n' capb] := hU
    have hT2 := hT1.ext hm2
    have hm02 := hm1.ext hm2
    have hR2 := hR.ext hm02
    have c0 := hT2.cell' (i := 0) rfl
    go_wp2_with (go_at_call 74; (with_reducible refine (MA _ hR2).mono ?_); rintro e w3 ⟨rfl, rfl⟩)
    refine wp_region_T [⟨0, true, []⟩, ⟨1, true, []⟩, ⟨2, true, []⟩, ⟨3, true, []⟩, ⟨4, true, []⟩, ⟨5, true, []⟩, ⟨6, false, []⟩, ⟨7, true, []⟩, ⟨8, true, []⟩] (by kernel_rfl) (by kernel_rfl) ?_
    have hmD := Mod.drew [] w2
    obtain ⟨x, hx⟩ : ∃ x, x = w2.drew := ⟨_, rfl⟩
    rw [← hx] at hmD ⊢
    clear hx c0
    have hT3 := hT2.ext hmD
    have hU3 := hU2.ext hmD
    have c0 := hT3.cell' (i := 0) rfl
    have c5 := hU3.cell' (i := 0) rfl
    iterate 6 (refine wpT_n rfl rfl (fun K hK => ?_); go_wp2_with fail)
    refine wpT_call rfl rfl (fun K hK => ?_)
    go_wp2_with (go_at_call 75; refine (HO _ (hR2.ext hmD)).mono ?_; rintro e w4 ⟨rfl, hm4⟩)
    clear c0 c5
    iterate 2 (refine wpT_n rfl rfl (fun K hK => ?_); go_wp2_with fail)
    refine wpT_nil ?_
    go_wp2_with fail
    refine wp_region_T [⟨0, true, []⟩, ⟨1, true, []⟩, ⟨2, true, []⟩, ⟨3, true, []⟩, ⟨4, true, []⟩, ⟨5, true, []⟩, ⟨6, true, []⟩, ⟨7, false, []⟩, ⟨8, true, []⟩] (by kernel_rfl) (by kernel_rfl) ?_
    have hmE := hm4.ext (Mod.drew [] w4)
    obtain ⟨y, hy⟩ : ∃ y, y = w4.drew := ⟨_, rfl⟩
    rw [← hy] at hmE ⊢
    clear hy
    have hT5 := hT3.ext hmE
    have hU5 := hU3.ext hmE
    have hm05 := (hm02.ext hmD).ext hmE
    have c0 := hT5.cell' (i := 0) rfl
    have c5 := hU5.cell' (i := 0) rfl
    have s1 := hm1.size
    have s2 := hm2.size
    have htlt := hT1.lt
    have hJ0 : WrJ w r p q f c z t u (blks (.slice aob n' capb)) L (a' + n') v.n v.m.row.length R0 a' y := ⟨v, b, .slice aob n' capb, L, hP.ext hm05, hR.ext hm05, hT5, hU5, hb.ext hm05, fun _ h => h, H0.out.2.2.1, H0.out.2.2.2.1, by omega, by omega, by rw [← H0.out.2.2.2.2.2.2.2]; omega, by omega, H0.out.1.symm, hm05.weak (by simp), fun _ h => .inl h, fun h => by have := hP.lt0 u (List.mem_cons_of_mem _ h); omega, fun h => by have := hP.lt0 t (List.mem_cons_of_mem _ h); omega⟩
    have EA := fun w' h0 => eachW_any r p f c z (some ⟨u, 0, none⟩) (some ⟨t, 0, none⟩) a' n' (WrJ w r p q f c z t u (blks (.slice aob n' capb)) L (a' + n') v.n v.m.row.length R0) (WrX w p q L R0) w' (by omega) hs2 (by have := H0.out.2.2.2.1; omega) (by omega) h0 (fun a W hJ => by obtain ⟨_, _, _, _, _, h, _⟩ := hJ; exact h)
      (fun a W hJ _ hlt => wrJ_step w r p q f c z t u (blks (.slice aob n' capb)) L (a' + n') v.n v.m.row.length R0 hP.lt0 ht1 (by omega) (by omega) hR.lt hrL hbB H0.out.2.1 H0.out.2.2.2.2.1 H0.out.2.2.2.2.2.2.1 (by omega) a W hJ hlt)
    clear hT1 hm1 hm2 MA HO
    iterate 7 (refine wpT_n rfl rfl (fun K hK => ?_); go_wp2_with fail)
    refine wpT_call rfl rfl (fun K hK => ?_)
    go_wp2_with (go_at_call 76; refine (EA _ hJ0).mono ?_; rintro e w6 ⟨E, rfl, hE0, hE1⟩)
    refine wpT_n rfl rfl (fun K hK => ?_)
    go_wp2_with fail
    refine wpT_nil ?_
    go_wp2_with fail
    go_ret
    by_cases hE : E = 0
    · subst hE
      obtain ⟨v', b', bv', L', hP', _, _, _, _, _, _, _, _, _, _, _, hwr', hm', hL', _, _⟩ := hE0 rfl
      rw [wrG_end] at hwr'
      rw [← hwr']
      exact ⟨rfl, L', hP', hm', hL'⟩
    · obtain ⟨rfl, hX⟩ := hE1 hE
      exact ⟨rfl, hX⟩
end Go.Proofs.Ytdmnogmhnhjdgaa
