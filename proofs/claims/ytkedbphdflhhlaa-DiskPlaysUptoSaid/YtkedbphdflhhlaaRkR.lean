import Derived.Test.YtkedbphdflhhlaaRkW
/-! The reference's disks: Read, Image, kept. -/
set_option linter.unusedVariables false
set_option linter.unusedSimpArgs false
set_option maxRecDepth 100000
namespace Go.Proofs.Ytkedbphdflhhlaa
open Go.RowKit Gw

theorem find_last {α : Type} (P : α → Bool) (l : List α) (k : Nat) (hk : k < l.length) (hp : P l[k] = true) (hne : ∀ j (hj : j < l.length), k < j → P l[j] = false) : l.reverse.find? P = some l[k] := by
  have e : l = l.take k ++ l[k] :: l.drop (k + 1) := by
    have := List.take_append_drop k l
    rw [List.drop_eq_getElem_cons hk] at this
    exact this.symm
  have hd : (l.drop (k + 1)).reverse.find? P = none := by
    rw [List.find?_eq_none]
    intro x hx
    obtain ⟨i, hi, rfl⟩ := List.getElem_of_mem (List.mem_reverse.1 hx)
    rw [List.getElem_drop]
    simp at hi
    simp [hne (k + 1 + i) (by omega) (by omega)]
  have : l.reverse = (l.drop (k + 1)).reverse ++ l[k] :: (l.take k).reverse := by
    conv => lhs; rw [e]
    simp
  rw [this, List.find?_append, hd, List.find?_cons, hp]
  rfl
theorem read_last {sz : Nat} {dp : List (Value × List UInt8)} {rp : List (Nat × Value × List UInt8)} {a k : Nat} (hk : k < rp.length) (he : rp[k].1 = a) (hne : ∀ j (hj : j < rp.length), k < j → rp[j].1 ≠ a) : (Dm.of sz dp rp).read a = rp[k].2.2 := by
  unfold Dm.read Dm.of
  dsimp only
  have := find_last (fun x : Nat × List UInt8 => decide (x.1 = a)) (rp.map fun x => (x.1, x.2.2)) k (by simpa using hk) (by simp [he]) (fun j hj hkj => by
    have := hne j (by simpa using hj) hkj
    simpa using this)
  rw [this]
  simp
theorem read_none {sz : Nat} {dp : List (Value × List UInt8)} {rp : List (Nat × Value × List UInt8)} {a : Nat} (hne : ∀ j (hj : j < rp.length), rp[j].1 ≠ a) (ha : a < dp.length) : (Dm.of sz dp rp).read a = dp[a].2 := by
  unfold Dm.read Dm.of
  dsimp only
  have : (rp.map fun x => (x.1, x.2.2)).reverse.find? (fun x => decide (x.1 = a)) = none := by
    rw [List.find?_eq_none]
    intro x hx
    obtain ⟨y, hy, rfl⟩ := List.mem_map.1 (List.mem_reverse.1 hx)
    obtain ⟨i, hi, rfl⟩ := List.getElem_of_mem hy
    simpa using hne i hi
  rw [this]
  simp [List.getElem?_eq_getElem ha]
theorem rread_no (v : Value) (at_ : Int) (w : World) (h : NoRk w v) : Calls Try.prog 89 #[v, .int .i64 at_] w fun e w' => e = .returned (.tuple #[.slice none 0 0, .int .i64 1]) ∧ w = w' := by
  have T := fun w h => rwrong_no v at_ w h
  go_enter Try.func89, Try.ntmps89
  go_wp2_with (go_at_call 120; (with_reducible refine (T _ h).mono ?_); rintro e w1 ⟨rfl, rfl⟩)
  go_ret2
  exact ⟨rfl, rfl⟩
theorem rread_bad (p : Nat) (m : Dm) (L : List Nat) (at_ E : Int) (w : World) (h : Rk w p m L) (hok : m.ok) (hE : noneE m.dur.length at_ = E) (hE0 : E ≠ 0) :
    Calls Try.prog 89 #[.pointer (some ⟨p, 0, none⟩), .int .i64 at_] w fun e w' => e = .returned (.tuple #[.slice none 0 0, .int .i64 E]) ∧ w = w' := by
  obtain ⟨D, R, hB, ⟨ao, cap, rfl, _⟩, ao', cap', rfl, _⟩ := h.blk
  have T := fun w h => rwrong_any p m.dur.length cap ao (.slice ao' m.row.length cap') at_ E w h hok.n1 hE
  have e1 : (E != 0) = true := by simpa using hE0
  clear h hE hE0
  go_enter Try.func89, Try.ntmps89
  go_wp2_with (go_at_call 120; (with_reducible refine (T _ hB).mono ?_); rintro e w1 ⟨rfl, rfl⟩)
  go_ret2
  exact ⟨rfl, rfl⟩
set_option maxRecDepth 1000000 in
set_option maxHeartbeats 4000000 in
theorem rread_ok (p : Nat) (m : Dm) (L : List Nat) (a : Nat) (w : World) (h : Rk w p m L) (hok : m.ok) (ha : a < m.dur.length) :
    Calls Try.prog 89 #[.pointer (some ⟨p, 0, none⟩), .int .i64 (a : Nat)] w fun e w' => ∃ v, e = .returned (.tuple #[v, .int .i64 0]) ∧ Ob w' v (m.read a) ∧ New w v ∧ Mod [] w w' := by
  have hrl := hok.read ha
  have hs2 := hok.s2
  obtain ⟨D, R, dp, rp, hB, hm, hL⟩ := h
  obtain ⟨aoD, capD, rfl, hcD, _⟩ := hB.dur.sl.form
  obtain ⟨aoR, capR, rfl, hcR, _⟩ := hB.row.sl.form
  have had : a < dp.length := by rw [hm] at ha; simpa [Dm.of] using ha
  have hF : noneE dp.length (a : Nat) = 0 := by unfold noneE; rw [if_neg (by omega)]
  have T := fun w h => rwrong_any p dp.length capD aoD (.slice aoR rp.length capR) (a : Nat) 0 w h (by omega) hF
  have hN1 := fun k hk he hne => (read_last (sz := m.sz) (dp := dp) (rp := rp) (a := a) (k := k) hk he hne)
  have hN2 := fun hne => (read_none (sz := m.sz) (dp := dp) (rp := rp) (a := a) hne had)
  rw [← hm] at hN1 hN2
  obtain ⟨B, hBr⟩ : ∃ B, B = m.read a := ⟨_, rfl⟩
  rw [← hBr] at hrl hN1 hN2 ⊢
  have l2 : B.length ≤ 140737488355328 := by omega
  have HN1 := Lib.hid hN1
  have HN2 := Lib.hid hN2
  clear hm hL hok hF ha hBr hrl hN1 hN2
  have c1 := hB.blk.cell' (i := 1) rfl
  have c0 := hB.blk.cell' (i := 0) rfl
  have hrn := hB.row.sl.small
  go_enter Try.func89, Try.ntmps89
  go_wp2_with (go_at_call 120; (with_reducible refine (T _ hB.blk).mono ?_); rintro e w1 ⟨rfl, rfl⟩)
  go_loopw [7] (fun i wr => w = wr ∧ ∃ k : Nat, k ≤ rp.length ∧ i = .int .i64 ((k : Int) - 1) ∧ ∀ j (hj : j < rp.length), k ≤ j → rp[j].1 ≠ a) (fun i _ => (intOf i + 1).toNat)
  case atStart => exact ⟨rfl, rp.length, by omega, rfl, fun j hj h => by omega⟩
  case round =>
    obtain ⟨rfl, k, hk, hi, hne⟩ := hrel
    rcases k with _ | k
    · obtain rfl : _ = Value.int .i64 (-1) := hi
      have hr := HN2.out fun j hj => hne j hj (by omega)
      have HNE := Lib.hid hne
      obtain ⟨b0, o0, rfl, hc⟩ := sl_at hB.dur.sl (i := a) (by simpa using had)
      have hv := (hB.fam.ob dp[a] (List.mem_append_left _ (List.getElem_mem had))).1
      rw [List.getElem_map] at hc
      rw [← hr] at hv
      obtain ⟨v, hvv⟩ : ∃ v, v = dp[a].1 := ⟨_, rfl⟩
      rw [← hvv] at hv hc
      obtain ⟨aov, capv, rfl, _, _⟩ := Bs.form (Ob.bs hv)
      have y1 : (0 : Int) ≤ a := by omega
      have y2 : (a : Int) < dp.length := by omega
      clear hr hvv hne
      go_wp2_with (go_at_call 96; refine (twin_any B _ _ (Ob.bs hv) l2).mono ?_; rintro e w2 ⟨v2, rfl, ho2, hn2, hm2⟩)
      go_ret2
      exact ⟨_, rfl, ho2, hn2, hm2⟩
    · rw [show (((k + 1 : Nat) : Int) - 1) = (k : Int) by omega] at hi
      obtain rfl := hi
      have hlt : k < rp.length := by omega
      obtain ⟨gR, hgR, restR, hRb⟩ : ∃ g, aoR = some ⟨g, 0, none⟩ ∧ ∃ rest, Blk w g 150 (wcells rp ++ rest) := by
        rcases hB.row.blk with ⟨_, h0, _⟩ | ⟨g, cap, rest, h1, h2, _⟩
        · omega
        · injection h1 with h1
          exact ⟨g, h1, rest, h2⟩
      subst hgR
      obtain ⟨hw0, hw1⟩ := wcells_at rp k hlt
      have hwl : 2 * k + 1 < (wcells rp).length := by rw [wcells_len]; omega
      have r0 := hRb.cell' (i := k * 2) (by rw [List.getElem?_append_left (by omega), Nat.mul_comm]; exact hw0)
      have r1 := hRb.cell' (i := k * 2 + 1) (by rw [List.getElem?_append_left (by omega), Nat.mul_comm]; exact hw1)
      have hbo := (hB.fam.ob rp[k].2 (List.mem_append_right _ (List.mem_map.2 ⟨rp[k], List.getElem_mem hlt, rfl⟩))).1
      have y1 : (0 : Int) ≤ k := by omega
      have y2 : (k : Int) < rp.length := by omega
      obtain ⟨b, hbe⟩ : ∃ a, a = rp[k].1 := ⟨_, rfl⟩
      obtain ⟨l, hle⟩ : ∃ b, b = rp[k].2.2 := ⟨_, rfl⟩
      obtain ⟨vb, hvb⟩ : ∃ b, b = rp[k].2.1 := ⟨_, rfl⟩
      rw [← hvb] at r1 hbo
      rw [← hle] at hbo
      rw [← hbe] at r0
      obtain ⟨aob, capb, rfl, hcb, _⟩ := Bs.form (Ob.bs hbo)
      by_cases hba : b = a
      · have hr := HN1.out k hlt (hbe.symm.trans hba) fun j hj hkj => hne j hj (by omega)
        rw [← hle] at hr
        subst hr
        have e1 : (b == a) = true := by simpa using hba
        have e2 : ((b : Int) == a) = true := by simp [hba]
        have HNE := Lib.hid hne
        clear hbe hle hvb hw0 hw1 hwl hne hba hRb
        go_wp2_with (go_at_call 96; refine (twin_any B _ _ (Ob.bs hbo) l2).mono ?_; rintro e w2 ⟨v2, rfl, ho2, hn2, hm2⟩)
        go_ret2
        exact ⟨_, rfl, ho2, hn2, hm2⟩
      · have e1 : (b == a) = false := by simpa using hba
        have e2 : ((b : Int) == a) = false := by simp; omega
        have HNE := Lib.hid (show ∀ j (hj : j < rp.length), k ≤ j → rp[j].1 ≠ a from fun j hj hkj => by
          by_cases hkj2 : k = j
          · subst hkj2; rw [← hbe]; exact hba
          · exact hne j hj (by omega))
        clear hbe hle hvb hw0 hw1 hwl hne hba hRb
        go_wp2_with fail
        go_roundw
        case rel => exact ⟨trivial, k, by omega, by go_num, HNE.out⟩
        case measure => simp [intOf]
set_option maxHeartbeats 2000000 in
theorem rimage_any (p : Nat) (m : Dm) (L : List Nat) (w : World) (h : Rk w p m L) (hok : m.ok) : Calls Try.prog 64 #[.pointer (some ⟨p, 0, none⟩)] w (ImgPost w m.dur) := by
  have hs2 := hok.s2
  have hn2 := hok.n2
  have hd := hok.d
  obtain ⟨D, R, dp, rp, hB, hm, hL⟩ := h
  have e1 : m.dur = dp.map (·.2) := by rw [hm]; rfl
  rw [e1] at hd hn2 ⊢
  have hdl : ∀ (j : Nat) (hj : j < dp.length), dp[j].2.length = m.sz := fun j hj => hd _ (List.mem_map.2 ⟨dp[j], List.getElem_mem hj, rfl⟩)
  rw [List.length_map] at hn2
  obtain ⟨aoD, capD, rfl, hcD, _⟩ := hB.dur.sl.form
  obtain ⟨sz, hsz⟩ : ∃ sz, sz = m.sz := ⟨_, rfl⟩
  rw [← hsz] at hdl hs2
  clear hm hL hok hd e1 hsz
  go_enter Try.func64, Try.ntmps64
  go_wp2_with fail
  go_loopw [3, 4] (fun o i wr => ∃ (k : Nat) (dq : List (Value × List UInt8)), k ≤ dp.length ∧ i = .int .i64 k ∧ RowsO wr w.heap.size o dq ∧ dq.map (·.2) = (dp.map (·.2)).take k ∧ Mod [] w wr) (fun _ i _ => dp.length - (intOf i).toNat)
  case atStart => exact ⟨0, [], by omega, rfl, RowsO.nil _ _, by simp, Mod.refl _ _⟩
  case round =>
    obtain ⟨k, dq, hk, rfl, hR, hdq, hmr⟩ := hrel
    have hBr := hB.ext hmr
    have c0 := hBr.blk.cell' (i := 0) rfl
    obtain ⟨aoo, capo, rfl, hco, _⟩ := hR.ow.sl.form
    by_cases hlt : k < dp.length
    · have y0 : (k : Int) < dp.length := by omega
      obtain ⟨b0, o0, rfl, hc⟩ := sl_at hBr.dur.sl (i := k) (by simpa using hlt)
      have hv := (hBr.fam.ob dp[k] (List.mem_append_left _ (List.getElem_mem hlt))).1
      rw [List.getElem_map] at hc
      have hql : dq.length = k := by have := congrArg List.length hdq; simp at this; omega
      have hl1 := hdl k hlt
      have hsn : (dp.map (·.2)).take (k + 1) = (dp.map (·.2)).take k ++ [dp[k].2] := by
        rw [List.take_succ_eq_append_getElem (by simpa using hlt), List.getElem_map]
      rw [← hdq] at hsn
      obtain ⟨v, hvv⟩ : ∃ v, v = dp[k].1 := ⟨_, rfl⟩
      obtain ⟨l, hll⟩ : ∃ v, v = dp[k].2 := ⟨_, rfl⟩
      rw [← hvv] at hv hc
      rw [← hll] at hv hl1 hsn
      obtain ⟨aov, capv, rfl, _, _⟩ := Bs.form (Ob.bs hv)
      have HSN := Lib.hid hsn
      have HQL := Lib.hid hql
      have hl2 : l.length ≤ 4096 := by omega
      have hl3 : 0 < l.length ∨ sz = 0 := by omega
      clear hvv hll hBr hdq hsn hql hl1
      go_wp2_with (first
                    | (with_reducible refine st_bslice ?_)
                    | (go_at_call 96; refine (twin_any l _ _ (Ob.bs hv) (by omega)).mono ?_; rintro e w2 ⟨v2, rfl, ho2, hn2, hm2⟩))
      refine StopOp.go rfl fun K hK => ?_
      refine wp_bslice stDR [v2] rfl (by decide) (by rfl) (by obtain ⟨_, _, rfl, _⟩ := Bs.form (Ob.bs ho2); simp [Value.cells]) ?_
      intro g w3 hg1 hg2 hm3 hB3
      simp only [put_some, List.set_cons_succ, List.set_cons_zero]
      refine hK _ _ ?_
      clear hK K
      have hS3 : Sl w3 1 (.slice (some ⟨g, 0, none⟩) 1 1) 1 [v2] := by
        obtain ⟨_, _, rfl, _⟩ := Bs.form (Ob.bs ho2)
        exact (Ow.of_blk (rest := []) hB3 (Nat.le_refl _) (by omega) rfl rfl : Ow w3 23 1 (.slice (some ⟨g, 0, none⟩) 1 1) 1 [_]).sl
      go_wp2_with (with_reducible refine st_append ?_)
      refine StopOp.go rfl fun K hK => ?_
      refine wp_append_ow stDR (by rfl) (by rfl) (hR.ext (hm2.ext hm3)).ow hS3 (by obtain ⟨_, _, rfl, _⟩ := Bs.form (Ob.bs ho2); simp [Value.oneCell']) (by have := HQL.out; omega) (by have := HQL.out; omega) ?_
      intro v4 w4 ho4 hm4 hb4
      simp only [put_some, List.set_cons_succ, List.set_cons_zero]
      refine hK _ _ ?_
      clear hK K
      have hR4 := hR.snoc hmr.size hm2 ho2 hn2 hm3 ho4 hm4 hb4
      have hM4 : Mod [] w w4 := (hmr.ext (hm2.ext hm3)).fresh hm4 hR.nw
      obtain ⟨ao4, cap4, rfl, _, _⟩ := ho4.sl.form
      go_wp2_with fail
      go_roundw
      case rel => exact ⟨k + 1, _, by omega, by go_num, hR4, by rw [List.map_append, HSN.out]; rfl, hM4⟩
      case measure => simp [intOf]; omega
    · obtain rfl : k = dp.length := by omega
      rw [List.take_of_length_le (by simp)] at hdq
      go_wp2_with fail
      go_ret
      exact ⟨_, dq, rfl, hR, hdq, hmr⟩
theorem rimage_no (v : Value) (w : World) (h : NoRk w v) : Calls Try.prog 64 #[v] w fun e w' => e = .returned (.slice none 0 0) ∧ w = w' := by
  obtain ⟨p, rfl, hB⟩ := h
  have c0 := hB.cell' (i := 0) rfl
  clear hB
  go_enter Try.func64, Try.ntmps64
  go_wp2_with fail
  go_loopw [3, 4] (fun o i wr => w = wr ∧ o = .slice none 0 0 ∧ i = .int .i64 0) (fun _ i _ => 0)
  case atStart => exact ⟨rfl, rfl, rfl⟩
  case round =>
    obtain ⟨rfl, rfl, rfl⟩ := hrel
    go_wp2_with fail
    go_ret
    exact ⟨rfl, rfl⟩
/-- how much of a write becomes durable -/
def keptN (sz : Nat) (k a : Int) : Nat := clampN (if k = 1 then sz else if k = 2 then a else 0) sz
set_option maxHeartbeats 2000000 in
theorem rkept_any (p : Nat) (m : Dm) (L : List Nat) (k a : Int) (w : World) (h : Rk w p m L) (hok : m.ok) :
    Calls Try.prog 122 #[.pointer (some ⟨p, 0, none⟩), .agg #[.int .i64 k, .int .i64 a]] w fun e w' => e = .returned (.int .i64 (keptN m.sz k a : Nat)) ∧ Mod [] w w' := by
  have hs2 := hok.s2
  have SZ := fun w' hm => rSize_any p m L w' (h.ext hm) hok
  obtain ⟨K0, hK0⟩ : ∃ K, K = keptN m.sz k a := ⟨_, rfl⟩
  rw [← hK0]
  obtain ⟨sz, hsz⟩ : ∃ sz, sz = m.sz := ⟨_, rfl⟩
  rw [← hsz] at SZ hs2 hK0
  have HK0 := Lib.hid hK0
  clear h hok hsz hK0
  go_enter Try.func122, Try.ntmps122
  go_wp2_with (with_reducible refine st_box ?_)
  refine StopOp.go rfl fun K hK => ?_
  refine wp_box (v := .agg #[.int .i64 k, .int .i64 a]) (by rfl) ?_
  intro q w1 hq1 hq2 hm1 hQ0
  simp only [put_some, List.set_cons_succ, List.set_cons_zero]
  refine hK _ _ ?_
  clear hK K
  have hQ : Blk w1 q 54 [.int .i64 k, .int .i64 a] := hQ0
  have q0 := hQ.cell' (i := 0) rfl
  clear hQ0
  by_cases k1 : k = 1
  · subst k1
    obtain rfl : K0 = sz := by rw [HK0.out]; unfold keptN clampN; simp
    go_wp2_with (go_at_call 87; (with_reducible refine (SZ _ hm1).mono ?_); rintro e w2 ⟨rfl, rfl⟩)
    go_ret
    exact ⟨rfl, hm1⟩
  · have e1 : (k == 1) = false := by simpa using k1
    by_cases k2 : k = 2
    · subst k2
      have hk : K0 = clampN a sz := by rw [HK0.out]; unfold keptN; simp
      have HKK := Lib.hid hk
      clear hk HK0
      go_wp2_with fail
      refine wp_region_T [⟨0, true, []⟩, ⟨1, true, []⟩, ⟨2, true, []⟩, ⟨3, true, []⟩, ⟨4, false, [1, 2]⟩, ⟨5, true, []⟩, ⟨6, true, []⟩] (by kernel_rfl) (by kernel_rfl) ?_
      have hm2 := hm1.ext (Mod.drew [] _)
      have hQ2 := hQ.ext (Mod.drew [] w1)
      obtain ⟨w2, hw2⟩ : ∃ x, x = w1.drew := ⟨_, rfl⟩
      rw [← hw2] at hm2 hQ2 ⊢
      clear hw2 hQ hm1 q0
      have q1 := hQ2.cell' (i := 1) rfl
      by_cases a1 : a < 0
      · obtain rfl : K0 = 0 := by rw [HKK.out]; unfold clampN; omega
        have b1 : (0 : Int) < sz ∨ (0 : Int) = sz := by omega
        iterate 4 (refine wpT_n rfl rfl (fun K hK => ?_); go_wp2_with fail)
        refine wpT_callh rfl rfl (fun K hK => ?_)
        go_wp2_with (go_at_call 87; (with_reducible refine (SZ _ hm2).mono ?_); rintro e w3 ⟨rfl, rfl⟩)
        refine ⟨agains_same, ?_⟩
        have b2 : ¬ ((sz : Int) < 0) := by omega
        iterate 2 (refine wpT_n rfl rfl (fun K hK => ?_); go_wp2_with fail)
        refine wpT_nil ?_
        go_wp2_with fail
        go_ret
        exact ⟨rfl, hm2⟩
      · obtain ⟨b, rfl⟩ := Int.eq_ofNat_of_zero_le (show 0 ≤ a by omega)
        by_cases a2 : b ≤ sz
        · obtain rfl : K0 = b := by rw [HKK.out]; unfold clampN; simp; omega
          have b2 : ¬ ((sz : Int) < K0) := by omega
          iterate 4 (refine wpT_n rfl rfl (fun K hK => ?_); go_wp2_with fail)
          refine wpT_callh rfl rfl (fun K hK => ?_)
          go_wp2_with (go_at_call 87; (with_reducible refine (SZ _ hm2).mono ?_); rintro e w3 ⟨rfl, rfl⟩)
          refine ⟨agains_same, ?_⟩
          iterate 2 (refine wpT_n rfl rfl (fun K hK => ?_); go_wp2_with fail)
          refine wpT_nil ?_
          go_wp2_with fail
          go_ret
          exact ⟨rfl, hm2⟩
        · obtain rfl : K0 = sz := by rw [HKK.out]; unfold clampN; simp; omega
          have b2 : (K0 : Int) < b := by omega
          iterate 4 (refine wpT_n rfl rfl (fun K hK => ?_); go_wp2_with fail)
          refine wpT_callh rfl rfl (fun K hK => ?_)
          go_wp2_with (go_at_call 87; (with_reducible refine (SZ _ hm2).mono ?_); rintro e w3 ⟨rfl, rfl⟩)
          refine ⟨agains_same, ?_⟩
          iterate 2 (refine wpT_n rfl rfl (fun K hK => ?_); go_wp2_with fail)
          refine wpT_nil ?_
          go_wp2_with fail
          go_ret
          exact ⟨rfl, hm2⟩
    · have e2 : (k == 2) = false := by simpa using k2
      obtain rfl : K0 = 0 := by rw [HK0.out]; unfold keptN clampN; simp [k1, k2]
      go_wp2_with fail
      go_ret
      exact ⟨rfl, hm1⟩
end Go.Proofs.Ytkedbphdflhhlaa
