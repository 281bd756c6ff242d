import Derived.Test.YtdmnogmhnhjdgaaGreatPwK
/-! PowerStays: its walk. -/
set_option linter.unusedVariables false
set_option linter.unusedSimpArgs false
set_option maxRecDepth 100000
namespace Go.Proofs.YtdmnogmhnhjdgaaGreat
open Go.RowKit Gw

theorem Pq.up {W w1 w : World} {p q p' q' : Nat} {v u : Pv} {L M : List Nat} (h : Pq w1 w p q p' q' v u L M) (hm : Mod [] W w1) : Pq W w p q p' q' v u L M :=
  ⟨h.d, h.r, h.ap, hm.ext h.m, fun k hk => Nat.le_trans hm.size (h.g1 k hk), fun k hk => Nat.le_trans hm.size (h.g2 k hk)⟩
theorem Pq.lt {W w : World} {p q p' q' : Nat} {v u : Pv} {L M : List Nat} (h : Pq W w p q p' q' v u L M) : ∀ k ∈ (p :: L) ++ (p' :: M), k < w.heap.size := fun k hk => (List.mem_append.1 hk).elim (h.d.lt k) (h.r.lt k)
theorem Pq.ge {W w : World} {p q p' q' : Nat} {v u : Pv} {L M : List Nat} (h : Pq W w p q p' q' v u L M) : ∀ k ∈ (p :: L) ++ (p' :: M), W.heap.size ≤ k := fun k hk => (List.mem_append.1 hk).elim (h.g1 k) (h.g2 k)
/-- the cells of a step in a script -/
theorem pop_cells {w : World} {b o j : Nat} {x0 x1 x2 x3 x4 x5 : Value} (h : w.rangeAt b (o + j * 6) [x0, x1, x2, x3, x4, x5]) :
    w.cell? ⟨b, o + j * 6, none⟩ = some x0 ∧ w.cell? ⟨b, o + j * 6 + 1, none⟩ = some x1 ∧ w.cell? ⟨b, o + j * 6 + 2, none⟩ = some x2 ∧ w.cell? ⟨b, o + j * 6 + 3, none⟩ = some x3 ∧ w.cell? ⟨b, o + j * 6 + 4, none⟩ = some x4 ∧ w.cell? ⟨b, o + j * 6 + 5, none⟩ = some x5 :=
  ⟨h 0 _ rfl, h 1 _ rfl, h 2 _ rfl, h 3 _ rfl, h 4 _ rfl, h 5 _ rfl⟩
/-- what stays while the copy is worked upon -/
structure Stay (w : World) (p q : Nat) (v : Pv) (L : List Nat) (tb : Nat) (tc : List Value) (base : Nat) (iv : Value) (dq : List (Value × List UInt8)) : Prop where
  d : Pd w p q v L
  t : Blk w tb 28 tc
  im : RowsO w base iv dq
  tp : tb ∉ p :: L
def Far (p : Nat) (L : List Nat) (tb : Nat) (iv : Value) (dq : List (Value × List UInt8)) (k : Nat) : Prop := k ∉ p :: L ∧ k ≠ tb ∧ k ∉ blks iv ∧ ∀ x ∈ dq, k ∉ blks x.1
section
variable {w w' : World} {p q tb base : Nat} {v : Pv} {L G : List Nat} {tc : List Value} {iv : Value} {dq : List (Value × List UInt8)}
theorem Stay.keep (h : Stay w p q v L tb tc base iv dq) (hm : Mod G w w') (hG : ∀ k ∈ G, Far p L tb iv dq k) : Stay w' p q v L tb tc base iv dq :=
  ⟨h.d.keep hm (fun k hk hh => (hG k hh).1 hk), h.t.mod hm (fun hh => (hG tb hh).2.1 rfl),
    ⟨h.im.ow.mod hm (fun k hk hh => (hG k hh).2.2.1 hk), h.im.fam.mod hm (fun x hx k hk hh => (hG k hh).2.2.2 x hx hk), h.im.nw⟩, h.tp⟩
theorem Stay.ext (h : Stay w p q v L tb tc base iv dq) (hm : Mod [] w w') : Stay w' p q v L tb tc base iv dq := h.keep hm (fun _ hh => nomatch hh)
theorem Stay.new (h : Stay w p q v L tb tc base iv dq) {k : Nat} (hk : w.heap.size ≤ k) : Far p L tb iv dq k :=
  ⟨fun hh => by have := h.d.lt k hh; omega, fun e => by have := h.t.lt; omega, fun hh => by have := h.im.ow.lt k hh; omega, fun x hx hh => by have := Ow.lt (h.im.fam.ob x hx).1 k hh; omega⟩
end
theorem RowsO.nx {w : World} {base n : Nat} {v : Value} {L : List (Value × List UInt8)} (h : RowsO w base v L) (hl : L.length = n) : ∃ ao cap, v = .slice ao n cap ∧ n ≤ cap ∧ cap ≤ 9223372036854775807 := hl ▸ h.ow.sl.form
/-- what stays while a device that is down is asked -/
structure St5 (W w : World) (p q : Nat) (v : Pv) (L : List Nat) (tb : Nat) (tc : List Value) (base : Nat) (iv : Value) (dq : List (Value × List UInt8)) : Prop where
  d : Ps W w p q v L
  t : Blk w tb 28 tc
  im : RowsO w base iv dq
  ap : ∀ k ∈ p :: L, k ≠ tb ∧ k ∉ blks iv ∧ ∀ x ∈ dq, k ∉ blks x.1
section
variable {W w w' : World} {p q tb base : Nat} {v v' : Pv} {L L' G : List Nat} {tc : List Value} {iv : Value} {dq : List (Value × List UInt8)}
theorem St5.ext (h : St5 W w p q v L tb tc base iv dq) (hm : Mod [] w w') : St5 W w' p q v L tb tc base iv dq := ⟨h.d.ext hm, h.t.ext hm, h.im.ext hm, h.ap⟩
theorem St5.turn (h : St5 W w p q v L tb tc base iv dq) (hd : Pd w' p q v' L') (hm : Mod (p :: L) w w') (hL : ∀ k ∈ L', k ∈ L ∨ w.heap.size ≤ k) : St5 W w' p q v' L' tb tc base iv dq :=
  ⟨h.d.turn hd hm hL, h.t.mod hm (fun hh => (h.ap tb hh).1 rfl), ⟨h.im.ow.mod hm (fun k hk hh => (h.ap k hh).2.1 hk), h.im.fam.mod hm (fun x hx k hk hh => (h.ap k hh).2.2 x hx hk), h.im.nw⟩, fun k hk => by
    have hnew : w.heap.size ≤ k → k ≠ tb ∧ k ∉ blks iv ∧ ∀ x ∈ dq, k ∉ blks x.1 := fun h1 => ⟨fun e => by have := h.t.lt; omega, fun hh => by have := h.im.ow.lt k hh; omega, fun x hx hh => by have := Ow.lt (h.im.fam.ob x hx).1 k hh; omega⟩
    rcases List.mem_cons.1 hk with e | hk
    · exact h.ap k (by simp [e])
    · exact (hL k hk).elim (fun h1 => h.ap k (List.mem_cons_of_mem _ h1)) hnew⟩
end
theorem off_facts {v : Pv} (h : v.off = true) : v.go = false ∧ v.md = v := ⟨by unfold Pv.go; simp [h], by unfold Pv.md; rw [if_pos h]⟩
theorem down_now {v : Pv} (h : v.off = false) : (v.arm 0).sy.off = true ∧ (v.arm 0).sy.m = v.m ∧ (v.arm 0).sy.n = v.n := by
  have e : v.arm 0 = ⟨v.m, false, 0, v.n⟩ := by unfold Pv.arm; rw [if_neg (by rw [h]; decide), h]; rfl
  rw [e]
  exact ⟨rfl, rfl, rfl⟩
set_option maxRecDepth 1000000 in
set_option maxHeartbeats 16000000 in
theorem powerStays_core (s z : Int) (sv mv : Value) (os ps : List Pop) (W : World) (hs : Pops W sv os) (hp : Pops W mv ps) (ws : i64 s) (wz : i64 z) :
    Calls Tryz.prog 3 #[.int .i64 s, .int .i64 z, sv, mv] W fun e w' => e = .returned (.bool true) ∧ Mod [] W w' := by
  obtain ⟨hs1, hs2⟩ := hs
  obtain ⟨hp1, hp2⟩ := hp
  obtain ⟨aos, caps, rfl, hcs, hcs2⟩ := hs1.form
  obtain ⟨aop, capp, rfl, hcp, hcp2⟩ := hp1.form
  have hT := pops_take (k := min os.length 80) hs1 (Nat.min_le_left _ _)
  have hT2 : ∀ o ∈ os.take (min os.length 80), OkPop W o := fun o ho => hs2 o (List.mem_of_mem_take ho)
  have hTl : (os.take (min os.length 80)).length = min os.length 80 := by rw [List.length_take]; omega
  have FE := fun w => few6_any aos os.length caps w hcs hcs2
  obtain ⟨N, hN⟩ : ∃ N, N = min os.length 80 := ⟨_, rfl⟩
  obtain ⟨T, hTT⟩ : ∃ T, T = os.take N := ⟨_, rfl⟩
  rw [← hN] at FE hT hT2 hTl
  have hN80 : N ≤ 80 := by omega
  rw [← hTT] at hT hT2 hTl
  have hU := pops_take (k := min ps.length 80) hp1 (Nat.min_le_left _ _)
  have hU2 : ∀ o ∈ ps.take (min ps.length 80), OkPop W o := fun o ho => hp2 o (List.mem_of_mem_take ho)
  have hUl : (ps.take (min ps.length 80)).length = min ps.length 80 := by rw [List.length_take]; omega
  have FP := fun w => few6_any aop ps.length capp w hcp hcp2
  obtain ⟨K, hK⟩ : ∃ N, N = min ps.length 80 := ⟨_, rfl⟩
  obtain ⟨U, hUU⟩ : ∃ T, T = ps.take K := ⟨_, rfl⟩
  rw [← hK] at FP hU hU2 hUl
  have hK80 : K ≤ 80 := by omega
  rw [← hUU] at hU hU2 hUl
  clear hN hTT hs1 hs2 hcs hcs2 hK hUU hp1 hp2 hcp hcp2
  have AW := fun w => pwawake_any w
  have FR := fun w => fresh_any s z w ws wz
  unfold FreshP at FR
  go_enter Tryz.func3, Tryz.ntmps3
  go_wp2_with (first
                | (with_reducible refine st_alloc ?_)
                | (go_at_call 5; refine (AW _).mono ?_; rintro e w1 ⟨rfl, hm1⟩)
                | (go_at_call 6; refine (FR _).mono ?_; rintro e w2 ⟨p, q, p', q', L, M, m0, rfl, hP2, hrow⟩))
  refine StopOp.go rfl fun K hK => ?_
  refine wp_alloc zero_two ?_
  intro tb w3 ht1 ht2 hm3 hB3
  simp only [put_some, List.set_cons_succ, List.set_cons_zero]
  refine hK _ _ ?_
  clear hK K
  go_wp2_with (with_reducible refine st_store ?_)
  refine StopOp.go rfl fun K hK => ?_
  refine wp_store (u := .agg #[.pointer (some ⟨p, 0, none⟩), .pointer (some ⟨q, 0, none⟩), .pointer (some ⟨p', 0, none⟩)]) (by rfl) (by rfl) (by kernel_rfl) hB3 (by simp [Value.cells]) (by simp [Value.cells, Value.oneCell']) ?_
  intro w4 hm4 hB4
  refine hK _ _ ?_
  clear hK K
  have hT4 : Blk w4 tb 28 [.pointer (some ⟨p, 0, none⟩), .pointer (some ⟨q, 0, none⟩), .pointer (some ⟨p', 0, none⟩)] := hB4
  have htb : tb ∉ (p :: L) ++ (p' :: M) := fun hh => by have := hP2.lt tb hh; omega
  have hm24 : Mod [] w2 w4 := hm3.fresh hm4 (by simpa using ht1)
  have hP4 := (hP2.up hm1).ext hm24
  clear hB3 hB4 hm3 hm4 hP2 hm24 AW FR
  obtain ⟨v0, hv0⟩ : ∃ v : Pv, v = ⟨m0, false, -1, 0⟩ := ⟨_, rfl⟩
  have hn0 : v0.n = 0 := by rw [hv0]
  have hr0 : v0.m.row.length = 0 := by rw [hv0]; exact hrow
  rw [← hv0] at hP4
  clear hv0 hrow
  go_wp2_with (first
                | (go_at_call 7; (with_reducible refine (FE _).mono ?_); rintro e w5 ⟨rfl, rfl⟩)
                | (go_at_call 7; (with_reducible refine (FP _).mono ?_); rintro e w5 ⟨rfl, rfl⟩))
  clear FE FP
  go_loopw [11] (fun iv wr => ∃ (j : Nat) (v : Pv) (L M : List Nat), iv = .int .i64 j ∧ j ≤ N ∧ Pq W wr p q p' q' v v L M ∧ v.n ≤ j ∧ v.m.row.length ≤ j ∧ Blk wr tb 28 [.pointer (some ⟨p, 0, none⟩), .pointer (some ⟨q, 0, none⟩), .pointer (some ⟨p', 0, none⟩)] ∧ tb ∉ (p :: L) ++ (p' :: M)) (fun iv _ => N - (intOf iv).toNat)
  case atStart => exact ⟨0, v0, L, M, rfl, Nat.zero_le _, hP4, by omega, by omega, hT4, htb⟩
  case round =>
    clear hP4 hT4 htb hn0 hr0
    obtain ⟨j, v, L, M, rfl, hj, hP, hn, hr, hTb, htb⟩ := hrel
    by_cases hlt : j < N
    · have y1 : (j : Int) < N := by omega
      have hMW := hP.m
      have hjT : j < T.length := by omega
      obtain ⟨b, o, rfl, hcr⟩ := Pops.elem (Sl.ext hT hMW) hjT
      have hop := hT2 _ (List.getElem_mem hjT)
      obtain ⟨op, hop'⟩ : ∃ op, op = T[j] := ⟨_, rfl⟩
      rw [← hop'] at hcr hop
      clear hop'
      have hvn := stepV_n v op
      have ST := fun w h h7 h8 => step_any W w p q p' q' (some ⟨q, 0, none⟩) v L M op h hop (by omega) (by omega) h7 h8
      unfold StepP at ST
      obtain ⟨V, hV⟩ : ∃ V, V = stepV v op := ⟨_, rfl⟩
      rw [← hV] at ST hvn
      clear hV
      obtain ⟨k, n', a, bw, l, raw, fv', F'⟩ := op
      obtain ⟨aob, capb, hbe, _, _⟩ := hop.b.form
      obtain ⟨aoF, capF, hfe, _, _⟩ := hop.fs.form
      dsimp only at hbe hfe
      subst hbe hfe
      clear hop
      dsimp only [Pop.cells] at hcr ST
      have hcells := pop_cells hcr
      by_cases h7 : k = 7
      · subst h7
        have c0 := hcells.1
        go_wp2_with fail
        go_roundw
        case rel => exact ⟨j + 1, v, L, M, by go_num, by omega, hP, by omega, by omega, hTb, htb⟩
        case measure => simp [intOf]; omega
      by_cases h8 : k = 8
      · subst h8
        have c0 := hcells.1
        go_wp2_with fail
        go_roundw
        case rel => exact ⟨j + 1, v, L, M, by go_num, by omega, hP, by omega, by omega, hTb, htb⟩
        case measure => simp [intOf]; omega
      have x7 : (k != 7) = true := by simpa using h7
      have x8 : (k != 8) = true := by simpa using h8
      have c0 := hcells.1
      have SS := fun w h => ST w h h7 h8
      clear ST h7 h8 hcells
      go_wp2_with fail
      refine wp_region_T [⟨0, true, []⟩, ⟨1, true, []⟩, ⟨2, true, []⟩, ⟨3, true, []⟩, ⟨4, true, []⟩, ⟨5, false, []⟩] (by kernel_rfl) (by kernel_rfl) ?_
      have hmD := Mod.drew [] wr
      have hcr0 : wr.drew.rangeAt b (o + j * 6) _ := hcr
      obtain ⟨x0, hx0⟩ : ∃ x, x = wr.drew := ⟨_, rfl⟩
      rw [← hx0] at hmD hcr0 ⊢
      clear hx0 c0
      have hP0 := hP.ext hmD
      have hTb0 := hTb.ext hmD
      obtain ⟨c0, c1, c2, c3, c4, c5⟩ := pop_cells hcr0
      have t0 := hTb0.cell' (i := 0) rfl
      have t1 := hTb0.cell' (i := 1) rfl
      have t2 := hTb0.cell' (i := 2) rfl
      iterate 5 (refine wpT_n rfl rfl (fun K hK => ?_); go_wp2_with fail)
      refine wpT_call rfl rfl (fun K hK => ?_)
      go_wp2_with (go_at_call 8; refine (SS _ hP0).mono ?_; rintro e w6 ⟨L6, M6, rfl, hP6, hm6, hn6⟩)
      refine wpT_nil ?_
      go_wp2_with fail
      have s0 := hmD.size
      have hlt0 := hTb.lt
      go_roundw
      case rel => exact ⟨j + 1, V, L6, M6, by go_num, by omega, hP6, by omega, by omega, hTb0.mod hm6 htb, fun hh => (hn6 tb hh).elim htb (fun h => by omega)⟩
      case measure => simp [intOf]; omega
    · obtain rfl : j = N := by omega
      clear hlt hj hT hT2 hTl
      have CP := fun w h => pCopy_any p q v L w h (by omega)
      unfold PCopyP at CP
      have hd := hP.d
      have t0 := hTb.cell' (i := 0) rfl
      go_wp2_with (go_at_call 9; refine (CP _ hd).mono ?_; rintro e w6 ⟨c, qc, Lc, rfl, hC6, hcg, hm6⟩)
      refine wp_region_T [⟨0, true, []⟩, ⟨1, true, []⟩, ⟨3, true, []⟩, ⟨4, true, []⟩, ⟨6, true, []⟩, ⟨7, true, []⟩, ⟨9, true, []⟩, ⟨10, true, []⟩, ⟨2, false, [4, 7, 10]⟩, ⟨5, false, [7, 10]⟩, ⟨8, false, [10]⟩, ⟨11, false, []⟩, ⟨12, true, []⟩, ⟨13, true, []⟩, ⟨14, true, []⟩, ⟨15, true, []⟩] (by kernel_rfl) (by kernel_rfl) ?_
      have hmD := hm6.ext (Mod.drew [] w6)
      have hmD6 := Mod.drew [] w6
      obtain ⟨x0, hx0⟩ : ∃ x, x = w6.drew := ⟨_, rfl⟩
      rw [← hx0] at hmD hmD6 ⊢
      clear hx0 t0
      have hP0 := hP.ext hmD
      have hTb0 := hTb.ext hmD
      have hC0 := hC6.ext hmD6
      have hd0 := hP0.d
      have t0 := hTb0.cell' (i := 0) rfl
      have IM := fun w L h => pImage_any p q v L w h
      have WA := fun w L h => pWaiting_any p q v L w h
      have CO := fun w h => pCount_any p q v w h
      have DO := fun w h => pDown_any p q v w h
      unfold ImgPost at IM
      obtain ⟨bo, hbo⟩ : ∃ b, b = v.off := ⟨_, rfl⟩
      rw [← hbo] at DO
      have HBO := Lib.hid hbo
      clear hbo
      iterate 8 (refine wpT_n rfl rfl (fun K hK => ?_); go_wp2_with fail)
      refine wpT_callh rfl rfl (fun K hK => ?_)
      go_wp2_with (go_at_call 10; refine (IM _ _ hd0).mono ?_; rintro e w7 ⟨iv, dq, rfl, hr7, he7, hm7⟩)
      have AL : ∀ {a : Act} {o : Oper} {t : TypeId} {x : Operand}, o.op = .load t x → a.eval x = .pointer (some ⟨tb, 0, none⟩) → Again Tryz.prog o a x0 w7 := fun h1 h2 => again_load h1 h2 (hm7.block tb hTb0.lt (by simp)) hTb0.kinds
      refine ⟨agains_cons rfl (AL rfl rfl) (agains_cons rfl (AL rfl rfl) (agains_cons rfl (AL rfl rfl) agains_nil)), ?_⟩
      have hP7 := hP0.ext hm7
      have hTb7 := hTb0.ext hm7
      have hC7 := hC0.ext hm7
      have hd7 := hP7.d
      have hb7 := hd7.b
      refine wpT_callh rfl rfl (fun K hK => ?_)
      go_wp2_with (go_at_call 11; refine (WA _ _ hd7).mono ?_; rintro e w8 ⟨rfl, rfl⟩)
      refine ⟨agains_same, ?_⟩
      refine wpT_callh rfl rfl (fun K hK => ?_)
      go_wp2_with (go_at_call 12; refine (CO _ hb7).mono ?_; rintro e w8 ⟨rfl, rfl⟩)
      refine ⟨agains_same, ?_⟩
      refine wpT_call rfl rfl (fun K hK => ?_)
      go_wp2_with (go_at_call 13; refine (DO _ hb7).mono ?_; rintro e w8 ⟨rfl, rfl⟩)
      have t0' := hTb7.cell' (i := 0) rfl
      obtain ⟨nd, hnd⟩ : ∃ n, n = dq.length := ⟨_, rfl⟩
      obtain ⟨aoi, capi, rfl, _, _⟩ := hr7.nx hnd.symm
      have HE7 := Lib.hid (And.intro he7 hnd)
      clear he7 hnd
      iterate 4 (refine wpT_n rfl rfl (fun K hK => ?_); go_wp2_with fail)
      refine wpT_nil ?_
      go_wp2_with fail
      have hplt : ∀ k ∈ (p :: L) ++ (p' :: M), k < wr.heap.size := hP.lt
      have hwx : wr.heap.size ≤ x0.heap.size := hmD.size
      have hclt : ∀ k ∈ c :: Lc, k < x0.heap.size := fun k hk => Nat.lt_of_lt_of_le (hC6.lt k hk) hmD6.size
      have hQ7 : Pq W w7 c qc p' q' v v Lc M := ⟨hC7, hP7.r, fun k hk hh => by
        have := hcg k hk
        have := hplt k (List.mem_append_right _ hh)
        omega, hP7.m, fun k hk => by have := hcg k hk; have := hP.m.size; omega, hP.g2⟩
      have hS7 : Stay w7 p q v L tb [.pointer (some ⟨p, 0, none⟩), .pointer (some ⟨q, 0, none⟩), .pointer (some ⟨p', 0, none⟩)] x0.heap.size (.slice aoi nd capi) dq := ⟨hd7, hTb7, hr7, fun hh => htb (List.mem_append_left _ hh)⟩
      have hold : ∀ k, k < x0.heap.size → k ∉ blks (.slice aoi nd capi) ∧ ∀ x ∈ dq, k ∉ blks x.1 := fun k hk => ⟨fun hh => by have := hr7.nw k hh; omega, fun x hx hh => by have := (hr7.fam.ob x hx).2 k hh; omega⟩
      have hF7 : ∀ k ∈ (c :: Lc) ++ (p' :: M), Far p L tb (.slice aoi nd capi) dq k := fun k hk => by
        have htl := hTb.lt
        rcases List.mem_append.1 hk with hk | hk
        · have h1 := hcg k hk
          exact ⟨fun hh => by have := hplt k (List.mem_append_left _ hh); omega, by omega, hold k (hclt k hk)⟩
        · have h1 := hplt k (List.mem_append_right _ hk)
          exact ⟨fun hh => hP.ap k hh hk, fun e => htb (e ▸ List.mem_append_right _ hk), hold k (by omega)⟩
      have hF5 : ∀ k ∈ p :: L, k ≠ tb ∧ k ∉ blks (.slice aoi nd capi) ∧ ∀ x ∈ dq, k ∉ blks x.1 := fun k hk => by
        have h1 := hplt k (List.mem_append_left _ hk)
        exact ⟨fun e => htb (e ▸ List.mem_append_left _ hk), hold k (by omega)⟩
      have hg1 := hP.g1
      clear hC6 hcg hm6 hmD hmD6 hP0 hTb0 hC0 hd0 t0 hP7 hTb7 hC7 hd7 hb7 t0' hm7 hr7 hplt hwx hclt hold hP hTb htb hd AL CP
      go_loopw [17, 18] (fun iv xv wr => ∃ (j : Nat) (u : Pv) (Lc M : List Nat), iv = .int .i64 j ∧ j ≤ K ∧ Pq W wr c qc p' q' u u Lc M ∧ u.n ≤ 80 + j ∧ u.m.row.length ≤ 80 + j ∧ Stay wr p q v L tb [.pointer (some ⟨p, 0, none⟩), .pointer (some ⟨q, 0, none⟩), .pointer (some ⟨p', 0, none⟩)] x0.heap.size (.slice aoi nd capi) dq ∧ (∀ k ∈ (c :: Lc) ++ (p' :: M), Far p L tb (.slice aoi nd capi) dq k)) (fun iv _ _ => K - (intOf iv).toNat)
      case atStart => exact ⟨0, v, Lc, M, rfl, Nat.zero_le _, hQ7, by omega, by omega, hS7, hF7⟩
      case round =>
        clear hQ7 hS7 hF7
        obtain ⟨j, u, Lc, M, rfl, hj, hQ, hun, hur, hS, hF⟩ := hrel
        by_cases hlt : j < K
        · have y1 : (j : Int) < K := by omega
          have hMW := hQ.m
          have hjT : j < U.length := by omega
          obtain ⟨b, o, rfl, hcr⟩ := Pops.elem (Sl.ext hU hMW) hjT
          have hop := hU2 _ (List.getElem_mem hjT)
          obtain ⟨op, hop'⟩ : ∃ op, op = U[j] := ⟨_, rfl⟩
          rw [← hop'] at hcr hop
          have hvn := stepV_n u op
          have ST := fun w h h7 h8 => step_any W w c qc p' q' none u Lc M op h hop (by omega) (by omega) h7 h8
          unfold StepP at ST
          obtain ⟨V, hV⟩ : ∃ V, V = stepV u op := ⟨_, rfl⟩
          rw [← hV] at ST hvn
          clear hV
          obtain ⟨k, n', a, bw, l, raw, fv', F'⟩ := op
          obtain ⟨aob, capb, hbe, _, _⟩ := hop.b.form
          obtain ⟨aoF, capF, hfe, _, _⟩ := hop.fs.form
          dsimp only at hbe hfe
          subst hbe hfe
          have hOPJ := Lib.hid hop'
          clear hop hop'
          dsimp only [Pop.cells] at hcr ST
          have t2 := hS.t.cell' (i := 2) rfl
          go_wp2_with (with_reducible refine st_alloc ?_)
          refine StopOp.go rfl fun K hK => ?_
          refine wp_alloc zero_two ?_
          intro g w3 hg1' hg2 hm3 hB3
          simp only [put_some, List.set_cons_succ, List.set_cons_zero]
          refine hK _ _ ?_
          clear hK K
          go_wp2_with (with_reducible refine st_store ?_)
          refine StopOp.go rfl fun K hK => ?_
          refine wp_store (u := .agg #[.pointer (some ⟨c, 0, none⟩), .pointer none, .pointer (some ⟨p', 0, none⟩)]) (by rfl) (by rfl) (by kernel_rfl) hB3 (by simp [Value.cells]) (by simp [Value.cells, Value.oneCell']) ?_
          intro w4 hm4 hB4
          refine hK _ _ ?_
          clear hK K
          have hX4 : Blk w4 g 28 [.pointer (some ⟨c, 0, none⟩), .pointer none, .pointer (some ⟨p', 0, none⟩)] := hB4
          have hm04 : Mod [] wr w4 := hm3.fresh hm4 (by simpa using hg1')
          have hcr4 : w4.rangeAt b (o + j * 6) _ := fun i x hi => by
            obtain ⟨b', o', he', hcr'⟩ := Pops.elem (Sl.ext hU (hMW.ext hm04)) hjT
            injection he' with he'
            injection he' with e1 e2
            subst e1 e2
            rw [← hOPJ.out] at hcr'
            exact hcr' i x hi
          have hcells := pop_cells hcr4
          have hQ4 := hQ.ext hm04
          have hS4 := hS.ext hm04
          clear hB3 hB4 hm3 hm4 t2 hcr
          by_cases h7 : k = 7
          · subst h7
            have c0 := hcells.1
            go_wp2_with fail
            go_roundw
            case rel => exact ⟨j + 1, u, Lc, M, by go_num, by omega, hQ4, by omega, by omega, hS4, hF⟩
            case measure => simp [intOf]; omega
          by_cases h8 : k = 8
          · subst h8
            have c0 := hcells.1
            go_wp2_with fail
            go_roundw
            case rel => exact ⟨j + 1, u, Lc, M, by go_num, by omega, hQ4, by omega, by omega, hS4, hF⟩
            case measure => simp [intOf]; omega
          have x7 : (k != 7) = true := by simpa using h7
          have x8 : (k != 8) = true := by simpa using h8
          have c0 := hcells.1
          have SS := fun w h => ST w h h7 h8
          clear ST h7 h8 hcells
          go_wp2_with fail
          refine wp_region_T [⟨0, true, []⟩, ⟨1, true, []⟩, ⟨2, true, []⟩, ⟨3, true, []⟩, ⟨4, true, []⟩, ⟨5, false, []⟩] (by kernel_rfl) (by kernel_rfl) ?_
          have hmD := Mod.drew [] w4
          have hcr0 : w4.drew.rangeAt b (o + j * 6) _ := hcr4
          obtain ⟨x5, hx5⟩ : ∃ x, x = w4.drew := ⟨_, rfl⟩
          rw [← hx5] at hmD hcr0 ⊢
          clear hx5 c0
          have hQ5 := hQ4.ext hmD
          have hS5 := hS4.ext hmD
          have hX5 := hX4.ext hmD
          obtain ⟨c0, c1, c2, c3, c4, c5⟩ := pop_cells hcr0
          have t0 := hX5.cell' (i := 0) rfl
          have t1 := hX5.cell' (i := 1) rfl
          have t2 := hX5.cell' (i := 2) rfl
          iterate 5 (refine wpT_n rfl rfl (fun K hK => ?_); go_wp2_with fail)
          refine wpT_call rfl rfl (fun K hK => ?_)
          go_wp2_with (go_at_call 8; refine (SS _ hQ5).mono ?_; rintro e w6 ⟨L6, M6, rfl, hQ6, hm6, hn6⟩)
          refine wpT_nil ?_
          go_wp2_with fail
          go_roundw
          case rel => exact ⟨j + 1, V, L6, M6, by go_num, by omega, hQ6, by omega, by omega, hS5.keep hm6 hF, fun k hk => (hn6 k hk).elim (hF k) (fun h => hS5.new h)⟩
          case measure => simp [intOf]; omega
        · obtain rfl : j = K := by omega
          clear hlt hj hF
          have hdS := hS.d
          have t0 := hS.t.cell' (i := 0) rfl
          have hMW := hQ.m
          clear hQ hun hur
          go_upto_region 24 with (first
                        | (go_at_call 10; refine (IM _ _ hdS).mono ?_; rintro e w8 ⟨iv2, dq2, rfl, hr8, he8, hm8⟩; have HE8 := Lib.hid he8; clear he8; have hl2 : dq2.length = nd := (by have h1 := congrArg List.length HE8.out; have h2 := congrArg List.length HE7.out.1; rw [List.length_map] at h1 h2; rw [HE7.out.2, h1, h2]); obtain ⟨aoi2, capi2, rfl, _, _⟩ := hr8.nx hl2; have hS8 := hS.ext hm8; have r1 := hr8.r; have r2 := hS8.im.r)
                        | (go_at_call 14; refine ((sameRows_yes dq2 dq (.slice aoi2 nd capi2) (.slice aoi nd capi) _ r1 r2 (HE8.out.trans HE7.out.1.symm))).mono ?_; rintro e w9 ⟨rfl, hm9⟩; have hS9 := hS8.ext hm9; have t9 := hS9.t.cell' (i := 0) rfl; have hd9 := hS9.d; have hb9 := hd9.b)
                        | (go_at_call 11; refine (WA _ _ hd9).mono ?_; rintro e w10 ⟨rfl, rfl⟩)
                        | (go_at_call 12; refine (CO _ hb9).mono ?_; rintro e w10 ⟨rfl, rfl⟩)
                        | (go_at_call 13; refine (DO _ hb9).mono ?_; rintro e w10 ⟨rfl, rfl⟩))
          have hM9 := (hMW.ext hm8).ext hm9
          have h59 : St5 W w9 p q v L tb [.pointer (some ⟨p, 0, none⟩), .pointer (some ⟨q, 0, none⟩), .pointer (some ⟨p', 0, none⟩)] x0.heap.size (.slice aoi nd capi) dq := ⟨⟨hS9.d, hM9, hg1 p List.mem_cons_self, fun k hk => hg1 k (List.mem_cons_of_mem _ hk)⟩, hS9.t, hS9.im, hF5⟩
          clear hS hS8 hS9 r1 r2 hm8 hm9 hr8 HE8 t0 hdS hd9 hb9 hMW hF5 hg1 t9 DO
          go_upto_if 138 with fail
          go_cut [] (fun wx => ∃ (v1 : Pv) (L1 : List Nat), St5 W wx p q v1 L1 tb [.pointer (some ⟨p, 0, none⟩), .pointer (some ⟨q, 0, none⟩), .pointer (some ⟨p', 0, none⟩)] x0.heap.size (.slice aoi nd capi) dq ∧ v1.off = true ∧ v1.m = v.m ∧ v1.n = v.n)
          case first =>
            cases bo with
            | true =>
              go_wp2_with fail
              go_meet
              exact ⟨v, L, h59, HBO.out.symm, rfl, rfl⟩
            | false =>
              have hdn := down_now (v := v) HBO.out.symm
              have AR := fun w h => pArm_any p q v L 0 w h (by omega)
              rw [← HBO.out, if_neg (by decide)] at AR
              have hv0n : (v.arm 0).n = v.n ∧ (v.arm 0).m = v.m := by unfold Pv.arm; split <;> exact ⟨rfl, rfl⟩
              have SY := fun w h => pSync_any p q (v.arm 0) L w h (by rw [hv0n.1]; omega) (by rw [hv0n.2]; omega)
              obtain ⟨V0, hV0⟩ : ∃ x, x = v.arm 0 := ⟨_, rfl⟩
              rw [← hV0] at AR SY hdn
              have HDN := Lib.hid hdn
              clear hV0 hv0n hdn
              have hd9 := h59.d.d
              have t9 := h59.t.cell' (i := 0) rfl
              go_wp2_with (first
                            | (go_at_call 15; refine (AR _ hd9).mono ?_; rintro e w10 ⟨rfl, hP10, hm10⟩; have h510 := h59.turn hP10 (hm10.weak (by simp)) (fun k hk => .inl hk); have t10 := h510.t.cell' (i := 0) rfl)
                            | (go_at_call 16; refine (SY _ hP10).mono ?_; rintro e w11 ⟨rfl, hp11⟩))
              obtain ⟨L11, k1, k2, k3⟩ := hp11
              go_meet
              exact ⟨_, L11, h510.turn k1 k2 k3, HDN.out⟩
          case rest =>
          obtain ⟨v1, L1, h5, ho1, hm1', hn1⟩ := hcut
          clear h59 hM9
          have CO1 := fun w h => pCount_any p q v1 w h
          rw [hn1] at CO1
          have t0 := h5.t.cell' (i := 0) rfl
          have hb := h5.d.d.b
          have HV1 := Lib.hid (And.intro ho1 (And.intro hm1' hn1))
          clear ho1 hm1' hn1 CO
          go_wp2_with (go_at_call 12; refine (CO1 _ hb).mono ?_; rintro e w10 ⟨rfl, rfl⟩)
          have hg11 : v1.go = false ∧ v1.md = v1 := off_facts HV1.out.1
          have harm : ∀ a, v1.arm a = v1 := fun a => by unfold Pv.arm; rw [if_pos HV1.out.1]
          have hn4 : v1.n ≤ 1000000 := by have := HV1.out.2.2; omega
          have hr4 : v1.m.row.length ≤ 1000000 := by have := HV1.out.2.1; rw [this]; omega
          have HG := Lib.hid (And.intro hg11 (And.intro harm (And.intro hn4 hr4)))
          clear hg11 harm hn4 hr4 t0 hb
          go_loopw [19, 20, 21, 22] (fun iv _ _ _ wr => ∃ (i : Nat) (L1 : List Nat), iv = .int .i64 i ∧ i ≤ j ∧ St5 W wr p q v1 L1 tb [.pointer (some ⟨p, 0, none⟩), .pointer (some ⟨q, 0, none⟩), .pointer (some ⟨p', 0, none⟩)] x0.heap.size (.slice aoi nd capi) dq) (fun iv _ _ _ _ => j - (intOf iv).toNat)
          case atStart => exact ⟨0, L1, rfl, Nat.zero_le _, h5⟩
          case round =>
            clear h5
            obtain ⟨i, L1, rfl, hi, h5⟩ := hrel
            by_cases hlt : i < j
            · have y1 : (i : Int) < j := by omega
              have hMW := h5.d.m
              have hjT : i < U.length := by omega
              obtain ⟨b, o, rfl, hcr⟩ := Pops.elem (Sl.ext hU hMW) hjT
              have hop := hU2 _ (List.getElem_mem hjT)
              obtain ⟨op, hop'⟩ : ∃ op, op = U[i] := ⟨_, rfl⟩
              rw [← hop'] at hcr hop
              clear hop'
              have hno := normO_ok hop
              have hkn : normO op = if op.k = 1 ∨ op.k = 2 then op else { op with k := 3 } := rfl
              obtain ⟨op2, hop2⟩ : ∃ x, x = normO op := ⟨_, rfl⟩
              rw [← hop2] at hno hkn
              clear hop2
              obtain ⟨k, n', a, bw, l, raw, fv', F'⟩ := op
              obtain ⟨aob, capb, hbe, _, _⟩ := hop.b.form
              obtain ⟨aoF, capF, hfe, _, _⟩ := hop.fs.form
              dsimp only at hbe hfe hkn
              subst hbe hfe
              clear hop
              dsimp only [Pop.cells] at hcr
              go_wp2_with (with_reducible refine st_load 35 ?_)
              refine StopOp.go rfl fun K hK => ?_
              refine wp_load_mid 35 _ rfl b (o + i * 6) (by rfl) [.int .i64 k, .int .i64 n', .int .i64 a, .slice aob l.length capb, .bool raw, .slice aoF F'.length capF] _ hcr Tryz.underlying35 rfl (by kernel_rfl) ?_
              simp only [put_some, List.set_cons_succ, List.set_cons_zero]
              refine hK _ _ ?_
              clear hK K
              go_wp2_with (with_reducible refine st_alloc ?_)
              refine StopOp.go rfl fun K hK => ?_
              refine wp_alloc zero_pop ?_
              intro g w2 hg1 hg2 hm2 hB2
              simp only [put_some, List.set_cons_succ, List.set_cons_zero]
              refine hK _ _ ?_
              clear hK K
              go_wp2_with (with_reducible refine st_store ?_)
              refine StopOp.go rfl fun K hK => ?_
              refine wp_store (u := .agg #[.int .i64 k, .int .i64 n', .int .i64 a, .slice aob l.length capb, .bool raw, .slice aoF F'.length capF]) (by rfl) (by rfl) (by kernel_rfl) hB2 (by simp [Value.cells]) (by simp [Value.cells, Value.oneCell']) ?_
              intro w3 hm3 hB3
              refine hK _ _ ?_
              clear hK K
              have hm23 : Mod [] wr w3 := hm2.fresh hm3 (by simpa using hg1)
              have hG : Blk w3 g 35 [.int .i64 k, .int .i64 n', .int .i64 a, .slice aob l.length capb, .bool raw, .slice aoF F'.length capF] := hB3
              clear hB2 hB3 hm2 hm3 hcr
              obtain ⟨c, hc⟩ : ∃ c, c = decide (k ≠ 1 ∧ k ≠ 2) := ⟨_, rfl⟩
              have HC := Lib.hid hc
              have HKN := Lib.hid hkn
              clear hc hkn
              have c0 := hG.cell' (i := 0) rfl
              go_upto_region 32 with fail
              go_cut [165] (fun x wx => x = .bool c ∧ w3 = wx)
              case first =>
                by_cases h1 : k = 1
                · subst h1
                  go_wp2_with fail
                  go_meet
                  exact ⟨by rw [HC.out]; rfl, rfl⟩
                · have e1 : (k == 1) = false := by rw [beq_eq_false_iff_ne]; exact h1
                  by_cases h2 : k = 2
                  · subst h2
                    go_wp2_with fail
                    go_meet
                    exact ⟨by rw [HC.out]; rfl, rfl⟩
                  · have e2 : (k == 2) = false := by rw [beq_eq_false_iff_ne]; exact h2
                    go_wp2_with fail
                    go_meet
                    exact ⟨by rw [HC.out, decide_eq_true ⟨h1, h2⟩]; simp [bne, e1, e2], rfl⟩
              case rest =>
              obtain ⟨rfl, rfl⟩ := hcut
              go_upto_if 165 with fail
              go_cut [] (fun wx => Blk wx g 35 op2.cells ∧ Mod [g] w3 wx)
              case first =>
                cases c with
                | false =>
                  go_wp2_with fail
                  go_meet
                  have hk : k = 1 ∨ k = 2 := by have := of_decide_eq_false HC.out.symm; omega
                  rw [HKN.out, if_pos hk]
                  exact ⟨hG, Mod.refl _ _⟩
                | true =>
                  have hk : ¬ (k = 1 ∨ k = 2) := by have := of_decide_eq_true HC.out.symm; omega
                  go_wp2_with (with_reducible refine st_store ?_)
                  refine StopOp.go rfl fun K hK => ?_
                  refine wp_store1 (by kernel_rfl) (by rfl) (u := .int .i64 3) (by rfl) ⟨rfl, rfl⟩ hG (by simp) ?_
                  intro w4 hm4 hB4
                  refine hK _ _ ?_
                  clear hK K
                  go_wp2_with fail
                  go_meet
                  rw [HKN.out, if_neg hk]
                  exact ⟨hB4, hm4⟩
              case rest =>
              obtain ⟨hG2, hm34⟩ := hcut
              have hm24 := hm23.fresh hm34 (by simpa using hg1)
              have h54 := h5.ext hm24
              clear HC HKN hG hm23 hm34 c0
              obtain ⟨k', n2, a2, bw2, l2, raw2, fv2, F2⟩ := op2
              obtain ⟨aob2, capb2, hbe, _, _⟩ := hno.b.form
              obtain ⟨aof2, capf2, hfe, _, _⟩ := hno.fs.form
              dsimp only at hbe hfe
              subst hbe hfe
              have ha2 := hno.a.2
              dsimp only at ha2
              obtain ⟨o2, ho2⟩ : ∃ x : Pop, x = ⟨k', n2, a2, .slice aob2 l2.length capb2, l2, raw2, .slice aof2 F2.length capf2, F2⟩ := ⟨_, rfl⟩
              have hcells : o2.cells = [.int .i64 k', .int .i64 n2, .int .i64 a2, .slice aob2 l2.length capb2, .bool raw2, .slice aof2 F2.length capf2] := by rw [ho2]; rfl
              rw [← ho2] at hno hG2
              rw [hcells] at hG2
              have AS := fun w h => asks_any W w p q v1 L1 o2 h hno HG.out.2.2.1 HG.out.2.2.2
              unfold AskP at AS
              rw [hcells, e_no HG.out.1.1, askB_no HG.out.1.1, askV_no HG.out.1.1, HG.out.1.2] at AS
              have AR := fun w L h => pArm_any p q v1 L a2 w h ha2
              rw [HG.out.2.1, HV1.out.1, if_pos rfl] at AR
              clear ho2 hcells
              have x0 := hG2.cell' (i := 0) rfl
              have x1 := hG2.cell' (i := 1) rfl
              have x2 := hG2.cell' (i := 2) rfl
              have x3 := hG2.cell' (i := 3) rfl
              have x4 := hG2.cell' (i := 4) rfl
              have x5 := hG2.cell' (i := 5) rfl
              have t0 := h54.t.cell' (i := 0) rfl
              have hP4 := h54.d
              have hgL : g ∉ p :: L1 := fun hh => by have := h5.d.d.lt g hh; omega
              go_wp2_with (first
                            | (go_at_call 17; refine (AS _ hP4).mono ?_; rintro e w5 ⟨rv, L5, rfl, ho5, hn5, hP5, hm5, hL5⟩; obtain ⟨aov, capv, rfl, _, _⟩ := Ob.n (n := 0) ho5 rfl; have h55 := h54.turn hP5.d hm5 hL5; have t5 := h55.t.cell' (i := 0) rfl; have hG5 := hG2.mod hm5 hgL; have g5 := hG5.cell' (i := 2) rfl; have hd5 := h55.d.d)
                            | (go_at_call 15; refine (AR _ _ hd5).mono ?_; rintro e w6 ⟨rfl, hP6, hm6⟩; have h56 := h55.turn hP6 (hm6.weak (by simp)) (fun k hk => .inl hk)))
              go_roundw
              case rel => exact ⟨i + 1, L5, by go_num, by omega, h56⟩
              case measure => simp [intOf]; omega
            · obtain rfl : i = j := by omega
              have IM1 := fun w L h => pImage_any p q v1 L w h
              have WA1 := fun w L h => pWaiting_any p q v1 L w h
              have CO1 := fun w h => pCount_any p q v1 w h
              have DO1 := fun w h => pDown_any p q v1 w h
              unfold ImgPost at IM1
              rw [HV1.out.1] at DO1
              rw [HV1.out.2.1] at IM1 WA1
              rw [HV1.out.2.2] at CO1
              have t0 := h5.t.cell' (i := 0) rfl
              have hb := h5.d.d.b
              have hd := h5.d.d
              go_wp2_with (first
                            | (go_at_call 13; refine (DO1 _ hb).mono ?_; rintro e w7 ⟨rfl, rfl⟩)
                            | (go_at_call 10; refine (IM1 _ _ hd).mono ?_; rintro e w8 ⟨iv3, dq3, rfl, hr8, he8, hm8⟩; have HE8 := Lib.hid he8; clear he8; have hl2 : dq3.length = nd := (by have h1 := congrArg List.length HE8.out; have h2 := congrArg List.length HE7.out.1; rw [List.length_map] at h1 h2; rw [HE7.out.2, h1, h2]); obtain ⟨aoi3, capi3, rfl, _, _⟩ := hr8.nx hl2; have h58 := h5.ext hm8; have r1 := hr8.r; have r2 := h58.im.r)
                            | (go_at_call 14; refine ((sameRows_yes dq3 dq (.slice aoi3 nd capi3) (.slice aoi nd capi) _ r1 r2 (HE8.out.trans HE7.out.1.symm))).mono ?_; rintro e w9 ⟨rfl, hm9⟩; have h59 := h58.ext hm9; have t9 := h59.t.cell' (i := 0) rfl; have hd9 := h59.d.d; have hb9 := hd9.b)
                            | (go_at_call 11; refine (WA1 _ _ hd9).mono ?_; rintro e w10 ⟨rfl, rfl⟩)
                            | (go_at_call 12; refine (CO1 _ hb9).mono ?_; rintro e w10 ⟨rfl, rfl⟩))
              go_ret
              exact ⟨rfl, h59.d.m⟩
end Go.Proofs.YtdmnogmhnhjdgaaGreat
