import Derived.Test.YtboigcnpamldlaaDoorFrK
/-! Frames: the law's own told. -/
set_option linter.unusedVariables false
set_option linter.unusedSimpArgs false
set_option maxRecDepth 100000
namespace Go.Proofs.YtboigcnpamldlaaDoor
open Go.RowKit Gw
attribute [local go_sem] Oper.semAt_some

theorem run_equalIn_fn_nil {P : Program} (w : World) (d : Nat) (t : TypeId) (f : Fn) (g c : Array Value) {ps rs : Array TypeId} {vr : Bool} (h : P.underlying t = some (.func ps rs vr)) : (Op.equalIn (d + 1) t (.func f g c) .nilFunc).run P w = .ok false w := by
  simp [Op.equalIn, run_underlying h]
theorem run_eql_fn_nil {P : Program} (w : World) (t : TypeId) (f : Fn) (g c : Array Value) {ps rs : Array TypeId} {vr : Bool} (h : P.underlying t = some (.func ps rs vr)) : (binOp .eql t (.func f g c) .nilFunc).run P w = .ok (.bool false) w := by
  simp only [binOp]
  simp [Op.equal, Op.maxDepth, run_equalIn_fn_nil w 9999 t f g c h]
theorem run_eql_seq_nil (w : World) (f : Fn) (g c : Array Value) : (binOp .eql 45 (.func f g c) .nilFunc).run Tryd.prog w = .ok (.bool false) w :=
  run_eql_fn_nil w _ f g c Tryd.underlying45
attribute [local go_sem] run_eql_seq_nil
theorem Ech.apartI {w : World} {bs bb be : Nat} {vb : Value} {b : List UInt8} {e s : Nat} (h : Ech w bs bb be vb b e s) {sz n : Nat} {v : Value} {xs : List Value} (hv : Ow w 3 sz v n xs) : ∀ k ∈ EchL bs bb be vb, k ∉ blks v := fun k hk => by
  simp only [EchL, List.mem_cons] at hk
  rcases hk with rfl | rfl | rfl | hk
  · exact hv.ne h.cs (by decide)
  · exact hv.ne h.cb (by decide)
  · exact hv.ne h.ce (by decide)
  · exact ow_far h.cv hv (by decide) k hk
theorem zero_ints : (Tryd.prog.info? 47).map (·.zero) = some (some (.slice none 0 0)) := by kernel_rfl
def ToldP (b : List UInt8) (e s : Nat) (w : World) (en : Ending) (w' : World) : Prop :=
  ∃ v pv L, en = .returned (.tuple #[v, pv, .bool true]) ∧ L.map Fi.d = rowS b e s 0 ∧ Frs w' w.heap.size v L ∧ Ow w' 3 1 pv L.length (iN (L.map Fi.p)) ∧ (∀ k ∈ blks pv, w.heap.size ≤ k) ∧ Mod [] w w'
def ToldI (w : World) (bo bn bs bb be : Nat) (vb : Value) (b : List UInt8) (e s : Nat) (pre : List Fi) (W : World) : Prop :=
  Ech W bs bb be vb b e s ∧ ∃ v pv, Blk W bo 41 [v] ∧ Blk W bn 47 [pv] ∧ Frs W w.heap.size v pre ∧ Ow W 3 1 pv pre.length (iN (pre.map Fi.p)) ∧ (∀ k ∈ blks pv, w.heap.size ≤ k) ∧ Mod [] w W
set_option maxRecDepth 1000000 in
set_option maxHeartbeats 8000000 in
theorem told_any (b : List UInt8) (e s : Nat) (v : Value) (w : World) (hb : Bs w v b) (hl : b.length ≤ 1099511627776) (hs : s < 18446744073709551616) (he : e < 18446744073709551616) (hT : TabC w) :
    Calls Tryd.prog 30 #[v, .int .u64 (e : Nat), .int .u64 (s : Nat)] w (ToldP b e s w) := by
  obtain ⟨ao, cap, rfl, hc1, hc2⟩ := hb.form
  refine (callsIn_wide (n := 9)).1 ?_
  refine callsIn_of_wp_marks Tryd.func30 rfl trivial ?_ rfl
  simp only [Tryd.ntmps30, List.size_toArray, List.length_cons, List.length_nil, Nat.reduceAdd, Nat.reduceSub, Array.replicate_succ, Array.replicate_zero, List.push_toArray, List.append_toArray, List.nil_append, List.cons_append]
  have EA := fun w h => each_any b e s (.slice ao b.length cap) w h (by omega)
  unfold EachP at EA
  repeat (first
                | (with_reducible refine si_alloc ?_)
                | go_values
                | gi_guarded
                | gi_step
                | gi_upon
                | gi_back
                | (simp only [Int.not_lt, Int.not_le] at *; go_simp))
  refine StopIn.go wd_wide rfl (fun _ => by intro h; cases h) fun K hK => ?_
  refine wp_alloc zero_frs ?_
  intro bo w1 ho1 ho2 hm1 hB1
  simp only [put_some, List.set_cons_succ, List.set_cons_zero]
  refine hK _ _ ?_
  clear hK K
  repeat (first
                | (with_reducible refine si_alloc ?_)
                | go_values
                | gi_guarded
                | gi_step
                | gi_upon
                | gi_back
                | (simp only [Int.not_lt, Int.not_le] at *; go_simp))
  refine StopIn.go wd_wide rfl (fun _ => by intro h; cases h) fun K hK => ?_
  refine wp_alloc zero_ints ?_
  intro bn w3 hn1 hn2 hm2 hB2
  simp only [put_some, List.set_cons_succ, List.set_cons_zero]
  refine hK _ _ ?_
  clear hK K
  have hm13 : Mod [] w w3 := hm1.ext hm2
  have hb3 := hb.ext hm13
  have hO3 : Blk w3 bo 41 [.slice none 0 0] := Blk.ext hB1 hm2
  have hN3 : Blk w3 bn 47 [.slice none 0 0] := hB2
  repeat (first
                | ((first | ((with_reducible refine And.intro ?ga (And.intro ?gb ?_)); (case ga => exact trivial); (case gb => exact (fun hh => nomatch hh))) | ((with_reducible refine And.intro ?ga ?_); (case ga => exact trivial))); gi_at_call 26; refine ((wd_wide).calls (EA _ hb3)).mono ?_; rintro e w4 ⟨bs, bb, be, vb, rfl, hE4, hnE, hm4⟩; dsimp only)
                | go_values
                | gi_guarded
                | gi_step
                | gi_upon
                | gi_back
                | (simp only [Int.not_lt, Int.not_le] at *; go_simp))
  have hT4 := hT.ext (hm13.ext hm4)
  have hw04 := (hm13.ext hm4).size
  have h0 : ToldI w bo bn bs bb be vb b e s [] w4 := ⟨hE4, .slice none 0 0, .slice none 0 0, hO3.ext hm4, hN3.ext hm4, Frs.nil _ _, Ow.nil _ _ _, by simp [blks], hm13.ext hm4⟩
  have hLlt : ∀ k ∈ 0 :: EchL bs bb be vb, k < w4.heap.size := fun k hk => (List.mem_cons.1 hk).elim (fun e => e ▸ hT4.1) (hE4.lt k)
  have hLo : ∀ k ∈ 0 :: EchL bs bb be vb, k ≠ bo ∧ k ≠ bn ∧ k < w4.heap.size ∧ (k = 0 ∨ w3.heap.size ≤ k) := fun k hk => by
    have h9 := hT.1
    have := hm1.size
    have := hO3.lt
    have := hN3.lt
    rcases List.mem_cons.1 hk with rfl | hk
    · exact ⟨by omega, by omega, hT4.1, .inl rfl⟩
    · have := hnE k hk
      exact ⟨by omega, by omega, hE4.lt k hk, .inr this⟩
  refine wpIn_rangeFuncP rfl (by decide) (gf := 52) rfl trivial (ent Tryd.func52 (by kernel_rfl) rfl)
    (each1_seq 8 w4 bs bb be vb b e s hE4 hs he (by omega) hT4) (fun h k => h.trans k) (fun B W l o' h1 h2 => KpL.of_mod (Mod.putObj W l o') (fun k hk => by
      have e : k = l := by simpa using hk
      subst e
      exact ⟨fun hh => by have := hLlt k hh; omega, .inl h2⟩)) (Mod.refl _ _) (fun _ => rfl)
    (ToldI w bo bn bs bb be vb b e s) (fun _ _ _ => False)
    (fun pre W W' M hI hM hm => by
      obtain ⟨h0, v, pv, h1, h2, h3, h5, h6, h4⟩ := hI
      exact ⟨h0.mod hm (fun k hk hh => by
        obtain ⟨o, ho, hc⟩ := h0.cells k hk
        obtain ⟨_, o', ho', hc'⟩ := hM k hh
        rw [ho] at ho'
        cases ho'
        rw [hc] at hc'
        cases hc'), v, pv, h1.mod hm (notin_of hM h1), h2.mod hm (notin_of hM h2), h3.ab hM hm, h5.mod hm (notin_ow hM h5), h6, h4.fresh hm (fun g hg => by have := (hM g hg).1; have := (hm13.ext hm4).size; omega)⟩)
    (fun _ _ _ _ _ h _ _ => h) h0 ?round ?done ?stop
  case round =>
    rintro l pre x W0 W hl0 hrec ⟨hEc, vo, vp, hbo, hbn, hfr, hin, hnn, hmw⟩ hmW ⟨hox, hnx, hpf⟩ hlen
    obtain ⟨p, vx, f⟩ := x
    dsimp only at hox hnx
    obtain ⟨aox, capx, rfl, hcx1, hcx2⟩ := hox.sl.form
    simp only [Fi.enc]
    repeat (first
                  | (with_reducible refine si_alloc ?_)
                  | go_values
                  | gi_guarded
                  | gi_step
                  | gi_upon
                  | gi_back
                  | (simp only [Int.not_lt, Int.not_le] at *; go_simp))
    refine StopIn.go (wd_rnd l) rfl (fun _ => by intro h; cases h) fun K hK => ?_
    refine wp_alloc zero_frame ?_
    intro g w5 hg1 hg2 hm5 hB5
    simp only [put_some, List.set_cons_succ, List.set_cons_zero]
    refine hK _ _ ?_
    clear hK K
    repeat (first
                  | (with_reducible refine si_store ?_)
                  | go_values
                  | gi_guarded
                  | gi_step
                  | gi_upon
                  | gi_back
                  | (simp only [Int.not_lt, Int.not_le] at *; go_simp))
    refine StopIn.go (wd_rnd l) rfl (fun _ => by intro h; cases h) fun K hK => ?_
    refine wp_store (u := .agg #[.int .u64 f.e, .int .u64 f.s, .slice aox f.l.length capx]) (by rfl) (by rfl) (by kernel_rfl) hB5 (by simp [Value.cells]) (by simp [Value.cells, Value.oneCell']) ?_
    intro w6 hm6 hB6
    refine hK _ _ ?_
    clear hK K
    have hG6 : Blk w6 g 25 [.int .u64 f.e, .int .u64 f.s, .slice aox f.l.length capx] := hB6
    repeat (first
                  | go_values
                  | gi_guarded
                  | gi_step
                  | gi_upon
                  | gi_back
                  | (simp only [Int.not_lt, Int.not_le] at *; go_simp))
    have hplen := hpf.length_le
    have hrl := rowS_len (b := b) (e := e) b.length s 0 (by omega)
    rw [List.length_map, List.length_append, List.length_singleton] at hplen
    have hm16 : Mod [] W w6 := hm5.fresh hm6 (by simpa using hg1)
    refine ⟨hm16, fun W3 hmL => ?_⟩
    have h03 : Mod [l] W0 W3 := ((hmW.ext hm16).weak (by simp)).trans hmL
    have hlW : l < W0.heap.size := by obtain ⟨r, hr⟩ := hrec; exact (Array.getElem?_eq_some_iff.1 hr).1
    have hbo3 := hbo.mod h03 (by simpa using notloop hrec hbo)
    have hbn3 := hbn.mod h03 (by simpa using notloop hrec hbn)
    have hfr3 := hfr.mod h03 (notloop_ow hrec hfr.ow) (fun x hx => notloop_ow hrec (hfr.ob hx).1)
    have hin3 := hin.mod h03 (notloop_ow hrec hin)
    have hox3 : Ob W3 (.slice aox f.l.length capx) f.l := (Ob.ext hox hm16).mod hmL (fun k hk hh => by have := hnx k hk; have e : k = l := (by simpa using hh); omega)
    have hG3 := hG6.mod hmL (by have := hmW.size; simp; omega)
    have hflt := hfr.lt
    obtain ⟨aoo, capo, rfl, hco1, hco2⟩ := hfr.ow.sl.form
    obtain ⟨aop, capp, rfl, hcp1, hcp2⟩ := hin.sl.form
    have hW0W := hmW.size
    have hW3 := hmL.size
    have hw6 := hm16.size
    have o0 := hbo3.cell' (i := 0) rfl
    have z0 := hG3.cell' (i := 0) rfl
    have z1 := hG3.cell' (i := 1) rfl
    have z2 := hG3.cell' (i := 2) rfl
    clear hrl
    have hplb : pre.length ≤ 1099511627776 := by have := rowS_len (b := b) (e := e) b.length s 0 (by omega); omega
    repeat (first
                  | (with_reducible refine si_bslice ?_)
                  | go_values
                  | gi_guarded
                  | gi_step
                  | gi_upon
                  | gi_back
                  | (simp only [Int.not_lt, Int.not_le] at *; go_simp))
    refine StopIn.go (wd_rnd l) rfl (fun _ => by intro h; cases h) fun K hK => ?_
    refine wp_bslice stFr [.agg #[.int .u64 f.e, .int .u64 f.s, .slice aox f.l.length capx]] rfl (by decide) (by rfl) (by simp [Value.cells]) ?_
    intro qx x5 hq1 hq2 hm5' hB5'
    simp only [put_some, List.set_cons_succ, List.set_cons_zero]
    refine hK _ _ ?_
    clear hK K
    have hS5 : Sl x5 3 (.slice (some ⟨qx, 0, none⟩) 1 1) 1 (Fi.cells ⟨p, .slice aox f.l.length capx, f⟩) := (Ow.of_blk (rest := []) hB5' (Nat.le_refl _) (by omega) rfl rfl : Ow x5 25 3 (.slice (some ⟨qx, 0, none⟩) 1 1) 1 (Fi.cells ⟨p, .slice aox f.l.length capx, f⟩)).sl
    have hfr5 := hfr3.ext hm5'
    have hin5 := hin3.ext hm5'
    have hbo5 := hbo3.ext hm5'
    have hbn5 := hbn3.ext hm5'
    have hox5 := hox3.ext hm5'
    have hbv : ∀ k ∈ blks (.slice aoo pre.length capo), k < W0.heap.size := hfr.ow.lt
    have hpv : ∀ k ∈ blks (.slice aop pre.length capp), k < W0.heap.size := hin.lt
    repeat (first
                  | (with_reducible refine si_append ?_)
                  | go_values
                  | gi_guarded
                  | gi_step
                  | gi_upon
                  | gi_back
                  | (simp only [Int.not_lt, Int.not_le] at *; go_simp))
    refine StopIn.go (wd_rnd l) rfl (fun _ => by intro h; cases h) fun K hK => ?_
    refine wp_append_ow stFr (by rfl) (by rfl) hfr5.ow hS5 (by simp [Fi.cells, Value.oneCell']) (by omega) (by omega) ?_
    intro v6 x6 hv6 hm6' hb6
    simp only [put_some, List.set_cons_succ, List.set_cons_zero]
    refine hK _ _ ?_
    clear hK K
    obtain ⟨ao6, cap6, rfl, _, _⟩ := hv6.sl.form
    have hbo6 := hbo5.mod hm6' (hfr5.ow.ne hbo5 (by decide))
    have hbn6 := hbn5.mod hm6' (hfr5.ow.ne hbn5 (by decide))
    have hin6 := hin5.mod hm6' (ow_far hin5 hfr5.ow (by decide))
    have hfr6 := hfr5.snoc (B := W0.heap.size) ⟨p, .slice aox f.l.length capx, f⟩ hmw.size (by have := hm5'.size; omega) hflt hox5 hnx hv6 hm6' hb6
    repeat (first
                  | (with_reducible refine si_store ?_)
                  | go_values
                  | gi_guarded
                  | gi_step
                  | gi_upon
                  | gi_back
                  | (simp only [Int.not_lt, Int.not_le] at *; go_simp))
    refine StopIn.go (wd_rnd l) rfl (fun _ => by intro h; cases h) fun K hK => ?_
    refine wp_store1 (by kernel_rfl) (by rfl) (u := .slice ao6 (pre.length + 1) cap6) (by rfl) ⟨rfl, rfl⟩ hbo6 (by simp) ?_
    intro x8 hm8 hB8
    refine hK _ _ ?_
    clear hK K
    have hfr8 := hfr6.at hm8 hbo6 (by decide) (by decide)
    have hbn8 := hbn6.mod hm8 (by simpa using hbn6.ne hbo6 (by decide))
    have hin8 := hin6.mod hm8 (fun k hk hh => hin6.ne hbo6 (by decide) (by have e : k = bo := (by simpa using hh); exact e ▸ hk))
    have p0 := hbn8.cell' (i := 0) rfl
    repeat (first
                  | (with_reducible refine si_bslice ?_)
                  | go_values
                  | gi_guarded
                  | gi_step
                  | gi_upon
                  | gi_back
                  | (simp only [Int.not_lt, Int.not_le] at *; go_simp))
    refine StopIn.go (wd_rnd l) rfl (fun _ => by intro h; cases h) fun K hK => ?_
    refine wp_bslice stInt [.int .i64 (p : Nat)] rfl (by decide) (by rfl) (by simp [Value.cells]) ?_
    intro qy x9 hy1 hy2 hm9 hB9
    simp only [put_some, List.set_cons_succ, List.set_cons_zero]
    refine hK _ _ ?_
    clear hK K
    have hS9 : Sl x9 1 (.slice (some ⟨qy, 0, none⟩) 1 1) 1 [.int .i64 (p : Nat)] := (Ow.of_blk (rest := []) hB9 (Nat.le_refl _) (by omega) rfl rfl : Ow x9 3 1 (.slice (some ⟨qy, 0, none⟩) 1 1) 1 [.int .i64 (p : Nat)]).sl
    have hin9 := hin8.ext hm9
    have hbn9 := hbn8.ext hm9
    have hfr9 := hfr8.ext hm9
    repeat (first
                  | (with_reducible refine si_append ?_)
                  | go_values
                  | gi_guarded
                  | gi_step
                  | gi_upon
                  | gi_back
                  | (simp only [Int.not_lt, Int.not_le] at *; go_simp))
    refine StopIn.go (wd_rnd l) rfl (fun _ => by intro h; cases h) fun K hK => ?_
    refine wp_append_ow stInt (by rfl) (by rfl) hin9 hS9 (by simp [Value.oneCell']) (by omega) (by omega) ?_
    intro v10 x10 hv10 hm10 hb10
    simp only [put_some, List.set_cons_succ, List.set_cons_zero]
    refine hK _ _ ?_
    clear hK K
    obtain ⟨ao10, cap10, rfl, _, _⟩ := hv10.sl.form
    have hbn10 := hbn9.mod hm10 (hin9.ne hbn9 (by decide))
    have hfr10 := hfr9.mod hm10 (ow_far hfr9.ow hin9 (by decide)) (fun x hx => ow_far (hfr9.ob hx).1 hin9 (by decide))
    repeat (first
                  | (with_reducible refine si_store ?_)
                  | go_values
                  | gi_guarded
                  | gi_step
                  | gi_upon
                  | gi_back
                  | (simp only [Int.not_lt, Int.not_le] at *; go_simp))
    refine StopIn.go (wd_rnd l) rfl (fun _ => by intro h; cases h) fun K hK => ?_
    refine wp_store1 (by kernel_rfl) (by rfl) (u := .slice ao10 (pre.length + 1) cap10) (by rfl) ⟨rfl, rfl⟩ hbn10 (by simp) ?_
    intro x11 hm11 hB11
    refine hK _ _ ?_
    clear hK K
    have hfr11 := hfr10.at hm11 hbn10 (by decide) (by decide)
    have hin11 := Ow.mod hv10 hm11 (fun k hk hh => hv10.ne hbn10 (by decide) (by have e : k = bn := (by simpa using hh); exact e ▸ hk))
    have hO8 : Blk x8 bo 41 [.slice ao6 (pre.length + 1) cap6] := hB8
    have hO11 : Blk x11 bo 41 [.slice ao6 (pre.length + 1) cap6] := (((hO8.ext hm9).mod hm10 (hin9.ne (hO8.ext hm9) (by decide))).mod hm11 (by simpa using (hbn6.ne hbo6 (by decide)).symm))
    repeat (first
                  | go_values
                  | gi_guarded
                  | gi_step
                  | gi_upon
                  | gi_back
                  | (simp only [Int.not_lt, Int.not_le] at *; go_simp))
    obtain ⟨M, hM⟩ : ∃ M, M = bo :: bn :: (blks (.slice aoo pre.length capo) ++ blks (.slice aop pre.length capp)) := ⟨_, rfl⟩
    have hMm : ∀ k, k ∈ M ↔ k = bo ∨ k = bn ∨ k ∈ blks (.slice aoo pre.length capo) ∨ k ∈ blks (.slice aop pre.length capp) := fun k => by rw [hM]; simp only [List.mem_cons, List.mem_append]
    have hL0 : ∀ k ∈ 0 :: EchL bs bb be vb, k ∉ M ∧ k ≠ l := fun k hk => by
      obtain ⟨k1, k2, k3, k4⟩ := hLo k hk
      refine ⟨fun hh => ?_, by omega⟩
      rcases (hMm k).1 hh with h | h | h | h
      · exact k1 h
      · exact k2 h
      · rcases List.mem_cons.1 hk with rfl | hk
        · have := hfr.nw 0 h
          have := hT.1
          omega
        · exact hEc.apart hfr.ow k hk h
      · rcases List.mem_cons.1 hk with rfl | hk
        · have := hnn 0 h
          have := hT.1
          omega
        · exact hEc.apartI hin k hk h
    have hMt : Mod M W3 x11 := by
      have a1 : Mod M W3 x5 := hm5'.weak (by simp)
      have a2 : Mod M W3 x6 := a1.then hm6' (fun g hg => .inl ((hMm g).2 (.inr (.inr (.inl hg)))))
      have a3 : Mod M W3 x8 := a2.then hm8 (fun g hg => .inl ((hMm g).2 (.inl (by simpa using hg))))
      have a4 : Mod M W3 x10 := (a3.ext hm9).then hm10 (fun g hg => .inl ((hMm g).2 (.inr (.inr (.inr hg)))))
      exact a4.then hm11 (fun g hg => .inl ((hMm g).2 (.inr (.inl (by simpa using hg)))))
    have hE9 : Ech x11 bs bb be vb b e s := (hEc.mod h03 (fun k hk => by simpa using (hL0 k (by simp [hk])).2)).mod hMt (fun k hk => (hL0 k (by simp [hk])).1)
    have hMW9 : Mod (l :: M) W x11 := ((hm16.weak (by simp)).then hmL (fun g hg => .inl (by simp at hg; simp [hg]))).then hMt (fun g hg => .inl (List.mem_cons_of_mem _ hg))
    have hins : ∀ k ∈ M, w.heap.size ≤ k ∧ k < W0.heap.size := fun k hk => by
      have := hm1.size
      rcases (hMm k).1 hk with h | h | h | h
      · rw [h]; exact ⟨by omega, hbo.lt⟩
      · rw [h]; exact ⟨by omega, hbn.lt⟩
      · exact ⟨hfr.nw k h, hbv k h⟩
      · exact ⟨hnn k h, hpv k h⟩
    show KeepsFrom w4.heap.size W3 x11 ∧ KpL (0 :: EchL bs bb be vb) W0.heap.size W x11 ∧ ToldI w bo bn bs bb be vb b e s (pre ++ [⟨p, .slice aox f.l.length capx, f⟩]) x11
    refine ⟨KeepsFrom.of_mod hMt (fun k hk => ?_), KpL.of_mod hMW9 (fun k hk => ?_), hE9, .slice ao6 (pre.length + 1) cap6, .slice ao10 (pre.length + 1) cap10, hO11, hB11, hfr11, ?_, ?_, (hmw.ext hmW).fresh hMW9 (fun k hk => ?_)⟩
    · rcases (hMm k).1 hk with h | h | h | h
      · rw [h]; exact .inr (.inr hbo3.isCells)
      · rw [h]; exact .inr (.inr hbn3.isCells)
      · exact .inr (.inr (ow_cells hfr3.ow k h))
      · exact .inr (.inr (ow_cells hin3 k h))
    · refine ⟨fun hh => ?_, .inl ?_⟩
      · rcases List.mem_cons.1 hk with h1 | hk
        · exact (hL0 k hh).2 h1
        · exact (hL0 k hh).1 hk
      · rcases List.mem_cons.1 hk with rfl | hk
        · exact hlW
        · exact (hins k hk).2
    · rw [List.map_append, List.length_append]
      have := hin11
      rw [show iN (pre.map Fi.p) ++ [.int .i64 (p : Nat)] = iN (pre.map Fi.p ++ [p]) from iN_snoc _ _] at this
      exact this
    · intro k hk
      have q1 := hmw.size
      have q2 := hm5'.size
      have q3 := hm6'.size
      have q4 := hm8.size
      have q5 := hm9.size
      rcases hb10 k hk with hk | hk
      · exact hnn k hk
      · omega
    · rcases List.mem_cons.1 hk with rfl | hk
      · omega
      · exact (hins k hk).1
  case done =>
    rintro D xs W hD hS ⟨_, vo, vp, hbo, hbn, hfr, hin, hnn, hmw⟩ hK
    gi_wp2
    refine wpIn_wide.2 ?_
    go_hide hQ
    refine wp_region_T [⟨0, true, []⟩, ⟨1, true, []⟩, ⟨2, true, []⟩, ⟨3, true, []⟩, ⟨4, true, []⟩] (by kernel_rfl) (by kernel_rfl) ?_
    have hbo' := hbo.ext (Mod.drew [] W)
    have hbn' := hbn.ext (Mod.drew [] W)
    have hfr' := hfr.ext (Mod.drew [] W)
    have hin' := hin.ext (Mod.drew [] W)
    have hmw' := hmw.ext (Mod.drew [] W)
    have hK' : W.drew.heap[D]? = some (.deferred (some [])) := hK
    obtain ⟨x, hx⟩ : ∃ x, x = W.drew := ⟨_, rfl⟩
    rw [← hx] at hbo' hbn' hfr' hin' hmw' hK' ⊢
    obtain ⟨aoo, capo, rfl, hco1, hco2⟩ := hfr.ow.sl.form
    obtain ⟨aop, capp, rfl, hcp1, hcp2⟩ := hin.sl.form
    have HQ := Lib.hid hQ
    have HS := Lib.hid hS
    clear hQ hx hbo hbn hfr hin hmw hK hS
    have o0 := hbo'.cell' (i := 0) rfl
    have o1 := hbn'.cell' (i := 0) rfl
    iterate 5 (refine wpT_n rfl rfl (fun K hK => ?_); repeat (first | go_values | go_guarded | go_step | go_upon))
    refine wpT_nil ?_
    have hQ := HQ.out
    subst hQ
    gi_wp2
    refine ⟨by simp, .inl ⟨_, _, rfl, run_takeDeferred hK', ?_⟩⟩
    have hMD : ∀ g ∈ [D], w4.heap.size ≤ g ∧ ∃ o : Obj, x.heap[g]? = some o ∧ o.isCells = false := fun g hg => by
      have e : g = D := by simpa using hg
      subst e
      exact ⟨hD, _, hK', rfl⟩
    have hmD := Mod.putObj x D (.deferred none)
    exact ⟨.tuple #[.slice aoo xs.length capo, .slice aop xs.length capp, .bool true], by simp [results, Tryd.results30, go_sem], _, _, xs, rfl, HS.out, hfr'.ab hMD hmD, hin'.mod hmD (notin_ow hMD hin'), hnn, hmw'.fresh hmD (fun g hg => by have := (hMD g hg).1; omega)⟩
  case stop =>
    intro D c pre W _ _ h _
    exact h.elim
end Go.Proofs.YtboigcnpamldlaaDoor
