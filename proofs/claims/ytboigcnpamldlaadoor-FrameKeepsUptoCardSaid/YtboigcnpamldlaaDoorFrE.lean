import Derived.Test.YtboigcnpamldlaaDoorFrD
/-! Frames: Scan. -/
set_option linter.unusedVariables false
set_option linter.unusedSimpArgs false
set_option maxRecDepth 100000
namespace Go.Proofs.YtboigcnpamldlaaDoor
open Go.RowKit Gw
attribute [local go_sem] Oper.semAt_some

theorem notin_of {w : World} {M : List Nat} {B g : Nat} {t : TypeId} {cs : List Value} (hM : ∀ g ∈ M, B ≤ g ∧ ∃ o : Obj, w.heap[g]? = some o ∧ o.isCells = false) (h : Blk w g t cs) : g ∉ M := fun hg => by
  obtain ⟨_, o, ho, hc⟩ := hM g hg
  rw [show w.heap[g]? = _ from h] at ho
  cases ho
  cases hc
theorem notin_ow {w : World} {M : List Nat} {B : Nat} {e : TypeId} {sz n : Nat} {v : Value} {xs : List Value} (hM : ∀ g ∈ M, B ≤ g ∧ ∃ o : Obj, w.heap[g]? = some o ∧ o.isCells = false) (h : Ow w e sz v n xs) : ∀ k ∈ blks v, k ∉ M := by
  rcases Ow.blk h with ⟨rfl, _, _⟩ | ⟨g, cap, rest, rfl, hB, _⟩
  · simp [blks]
  · intro k hk
    rw [show k = g by simpa [blks] using hk]
    exact notin_of hM hB
theorem Frs.ab {w w' : World} {M : List Nat} {B base : Nat} {v : Value} {L : List Fi} (h : Frs w base v L) (hM : ∀ g ∈ M, B ≤ g ∧ ∃ o : Obj, w.heap[g]? = some o ∧ o.isCells = false) (hm : Mod M w w') : Frs w' base v L :=
  h.mod hm (notin_ow hM h.ow) (fun x hx => notin_ow hM (h.ob hx).1)
theorem notloop {w : World} {l g : Nat} {t : TypeId} {cs : List Value} (hl : ∃ r, w.heap[l]? = some (.loop r)) (h : Blk w g t cs) : g ≠ l := by
  rintro rfl
  obtain ⟨r, hr⟩ := hl
  rw [show w.heap[g]? = _ from h] at hr
  cases hr
theorem notloop_ow {w : World} {l : Nat} {e : TypeId} {sz n : Nat} {v : Value} {xs : List Value} (hl : ∃ r, w.heap[l]? = some (.loop r)) (h : Ow w e sz v n xs) : ∀ k ∈ blks v, k ∉ [l] := by
  rcases Ow.blk h with ⟨rfl, _, _⟩ | ⟨g, cap, rest, rfl, hB, _⟩
  · simp [blks]
  · intro k hk
    rw [show k = g by simpa [blks] using hk]
    simpa using notloop hl hB
theorem nolets {α : Type} {B : Nat} {Kp : World → World → Prop} {I : List α → World → Prop} {Ix : Code → List α → World → Prop} {xs : List α} {W W3 : World} {K : Act → World → Prop} : ¬ LetsOut (Exit.then K (Exit.inBlock 1 (ownPostP B Kp I Ix xs W W3))) := fun ⟨_, _, h⟩ => h
theorem zero_frs : (Tryd.prog.info? 41).map (·.zero) = some (some (.slice none 0 0)) := by kernel_rfl
theorem zero_int : (Tryd.prog.info? 3).map (·.zero) = some (some (.int .i64 0)) := by kernel_rfl
def ScanP (b : List UInt8) (e s : Nat) (w : World) (en : Ending) (w' : World) : Prop :=
  ∃ v L, en = .returned (.tuple #[v, .int .i64 (endF (rowS b e s 0) 0 : Nat)]) ∧ L.map Fi.d = rowS b e s 0 ∧ Frs w' w.heap.size v L ∧ Mod [] w w'
def ScanI (w : World) (bo bn bs bb be : Nat) (vb : Value) (b : List UInt8) (e s : Nat) (pre : List Fi) (W : World) : Prop :=
  Ech W bs bb be vb b e s ∧ ∃ v, Blk W bo 41 [v] ∧ Blk W bn 3 [.int .i64 (endF (pre.map Fi.d) 0 : Nat)] ∧ Frs W w.heap.size v pre ∧ Mod [] w W
set_option maxRecDepth 1000000 in
set_option maxHeartbeats 8000000 in
theorem scan_any (b : List UInt8) (e s : Nat) (v : Value) (w : World) (hb : Bs w v b) (hl : b.length ≤ 1099511627776) (hs : s < 18446744073709551616) (he : e < 18446744073709551616) (hT : TabC w) :
    Calls Tryd.prog 25 #[v, .int .u64 (e : Nat), .int .u64 (s : Nat)] w (ScanP b e s w) := by
  obtain ⟨ao, cap, rfl, hc1, hc2⟩ := hb.form
  refine (callsIn_wide (n := 9)).1 ?_
  refine callsIn_of_wp_marks Tryd.func25 rfl trivial ?_ rfl
  simp only [Tryd.ntmps25, List.size_toArray, List.length_cons, List.length_nil, Nat.reduceAdd, Nat.reduceSub, Array.replicate_succ, Array.replicate_zero, List.push_toArray, List.append_toArray, List.nil_append, List.cons_append]
  have EA := fun w h => each_any b e s (.slice ao b.length cap) w h (by omega)
  unfold EachP at EA
  repeat (first
                | (with_reducible refine si_alloc ?_)
                | go_values
                | gi_guarded
                | gi_step
                | gi_upon
                | gi_back
                | (simp only [Int.not_lt, Int.not_le] at *; go_simp))
  refine StopIn.go wd_wide rfl (fun _ => by intro h; cases h) fun K hK => ?_
  refine wp_alloc zero_frs ?_
  intro bo w1 ho1 ho2 hm1 hB1
  simp only [put_some, List.set_cons_succ, List.set_cons_zero]
  refine hK _ _ ?_
  clear hK K
  repeat (first
                | (with_reducible refine si_alloc ?_)
                | go_values
                | gi_guarded
                | gi_step
                | gi_upon
                | gi_back
                | (simp only [Int.not_lt, Int.not_le] at *; go_simp))
  refine StopIn.go wd_wide rfl (fun _ => by intro h; cases h) fun K hK => ?_
  refine wp_alloc zero_int ?_
  intro bn w2 hn1 hn2 hm2 hB2
  simp only [put_some, List.set_cons_succ, List.set_cons_zero]
  refine hK _ _ ?_
  clear hK K
  have hB2' : Blk w2 bn 3 [.int .i64 0] := hB2
  repeat (first
                | (with_reducible refine si_store ?_)
                | go_values
                | gi_guarded
                | gi_step
                | gi_upon
                | gi_back
                | (simp only [Int.not_lt, Int.not_le] at *; go_simp))
  refine StopIn.go wd_wide rfl (fun _ => by intro h; cases h) fun K hK => ?_
  refine wp_store1 (by kernel_rfl) (by rfl) (u := .int .i64 0) (by rfl) ⟨rfl, rfl⟩ hB2' (by simp) ?_
  intro w3 hm3 hB3
  refine hK _ _ ?_
  clear hK K
  have hm13 : Mod [] w w3 := (hm1.ext hm2).fresh hm3 (by have := hm1.size; simp; omega)
  have hb3 := hb.ext hm13
  have hO3 : Blk w3 bo 41 [.slice none 0 0] := (Blk.ext hB1 hm2).mod hm3 (by simp; omega)
  have hN3 : Blk w3 bn 3 [.int .i64 0] := hB3
  repeat (first
                | ((first | ((with_reducible refine And.intro ?ga (And.intro ?gb ?_)); (case ga => exact trivial); (case gb => exact (fun hh => nomatch hh))) | ((with_reducible refine And.intro ?ga ?_); (case ga => exact trivial))); gi_at_call 26; refine ((wd_wide).calls (EA _ hb3)).mono ?_; rintro e w4 ⟨bs, bb, be, vb, rfl, hE4, hnE, hm4⟩; dsimp only)
                | go_values
                | gi_guarded
                | gi_step
                | gi_upon
                | gi_back
                | (simp only [Int.not_lt, Int.not_le] at *; go_simp))
  have hT4 := hT.ext (hm13.ext hm4)
  have hw04 := (hm13.ext hm4).size
  have h0 : ScanI w bo bn bs bb be vb b e s [] w4 := ⟨hE4, .slice none 0 0, hO3.ext hm4, hN3.ext hm4, Frs.nil _ _, hm13.ext hm4⟩
  have hLlt : ∀ k ∈ 0 :: EchL bs bb be vb, k < w4.heap.size := fun k hk => (List.mem_cons.1 hk).elim (fun e => e ▸ hT4.1) (hE4.lt k)
  have hLo : ∀ k ∈ 0 :: EchL bs bb be vb, k ≠ bo ∧ k ≠ bn ∧ k < w4.heap.size ∧ (k = 0 ∨ w3.heap.size ≤ k) := fun k hk => by
    have h9 := hT.1
    have := hm1.size
    have := hO3.lt
    have := hN3.lt
    rcases List.mem_cons.1 hk with rfl | hk
    · exact ⟨by omega, by omega, hT4.1, .inl rfl⟩
    · have := hnE k hk
      exact ⟨by omega, by omega, hE4.lt k hk, .inr this⟩
  refine wpIn_rangeFuncP rfl (by decide) (gf := 52) rfl trivial (ent Tryd.func52 (by kernel_rfl) rfl)
    (each1_seq 8 w4 bs bb be vb b e s hE4 hs he (by omega) hT4) (fun h k => h.trans k) (fun B W l o' h1 h2 => KpL.of_mod (Mod.putObj W l o') (fun k hk => by
      have e : k = l := by simpa using hk
      subst e
      exact ⟨fun hh => by have := hLlt k hh; omega, .inl h2⟩)) (Mod.refl _ _) (fun _ => rfl)
    (ScanI w bo bn bs bb be vb b e s) (fun _ _ _ => False)
    (fun pre W W' M hI hM hm => by
      obtain ⟨h0, v, h1, h2, h3, h4⟩ := hI
      exact ⟨h0.mod hm (fun k hk hh => by
        obtain ⟨o, ho, hc⟩ := h0.cells k hk
        obtain ⟨_, o', ho', hc'⟩ := hM k hh
        rw [ho] at ho'
        cases ho'
        rw [hc] at hc'
        cases hc'), v, h1.mod hm (notin_of hM h1), h2.mod hm (notin_of hM h2), h3.ab hM hm, h4.fresh hm (fun g hg => by have := (hM g hg).1; have := (hm13.ext hm4).size; omega)⟩)
    (fun _ _ _ _ _ h _ _ => h) h0 ?round ?done ?stop
  case round =>
    rintro l pre x W0 W hl0 hrec ⟨hEc, vo, hbo, hbn, hfr, hmw⟩ hmW ⟨hox, hnx, hpf⟩ hlen
    obtain ⟨p, vx, f⟩ := x
    dsimp only at hox hnx
    obtain ⟨aox, capx, rfl, hcx1, hcx2⟩ := hox.sl.form
    simp only [Fi.enc]
    repeat (first
                  | (with_reducible refine si_alloc ?_)
                  | go_values
                  | gi_guarded
                  | gi_step
                  | gi_upon
                  | gi_back
                  | (simp only [Int.not_lt, Int.not_le] at *; go_simp))
    refine StopIn.go (wd_rnd l) rfl (fun _ => by intro h; cases h) fun K hK => ?_
    refine wp_alloc zero_frame ?_
    intro g w5 hg1 hg2 hm5 hB5
    simp only [put_some, List.set_cons_succ, List.set_cons_zero]
    refine hK _ _ ?_
    clear hK K
    repeat (first
                  | (with_reducible refine si_store ?_)
                  | go_values
                  | gi_guarded
                  | gi_step
                  | gi_upon
                  | gi_back
                  | (simp only [Int.not_lt, Int.not_le] at *; go_simp))
    refine StopIn.go (wd_rnd l) rfl (fun _ => by intro h; cases h) fun K hK => ?_
    refine wp_store (u := .agg #[.int .u64 f.e, .int .u64 f.s, .slice aox f.l.length capx]) (by rfl) (by rfl) (by kernel_rfl) hB5 (by simp [Value.cells]) (by simp [Value.cells, Value.oneCell']) ?_
    intro w6 hm6 hB6
    refine hK _ _ ?_
    clear hK K
    have hG6 : Blk w6 g 25 [.int .u64 f.e, .int .u64 f.s, .slice aox f.l.length capx] := hB6
    repeat (first
                  | go_values
                  | gi_guarded
                  | gi_step
                  | gi_upon
                  | gi_back
                  | (simp only [Int.not_lt, Int.not_le] at *; go_simp))
    have hpl := rowS_place (b := b) (e := e) b.length s 0 (by omega) (pre.map Fi.d) (p, f) (by simpa [Fi.d] using hpf)
    dsimp only at hpl
    obtain ⟨hp1, hp2, hp3⟩ := hpl
    have hlf := hp3.l
    have hendE : endF ((pre ++ [(⟨p, .slice aox f.l.length capx, f⟩ : Fi)]).map Fi.d) 0 = p + (22 + f.l.length) := by rw [List.map_append, List.map_singleton, endF_snoc, hp1]; rfl
    have HEE := Lib.hid hendE
    clear hp1 hendE
    have hplen := hpf.length_le
    have hrl := rowS_len (b := b) (e := e) b.length s 0 (by omega)
    have hm16 : Mod [] W w6 := hm5.fresh hm6 (by simpa using hg1)
    refine ⟨hm16, fun W3 hmL => ?_⟩
    have h03 : Mod [l] W0 W3 := ((hmW.ext hm16).weak (by simp)).trans hmL
    have hlW : l < W0.heap.size := by obtain ⟨r, hr⟩ := hrec; exact (Array.getElem?_eq_some_iff.1 hr).1
    have hbo3 := hbo.mod h03 (by simpa using notloop hrec hbo)
    have hbn3 := hbn.mod h03 (by simpa using notloop hrec hbn)
    have hfr3 := hfr.mod h03 (notloop_ow hrec hfr.ow) (fun x hx => notloop_ow hrec (hfr.ob hx).1)
    have hox3 : Ob W3 (.slice aox f.l.length capx) f.l := (Ob.ext hox hm16).mod hmL (fun k hk hh => by have := hnx k hk; have e : k = l := (by simpa using hh); omega)
    have hG3 := hG6.mod hmL (by have := hmW.size; simp; omega)
    have hflt := hfr.lt
    obtain ⟨aoo, capo, rfl, hco1, hco2⟩ := hfr.ow.sl.form
    have y1 : (f.l.length : Int) ≤ 32 := by omega
    have y2 : (p : Int) + (22 + f.l.length) ≤ 140737488355328 := by omega
    have SZ := fun w => size_any (f.l.length : Int) w
    rw [show sizeF (f.l.length : Int) = 22 + f.l.length from if_neg (by omega)] at SZ
    have hW0W := hmW.size
    have hW3 := hmL.size
    have hw6 := hm16.size
    apply wpIn_block
    refine wpIn_region_T [⟨0, true, []⟩, ⟨1, true, []⟩, ⟨4, true, []⟩, ⟨5, true, []⟩, ⟨6, true, []⟩, ⟨7, true, []⟩, ⟨2, false, [0, 6, 7]⟩, ⟨3, false, [6, 7]⟩, ⟨8, false, []⟩, ⟨9, true, []⟩, ⟨10, false, [9]⟩, ⟨11, false, []⟩] (by kernel_rfl) (by kernel_rfl) (by kernel_rfl) (fun ⟨_, _, h⟩ => h) ?_
    have hm4 : Mod [] W3 W3.drew := Mod.drew [] _
    obtain ⟨x4, hx4⟩ : ∃ x, x = W3.drew := ⟨_, rfl⟩
    rw [← hx4] at hm4 ⊢
    clear hx4
    have hbo4 := hbo3.ext hm4
    have hbn4 := hbn3.ext hm4
    have hfr4 := hfr3.ext hm4
    have hox4 := hox3.ext hm4
    have hG4 := hG3.ext hm4
    have o0 := hbo4.cell' (i := 0) rfl
    have z0 := hG4.cell' (i := 0) rfl
    have z1 := hG4.cell' (i := 1) rfl
    have z2 := hG4.cell' (i := 2) rfl
    iterate 6 (refine wpT_n rfl rfl (fun K hK => ?_); go_wp2_with fail)
    refine wpT_e rfl rfl (fun K hK => ?_)
    refine wp_bslice stFr [.agg #[.int .u64 f.e, .int .u64 f.s, .slice aox f.l.length capx]] rfl (by decide) (by rfl) (by simp [Value.cells]) ?_
    intro qx x5 hq1 hq2 hm5' hB5'
    simp only [put_some, List.set_cons_succ, List.set_cons_zero]
    refine hK _ _ ⟨agains_cons rfl (again_load rfl rfl (hm5'.block bo hbo4.lt (by simp)) hbo4.kinds) (agains_cons rfl (again_load rfl rfl (hm5'.block g hG4.lt (by simp)) hG4.kinds) (agains_cons rfl (again_const (v := .int .i64 f.l.length) (fun _ => by simp [execOp, resolve, invoke, builtin, go_sem, Act.eval])) agains_nil)), ?_⟩
    clear hK K
    have hS5 : Sl x5 3 (.slice (some ⟨qx, 0, none⟩) 1 1) 1 (Fi.cells ⟨p, .slice aox f.l.length capx, f⟩) := (Ow.of_blk (rest := []) hB5' (Nat.le_refl _) (by omega) rfl rfl : Ow x5 25 3 (.slice (some ⟨qx, 0, none⟩) 1 1) 1 (Fi.cells ⟨p, .slice aox f.l.length capx, f⟩)).sl
    have hfr5 := hfr4.ext hm5'
    have hbo5 := hbo4.ext hm5'
    have hbn5 := hbn4.ext hm5'
    have hG5 := hG4.ext hm5'
    have hox5 := hox4.ext hm5'
    have hbv : ∀ k ∈ blks (.slice aoo pre.length capo), k < W0.heap.size := hfr.ow.lt
    have hgv : g ∉ blks (.slice aoo pre.length capo) := fun hh => by have := hbv g hh; omega
    rw [List.length_map] at hplen
    have hple : pre.length + 1 ≤ (rowS b e s 0).length := by simpa using hplen
    refine wpT_e rfl rfl (fun K hK => ?_)
    refine wp_append_ow stFr (by rfl) (by rfl) hfr5.ow hS5 (by simp [Fi.cells, Value.oneCell']) (by omega) (by omega) ?_
    intro v6 x6 hv6 hm6' hb6
    simp only [put_some, List.set_cons_succ, List.set_cons_zero]
    refine hK _ _ ⟨agains_cons rfl (again_load rfl rfl (hm6'.block g hG5.lt hgv) hG5.kinds) (agains_cons rfl (again_const (v := .int .i64 f.l.length) (fun _ => by simp [execOp, resolve, invoke, builtin, go_sem, Act.eval])) agains_nil), ?_⟩
    clear hK K
    obtain ⟨ao6, cap6, rfl, _, _⟩ := hv6.sl.form
    have hbo6 := hbo5.mod hm6' (hfr5.ow.ne hbo5 (by decide))
    have hbn6 := hbn5.mod hm6' (hfr5.ow.ne hbn5 (by decide))
    have hfr6 := hfr5.snoc (B := W0.heap.size) ⟨p, .slice aox f.l.length capx, f⟩ hmw.size (by have := hm4.size; have := hm5'.size; omega) hflt hox5 hnx hv6 hm6' hb6
    refine wpT_call rfl rfl (fun K hK => ?_)
    go_wp2_with (go_at_call 17; (with_reducible refine (SZ _).mono ?_); rintro e x7 ⟨rfl, rfl⟩)
    refine wpT_n rfl rfl (fun K hK => ?_)
    go_wp2_with fail
    refine wpT_e rfl rfl (fun K hK => ?_)
    refine wp_store1 (by kernel_rfl) (by rfl) (u := .slice ao6 (pre.length + 1) cap6) (by rfl) ⟨rfl, rfl⟩ hbo6 (by simp) ?_
    intro x8 hm8 hB8
    refine hK _ _ ⟨agains_cons rfl (again_const (fun _ => rfl)) agains_nil, ?_⟩
    clear hK K
    have hfr8 := hfr6.at hm8 hbo6 (by decide) (by decide)
    have hbn8 := hbn6.mod hm8 (by simpa using hbn6.ne hbo6 (by decide))
    refine wpT_e0 rfl rfl (fun K hK => ?_)
    refine wp_store1 (by kernel_rfl) (by rfl) (u := .int .i64 ((p : Int) + (22 + (f.l.length : Nat)))) (by rfl) ⟨rfl, rfl⟩ hbn8 (by simp) ?_
    intro x9 hm9 hB9
    refine hK _ _ ?_
    clear hK K
    refine wpT_nil ?_
    have hL0 : ∀ k ∈ 0 :: EchL bs bb be vb, k ≠ bo ∧ k ≠ bn ∧ k ∉ blks (.slice aoo pre.length capo) ∧ k ≠ l := fun k hk => by
      obtain ⟨k1, k2, k3, k4⟩ := hLo k hk
      refine ⟨k1, k2, fun hh => ?_, by omega⟩
      rcases List.mem_cons.1 hk with rfl | hk
      · have := hfr.nw 0 hh
        have := hT.1
        omega
      · exact hEc.apart hfr.ow k hk hh
    have hMt : Mod (bo :: bn :: blks (.slice aoo pre.length capo)) W3 x9 :=
      (((hm4.ext hm5').weak (by simp)).then hm6' (fun g hg => .inl (by simp [hg]))).then ((hm8.weak (by simp) : Mod [bo, bn] x6 x8).trans (hm9.weak (by simp))) (fun g hg => .inl (by simp at hg; rcases hg with rfl | rfl <;> simp))
    have hE9 : Ech x9 bs bb be vb b e s := (hEc.mod h03 (fun k hk => by simpa using (hL0 k (by simp [hk])).2.2.2)).mod hMt (fun k hk hh => by
      obtain ⟨k1, k2, k3, k4⟩ := hL0 k (by simp [hk])
      rcases List.mem_cons.1 hh with h1 | h1
      · exact k1 h1
      · rcases List.mem_cons.1 h1 with h1 | h1
        · exact k2 h1
        · exact k3 h1)
    have hMW9 : Mod (l :: bo :: bn :: blks (.slice aoo pre.length capo)) W x9 := ((hm16.weak (by simp)).then hmL (fun g hg => .inl (by simp at hg; simp [hg]))).then hMt (fun g hg => .inl (List.mem_cons_of_mem _ hg))
    have hin : ∀ k ∈ bo :: bn :: blks (.slice aoo pre.length capo), w.heap.size ≤ k ∧ k < W0.heap.size := fun k hk => by
      have := hm1.size
      rcases List.mem_cons.1 hk with rfl | hk
      · exact ⟨by omega, hbo.lt⟩
      · rcases List.mem_cons.1 hk with rfl | hk
        · exact ⟨by omega, hbn.lt⟩
        · exact ⟨hfr.nw k hk, hbv k hk⟩
    show KeepsFrom w4.heap.size W3 x9 ∧ KpL (0 :: EchL bs bb be vb) W0.heap.size W x9 ∧ ScanI w bo bn bs bb be vb b e s (pre ++ [⟨p, .slice aox f.l.length capx, f⟩]) x9
    refine ⟨KeepsFrom.of_mod hMt (fun k hk => ?_), KpL.of_mod hMW9 (fun k hk => ?_), hE9, .slice ao6 (pre.length + 1) cap6, hB8.mod hm9 (by simpa using (hbn6.ne hbo6 (by decide)).symm), ?_, ?_, (hmw.ext hmW).fresh hMW9 (fun k hk => ?_)⟩
    · rcases List.mem_cons.1 hk with rfl | hk
      · exact .inr (.inr hbo3.isCells)
      · rcases List.mem_cons.1 hk with rfl | hk
        · exact .inr (.inr hbn3.isCells)
        · exact .inr (.inr (ow_cells hfr3.ow k hk))
    · refine ⟨fun hh => ?_, .inl ?_⟩
      · obtain ⟨k1, k2, k3, k4⟩ := hL0 k hh
        rcases List.mem_cons.1 hk with h1 | hk
        · exact k4 h1
        · rcases List.mem_cons.1 hk with h1 | hk
          · exact k1 h1
          · rcases List.mem_cons.1 hk with h1 | hk
            · exact k2 h1
            · exact k3 hk
      · rcases List.mem_cons.1 hk with rfl | hk
        · exact hlW
        · exact (hin k hk).2
    · rw [HEE.out]
      have e1 : (((p + (22 + f.l.length) : Nat)) : Int) = (p : Int) + (22 + (f.l.length : Nat)) := by omega
      rw [e1]
      exact hB9
    · exact hfr8.at hm9 hbn8 (by decide) (by decide)
    · rcases List.mem_cons.1 hk with rfl | hk
      · omega
      · exact (hin k hk).1
  case done =>
    rintro D xs W hD hS ⟨_, vo, hbo, hbn, hfr, hmw⟩ hK
    gi_wp2
    refine wpIn_wide.2 ?_
    go_hide hQ
    refine wp_region_T [⟨0, true, []⟩, ⟨1, true, []⟩, ⟨2, true, []⟩, ⟨3, true, []⟩] (by kernel_rfl) (by kernel_rfl) ?_
    have hbo' := hbo.ext (Mod.drew [] W)
    have hbn' := hbn.ext (Mod.drew [] W)
    have hfr' := hfr.ext (Mod.drew [] W)
    have hmw' := hmw.ext (Mod.drew [] W)
    have hK' : W.drew.heap[D]? = some (.deferred (some [])) := hK
    obtain ⟨x, hx⟩ : ∃ x, x = W.drew := ⟨_, rfl⟩
    rw [← hx] at hbo' hbn' hfr' hmw' hK' ⊢
    obtain ⟨aoo, capo, rfl, hco1, hco2⟩ := hfr.ow.sl.form
    have HQ := Lib.hid hQ
    have HS := Lib.hid hS
    clear hQ hx hbo hbn hfr hmw hK hS
    have o0 := hbo'.cell' (i := 0) rfl
    have o1 := hbn'.cell' (i := 0) rfl
    iterate 4 (refine wpT_n rfl rfl (fun K hK => ?_); repeat (first | go_values | go_guarded | go_step | go_upon))
    refine wpT_nil ?_
    have hQ := HQ.out
    subst hQ
    gi_wp2
    refine ⟨by simp, .inl ⟨_, _, rfl, run_takeDeferred hK', ?_⟩⟩
    have hMD : ∀ g ∈ [D], w4.heap.size ≤ g ∧ ∃ o : Obj, x.heap[g]? = some o ∧ o.isCells = false := fun g hg => by
      have e : g = D := by simpa using hg
      subst e
      exact ⟨hD, _, hK', rfl⟩
    have hmD := Mod.putObj x D (.deferred none)
    refine ⟨.tuple #[.slice aoo xs.length capo, .int .i64 (endF (xs.map Fi.d) 0 : Nat)], by simp [results, Tryd.results25, go_sem], _, xs, ?_, HS.out, hfr'.ab hMD hmD, hmw'.fresh hmD (fun g hg => by have := (hMD g hg).1; omega)⟩
    rw [HS.out]
  case stop =>
    intro D c pre W _ _ h _
    exact h.elim
end Go.Proofs.YtboigcnpamldlaaDoor
