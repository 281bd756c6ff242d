import Derived.Test.YtdmnogmhnhjdgaaGreatGPw
/-! Devices: a script's steps, on a device and on a disk. -/
set_option linter.unusedVariables false
set_option linter.unusedSimpArgs false
set_option maxRecDepth 100000
namespace Go.Proofs.YtdmnogmhnhjdgaaGreat
open Go.RowKit Gw

/-- a step -/
structure Pop where
  k : Int
  n : Int
  a : Int
  bw : Value
  l : List UInt8
  raw : Bool
  fv : Value
  F : List (Int × Int)
def Pop.cells (o : Pop) : List Value := [.int .i64 o.k, .int .i64 o.n, .int .i64 o.a, o.bw, .bool o.raw, o.fv]
structure OkPop (w : World) (o : Pop) : Prop where
  b : Bs w o.bw o.l
  fs : Fs w o.fv o.F
  old : o.F ≠ [] → ∀ b ∈ blks o.fv, b < w.heap.size
  k : i64 o.k
  n : i64 o.n
  a : i64 o.a
  l : o.l.length ≤ 1048576
  f : o.F.length ≤ 1048576
/-- what is written -/
def blkL (o : Pop) (sz : Nat) : List UInt8 := if o.raw = true then o.l else over o.l (zeros sz)
theorem blkL_le {o : Pop} {sz : Nat} (h : o.l.length ≤ 1048576) (hs : sz ≤ 4096) : (blkL o sz).length ≤ 1048576 := by
  unfold blkL
  split
  · exact h
  · rw [over_len]; simp [zeros]; omega
def doE (m : Dm) (o : Pop) : Int := if o.k = 1 then writeE m o.a (blkL o m.sz).length else if o.k = 2 then noneE m.dur.length o.a else 0
def doB (m : Dm) (o : Pop) : List UInt8 := if o.k = 2 then oR o.a (some m) else []
def doM (m : Dm) (o : Pop) : Dm := if o.k = 1 then wrM m o.a (blkL o m.sz) else if o.k = 2 then m else m.sync
def askB (v : Pv) (o : Pop) : List UInt8 := if o.k = 2 then v.rd o.a else []
def askV (v : Pv) (o : Pop) : Pv := if o.k = 1 then v.wr o.a (blkL o v.m.sz) else if o.k = 2 then v.md else v.sy
set_option maxHeartbeats 2000000 in
theorem block_any (o : Pop) (sz : Nat) (w : World) (hb : Bs w o.bw o.l) (hl : o.l.length ≤ 1048576) (hf : o.fv.cells = #[o.fv] ∧ o.fv.oneCell' = true) (hsz : sz ≤ 4096) :
    Calls Tryz.prog 29 #[.agg o.cells.toArray, .int .i64 (sz : Nat)] w fun e w' => ∃ v', e = .returned v' ∧ Ob w' v' (blkL o sz) ∧ New w v' ∧ Mod [] w w' := by
  obtain ⟨k, n, a, bw, l, raw, fv, F⟩ := o
  unfold blkL Pop.cells
  dsimp only at hb hl hf ⊢
  obtain ⟨aob, capb, rfl, _, _⟩ := hb.form
  cases raw with
  | true =>
    rw [if_pos rfl]
    go_enter Tryz.func29, Tryz.ntmps29
    go_wp2_with (with_reducible refine st_box ?_)
    refine StopOp.go rfl fun K hK => ?_
    refine wp_box (v := .agg #[.int .i64 k, .int .i64 n, .int .i64 a, .slice aob l.length capb, .bool true, fv]) (by rfl) ?_
    intro q w1 hq1 hq2 hm1 hQ
    simp only [put_some, List.set_cons_succ, List.set_cons_zero]
    refine hK _ _ ?_
    clear hK K
    have hQ1 : Blk w1 q 35 [.int .i64 k, .int .i64 n, .int .i64 a, .slice aob l.length capb, .bool true, fv] := hQ
    have q4 := hQ1.cell' (i := 4) rfl
    have q3 := hQ1.cell' (i := 3) rfl
    have hb1 := hb.ext hm1
    clear hQ
    go_wp2_with (go_at_call 43; refine (copy_any l _ _ hb1 (by omega)).mono ?_; rintro e w2 ⟨v2, rfl, ho2, hn2, hm2⟩)
    go_ret
    exact ⟨v2, rfl, ho2, fun b hb => Nat.le_trans hm1.size (hn2 b hb), hm1.ext hm2⟩
  | false =>
    rw [if_neg (by decide)]
    obtain ⟨R, hR⟩ : ∃ R, R = over l (zeros sz) := ⟨_, rfl⟩
    have hRl : R.length = sz := by rw [hR, over_len]; simp [zeros]
    rw [← hR]
    have HR := Lib.hid hR
    have HRL := Lib.hid hRl
    clear hR hRl
    have y1 : (sz : Int) ≤ 4096 := by omega
    go_enter Tryz.func29, Tryz.ntmps29
    go_wp2_with (with_reducible refine st_box ?_)
    refine StopOp.go rfl fun K hK => ?_
    refine wp_box (v := .agg #[.int .i64 k, .int .i64 n, .int .i64 a, .slice aob l.length capb, .bool false, fv]) (by rfl) ?_
    intro q w1 hq1 hq2 hm1 hQ
    simp only [put_some, List.set_cons_succ, List.set_cons_zero]
    refine hK _ _ ?_
    clear hK K
    have hQ1 : Blk w1 q 35 [.int .i64 k, .int .i64 n, .int .i64 a, .slice aob l.length capb, .bool false, fv] := hQ
    have q4 := hQ1.cell' (i := 4) rfl
    clear hQ
    go_wp2_with (with_reducible refine st_make ?_)
    refine StopOp.go rfl fun K hK => ?_
    refine wp_make (nl := sz) (nc := sz) stB (by rfl) (by rfl) rfl rfl (Nat.le_refl _) (by omega) (by omega) ?_
    intro g w2 hg1 hg2 hm2 hB2
    simp only [put_some, List.set_cons_succ, List.set_cons_zero]
    refine hK _ _ ?_
    clear hK K
    rw [show (List.replicate sz (Value.int .u8 0).cells.toList).flatten = bv (zeros sz) ++ [] from by rw [List.append_nil]; exact (bv_zeros sz).symm] at hB2
    have hQ2 := hQ1.ext hm2
    have q3 := hQ2.cell' (i := 3) rfl
    have hb2 : Bs w2 _ l := (hb.ext hm1).ext hm2
    go_wp2_with (with_reducible refine st_copy ?_)
    refine StopOp.go rfl fun K hK => ?_
    refine wp_copy_head (min l.length sz) (cap := sz) rfl Tryz.underlying32 (by kernel_rfl) (by rfl) (by rfl) hB2 (by rw [bv_length]; simp [zeros]) hb2 (bv_one l) ?_
    intro w3 hB3 hm3
    simp only [put_some, List.set_cons_succ, List.set_cons_zero]
    refine hK _ _ ?_
    clear hK K
    have hR3 : Ob w3 (.slice (some ⟨g, 0, none⟩) R.length R.length) R := by
      have e : (bv l).take (min l.length sz) ++ (bv (zeros sz)).drop (min l.length sz) = bv R := by
        rw [HR.out]
        unfold over
        have e1 : (zeros sz).length = sz := by simp [zeros]
        rw [e1]
        unfold bv
        rw [List.map_append, List.map_take, List.map_drop]
      rw [e] at hB3
      exact Ow.of_blk hB3 (Nat.le_refl _) (by rw [HRL.out]; omega) (by rw [List.append_nil, bv_length]; simp) (by rw [bv_length]; simp)
    rw [HRL.out] at hR3
    go_wp2_with fail
    go_ret
    have := hm1.size
    exact ⟨_, rfl, hR3, fun b hb => by have e : b = g := (by simpa [blks] using hb); omega, (hm1.ext hm2).fresh hm3 (by simp; omega)⟩
def AskP (W w : World) (p q : Nat) (v : Pv) (L : List Nat) (o : Pop) (e : Ending) (w' : World) : Prop :=
  ∃ rv L', e = .returned (.tuple #[rv, .int .i64 (v.e (doE v.m o))]) ∧ Ob w' rv (askB v o) ∧ New w rv ∧ Ps W w' p q (askV v o) L' ∧ Mod (p :: L) w w' ∧ ∀ k ∈ L', k ∈ L ∨ w.heap.size ≤ k
set_option maxRecDepth 1000000 in
set_option maxHeartbeats 4000000 in
theorem asks_any (W w : World) (p q : Nat) (v : Pv) (L : List Nat) (o : Pop) (hP : Ps W w p q v L) (ho : OkPop W o) (hn : v.n ≤ 1000000) (hr : v.m.row.length ≤ 1000000) :
    Calls Tryz.prog 17 #[.pointer (some ⟨p, 0, none⟩), .agg o.cells.toArray] w (AskP W w p q v L o) := by
  have hl := ho.l
  have hone := Sl.one ho.fs
  have hb0 : Bs w o.bw o.l := ho.b.ext hP.m
  have BK := fun w h => block_any o v.m.sz w h hl hone hP.d.ok.m.s2
  have hBl := blkL_le (o := o) hl hP.d.ok.m.s2
  unfold AskP
  by_cases h1 : o.k = 1
  · have e1 : doE v.m o = writeE v.m o.a (blkL o v.m.sz).length := if_pos h1
    have e2 : askB v o = [] := if_neg (by omega)
    have e3 : askV v o = v.wr o.a (blkL o v.m.sz) := if_pos h1
    rw [e1, e2, e3]
    clear e1 e2 e3
    have SI := fun w h => pSize_any p q v L w h
    obtain ⟨sz, hsz⟩ : ∃ s, s = v.m.sz := ⟨_, rfl⟩
    obtain ⟨B, hB⟩ : ∃ B, B = blkL o v.m.sz := ⟨_, rfl⟩
    rw [← hsz] at hB BK SI
    rw [← hB] at BK
    rw [← hsz, ← hB] at hBl ⊢
    have WR := fun w bw h hb hbp => pWrite_any p q v L o.a B bw w h hb hbp hn hr
    obtain ⟨E, hE⟩ : ∃ E, E = v.e (writeE v.m o.a B.length) := ⟨_, rfl⟩
    obtain ⟨V, hV⟩ : ∃ V, V = v.wr o.a B := ⟨_, rfl⟩
    rw [← hE, ← hV] at WR ⊢
    clear hE hV hsz hB
    obtain ⟨k, n, a, bw, l, raw, fv, F⟩ := o
    dsimp only at hl hone hb0 BK WR h1
    subst h1
    unfold Pop.cells at BK ⊢
    dsimp only at BK ⊢
    obtain ⟨aob, capb, rfl, _, _⟩ := hb0.form
    obtain ⟨aof, capf, hfe, _, _⟩ := ho.fs.form
    dsimp only at hfe
    subst hfe
    go_enter Tryz.func17, Tryz.ntmps17
    go_wp2_with (with_reducible refine st_box ?_)
    refine StopOp.go rfl fun K hK => ?_
    refine wp_box (v := .agg #[.int .i64 1, .int .i64 n, .int .i64 a, .slice aob l.length capb, .bool raw, .slice aof F.length capf]) (by rfl) ?_
    intro c w1 hc1 hc2 hm1 hQ
    simp only [put_some, List.set_cons_succ, List.set_cons_zero]
    refine hK _ _ ?_
    clear hK K
    have hQ1 : Blk w1 c 35 [.int .i64 1, .int .i64 n, .int .i64 a, .slice aob l.length capb, .bool raw, .slice aof F.length capf] := hQ
    have q0 := hQ1.cell' (i := 0) rfl
    clear hQ
    go_wp2_with fail
    refine wp_region_T [⟨0, true, []⟩, ⟨1, true, []⟩, ⟨2, true, []⟩, ⟨3, true, []⟩, ⟨4, true, []⟩, ⟨5, false, [2, 3]⟩, ⟨6, false, [2]⟩, ⟨7, false, []⟩, ⟨8, true, []⟩, ⟨9, true, []⟩] (by kernel_rfl) (by kernel_rfl) ?_
    have hmA := hm1.ext (Mod.drew [] _)
    have hQ2 := hQ1.ext (Mod.drew [] w1)
    obtain ⟨w2, hw2⟩ : ∃ x, x = w1.drew := ⟨_, rfl⟩
    rw [← hw2] at hmA hQ2 ⊢
    clear hw2 q0
    have hP2 := hP.ext hmA
    have hPd := hP2.d
    have hb2 : Bs w2 _ l := hb0.ext hmA
    have q0 := hQ2.cell' (i := 0) rfl
    have q1 := hQ2.cell' (i := 1) rfl
    have q2 := hQ2.cell' (i := 2) rfl
    have q3 := hQ2.cell' (i := 3) rfl
    have q4 := hQ2.cell' (i := 4) rfl
    have q5 := hQ2.cell' (i := 5) rfl
    iterate 5 (refine wpT_n rfl rfl (fun K hK => ?_); go_wp2_with fail)
    refine wpT_callh rfl rfl (fun K hK => ?_)
    go_wp2_with (go_at_call 52; (with_reducible refine (SI _ hPd).mono ?_); rintro e w3 ⟨rfl, rfl⟩)
    refine ⟨agains_same, ?_⟩
    refine wpT_callh rfl rfl (fun K hK => ?_)
    go_wp2_with (go_at_call 29; refine (BK _ hb2).mono ?_; rintro e w4 ⟨v4, rfl, ho4, hn4, hm4⟩)
    refine ⟨agains_cons rfl (again_load rfl rfl (hm4.block c hQ2.lt (by simp)) hQ2.kinds) agains_nil, ?_⟩
    have hP4 := hP2.ext hm4
    have hPd4 := hP4.d
    obtain ⟨ao4, cap4, rfl, _, _⟩ := ho4.sl.form
    refine wpT_call rfl rfl (fun K hK => ?_)
    go_wp2_with (go_at_call 22; refine (WR _ _ hPd4 (Ob.bs ho4) (fun b hb e => by have := hn4 b hb; have := hPd.b.lt; omega)).mono ?_; rintro e w5 ⟨rfl, hp5⟩)
    obtain ⟨L5, k1, k2, k3⟩ := hp5
    iterate 2 (refine wpT_n rfl rfl (fun K hK => ?_); go_wp2_with fail)
    refine wpT_nil ?_
    go_wp2_with fail
    go_ret2
    have hm14 := hmA.ext hm4
    have s14 := hm14.size
    exact ⟨.slice none 0 0, L5, rfl, Ob.nil _, by simp [New, blks], hP4.turn k1 k2 k3, (hm14.weak (by simp)).trans k2, fun k hk => (k3 k hk).imp id (fun h => by omega)⟩
  · by_cases h2 : o.k = 2
    · have e1 : doE v.m o = noneE v.m.dur.length o.a := by unfold doE; rw [if_neg h1, if_pos h2]
      have e2 : askB v o = v.rd o.a := if_pos h2
      have e3 : askV v o = v.md := by unfold askV; rw [if_neg h1, if_pos h2]
      rw [e1, e2, e3]
      clear e1 e2 e3
      have RD := fun w h => pRead_any p q v L o.a w h hn
      obtain ⟨E, hE⟩ : ∃ E, E = v.e (noneE v.m.dur.length o.a) := ⟨_, rfl⟩
      obtain ⟨V, hV⟩ : ∃ V, V = v.md := ⟨_, rfl⟩
      obtain ⟨B, hB⟩ : ∃ V, V = v.rd o.a := ⟨_, rfl⟩
      rw [← hE, ← hV, ← hB] at RD ⊢
      clear hE hV hB BK hBl h1
      obtain ⟨k, n, a, bw, l, raw, fv, F⟩ := o
      dsimp only at hl hone hb0 RD h2
      subst h2
      unfold Pop.cells
      dsimp only
      obtain ⟨aob, capb, rfl, _, _⟩ := hb0.form
      obtain ⟨aof, capf, hfe, _, _⟩ := ho.fs.form
      dsimp only at hfe
      subst hfe
      go_enter Tryz.func17, Tryz.ntmps17
      go_wp2_with (with_reducible refine st_box ?_)
      refine StopOp.go rfl fun K hK => ?_
      refine wp_box (v := .agg #[.int .i64 2, .int .i64 n, .int .i64 a, .slice aob l.length capb, .bool raw, .slice aof F.length capf]) (by rfl) ?_
      intro c w1 hc1 hc2 hm1 hQ
      simp only [put_some, List.set_cons_succ, List.set_cons_zero]
      refine hK _ _ ?_
      clear hK K
      have hQ1 : Blk w1 c 35 [.int .i64 2, .int .i64 n, .int .i64 a, .slice aob l.length capb, .bool raw, .slice aof F.length capf] := hQ
      have q0 := hQ1.cell' (i := 0) rfl
      have q2 := hQ1.cell' (i := 2) rfl
      clear hQ
      have hP1 := hP.ext hm1
      have hPd := hP1.d
      go_wp2_with (go_at_call 24; (with_reducible refine (RD _ hPd).mono ?_); rintro e w3 ⟨v3, rfl, ho3, hn3, hP3, hm3⟩)
      go_ret2
      have s1 := hm1.size
      exact ⟨v3, L, rfl, ho3, fun b hb => Nat.le_trans s1 (hn3 b hb), hP1.turn hP3 (hm3.weak (by simp)) (fun k hk => .inl hk), (hm1.weak (by simp)).then hm3 (fun g hg => .inl (by have e : g = p := (by simpa using hg); rw [e]; exact List.mem_cons_self)), fun k hk => .inl hk⟩
    · have e1 : doE v.m o = 0 := by unfold doE; rw [if_neg h1, if_neg h2]
      have e2 : askB v o = [] := if_neg h2
      have e3 : askV v o = v.sy := by unfold askV; rw [if_neg h1, if_neg h2]
      rw [e1, e2, e3]
      clear e1 e2 e3
      have SY := fun w h => pSync_any p q v L w h hn hr
      obtain ⟨E, hE⟩ : ∃ E, E = v.e 0 := ⟨_, rfl⟩
      obtain ⟨V, hV⟩ : ∃ V, V = v.sy := ⟨_, rfl⟩
      rw [← hE, ← hV] at SY ⊢
      clear hE hV BK hBl
      obtain ⟨k, n, a, bw, l, raw, fv, F⟩ := o
      dsimp only at hl hone hb0 h2 h1
      have b1 : (k == 1) = false := by rw [beq_eq_false_iff_ne]; exact h1
      have b2 : (k == 2) = false := by rw [beq_eq_false_iff_ne]; exact h2
      clear h1 h2
      unfold Pop.cells
      dsimp only
      obtain ⟨aob, capb, rfl, _, _⟩ := hb0.form
      obtain ⟨aof, capf, hfe, _, _⟩ := ho.fs.form
      dsimp only at hfe
      subst hfe
      go_enter Tryz.func17, Tryz.ntmps17
      go_wp2_with (with_reducible refine st_box ?_)
      refine StopOp.go rfl fun K hK => ?_
      refine wp_box (v := .agg #[.int .i64 k, .int .i64 n, .int .i64 a, .slice aob l.length capb, .bool raw, .slice aof F.length capf]) (by rfl) ?_
      intro c w1 hc1 hc2 hm1 hQ
      simp only [put_some, List.set_cons_succ, List.set_cons_zero]
      refine hK _ _ ?_
      clear hK K
      have hQ1 : Blk w1 c 35 [.int .i64 k, .int .i64 n, .int .i64 a, .slice aob l.length capb, .bool raw, .slice aof F.length capf] := hQ
      have q0 := hQ1.cell' (i := 0) rfl
      clear hQ
      have hP1 := hP.ext hm1
      have hPd := hP1.d
      go_wp2_with (go_at_call 16; (with_reducible refine (SY _ hPd).mono ?_); rintro e w3 ⟨rfl, hp3⟩)
      obtain ⟨L3, k1, k2, k3⟩ := hp3
      go_ret2
      have s1 := hm1.size
      exact ⟨.slice none 0 0, L3, rfl, Ob.nil _, by simp [New, blks], hP1.turn k1 k2 k3, (hm1.weak (by simp)).trans k2, fun k hk => (k3 k hk).imp id (fun h => by omega)⟩
def DoP (w : World) (q : Nat) (m : Dm) (L : List Nat) (o : Pop) (e : Ending) (w' : World) : Prop :=
  ∃ rv L', e = .returned (.tuple #[rv, .int .i64 (doE m o)]) ∧ Ob w' rv (doB m o) ∧ New w rv ∧ Dk w' q (doM m o) L' ∧ (doM m o).ok ∧ Mod L w w' ∧ ∀ k ∈ L', k ∈ L ∨ w.heap.size ≤ k
end Go.Proofs.YtdmnogmhnhjdgaaGreat
