import Derived.Test.YtdmnogmhnhjdgaaGreatGPw
import Derived.Test.YtdmnogmhnhjdgaaGreatPwE
import Derived.Test.YtdmnogmhnhjdgaaGreatLentC
import Derived.Test.YtdmnogmhnhjdgaaGreatApartB
/-! Devices: a script's steps, on both devices at once. -/
set_option linter.unusedVariables false
set_option linter.unusedSimpArgs false
set_option maxRecDepth 100000
namespace Go.Proofs.YtdmnogmhnhjdgaaGreat
open Go.RowKit Gw

/-- two devices, the program's and the document's, of one's own -/
structure Pq (W w : World) (p q p' q' : Nat) (v u : Pv) (L M : List Nat) : Prop where
  d : Pd w p q v L
  r : Pr w p' q' u M
  ap : ∀ k ∈ p :: L, k ∉ p' :: M
  m : Mod [] W w
  g1 : ∀ k ∈ p :: L, W.heap.size ≤ k
  g2 : ∀ k ∈ p' :: M, W.heap.size ≤ k
section
variable {W w w' : World} {p q p' q' : Nat} {v u v' u' : Pv} {L M L' M' G : List Nat}
theorem Pd.lt (h : Pd w p q v L) : ∀ k ∈ p :: L, k < w.heap.size := fun k hk => (List.mem_cons.1 hk).elim (fun e => e ▸ h.b.lt) (h.d.lt k)
theorem Pr.lt (h : Pr w p q v L) : ∀ k ∈ p :: L, k < w.heap.size := fun k hk => (List.mem_cons.1 hk).elim (fun e => e ▸ h.b.lt) (h.d.lt k)
theorem Pd.keep (h : Pd w p q v L) (hm : Mod G w w') (hG : ∀ k ∈ p :: L, k ∉ G) : Pd w' p q v L := h.mod hm (hG p List.mem_cons_self) (fun b hb => hG b (List.mem_cons_of_mem _ hb))
theorem Pr.keep (h : Pr w p q v L) (hm : Mod G w w') (hG : ∀ k ∈ p :: L, k ∉ G) : Pr w' p q v L := h.mod hm (hG p List.mem_cons_self) (fun b hb => hG b (List.mem_cons_of_mem _ hb))
theorem Pq.ext (h : Pq W w p q p' q' v u L M) (hm : Mod [] w w') : Pq W w' p q p' q' v u L M := ⟨h.d.ext hm, h.r.ext hm, h.ap, h.m.ext hm, h.g1, h.g2⟩
theorem Pq.keep (h : Pq W w p q p' q' v u L M) (hm : Mod G w w') (h1 : ∀ k ∈ p :: L, k ∉ G) (h2 : ∀ k ∈ p' :: M, k ∉ G) (hG : ∀ g ∈ G, W.heap.size ≤ g) : Pq W w' p q p' q' v u L M :=
  ⟨h.d.keep hm h1, h.r.keep hm h2, h.ap, h.m.fresh hm hG, h.g1, h.g2⟩
/-- the program's device has turned -/
theorem Pq.dt (h : Pq W w p q p' q' v u L M) (hd : Pd w' p q v' L') (hm : Mod (p :: L) w w') (hL : ∀ k ∈ L', k ∈ L ∨ w.heap.size ≤ k) : Pq W w' p q p' q' v' u L' M := by
  have hL2 : ∀ k ∈ p :: L', k ∈ p :: L ∨ w.heap.size ≤ k := fun k hk => (List.mem_cons.1 hk).elim (fun e => .inl (by simp [e])) (fun h1 => (hL k h1).imp (fun h2 => List.mem_cons_of_mem _ h2) id)
  refine ⟨hd, h.r.keep hm (fun k hk hh => h.ap k hh hk), fun k hk hh => ?_, h.m.fresh hm h.g1, fun k hk => (hL2 k hk).elim (h.g1 k) (fun h1 => by have := h.m.size; omega), h.g2⟩
  rcases hL2 k hk with h1 | h1
  · exact h.ap k h1 hh
  · have := h.r.lt k hh; omega
/-- the document's device has turned -/
theorem Pq.rt (h : Pq W w p q p' q' v u L M) (hd : Pr w' p' q' u' M') (hm : Mod (p' :: M) w w') (hL : ∀ k ∈ M', k ∈ M ∨ w.heap.size ≤ k) : Pq W w' p q p' q' v u' L M' := by
  have hL2 : ∀ k ∈ p' :: M', k ∈ p' :: M ∨ w.heap.size ≤ k := fun k hk => (List.mem_cons.1 hk).elim (fun e => .inl (by simp [e])) (fun h1 => (hL k h1).imp (fun h2 => List.mem_cons_of_mem _ h2) id)
  refine ⟨h.d.keep hm h.ap, hd, fun k hk hh => ?_, h.m.fresh hm h.g2, h.g1, fun k hk => (hL2 k hk).elim (h.g2 k) (fun h1 => by have := h.m.size; omega)⟩
  rcases hL2 k hh with h1 | h1
  · exact h.ap k hk h1
  · have := h.d.lt k hk; omega
/-- the disk under the program's device has turned -/
theorem Pd.under (h : Pd w p q v L) {m : Dm} (hd : Ld w' (.pointer (some ⟨q, 0, none⟩)) (some m) L') (hm : Mod L w w') (hL : ∀ k ∈ L', k ∈ L ∨ w.heap.size ≤ k) : Pd w' p q (v.at m) L' := by
  obtain ⟨q2, e1, e2, e3⟩ := hd
  injection e1 with e1
  injection e1 with e1
  injection e1 with e1
  subst e1
  refine ⟨h.b.mod hm h.pl, e2, Pv.at_ok h.ok e3, fun hh => ?_⟩
  rcases hL p hh with h1 | h1
  · exact h.pl h1
  · have := h.b.lt; omega
theorem Pr.under (h : Pr w p q v L) {m : Dm} (hd : Lr w' (.pointer (some ⟨q, 0, none⟩)) (some m) L') (hm : Mod L w w') (hL : ∀ k ∈ L', k ∈ L ∨ w.heap.size ≤ k) : Pr w' p q (v.at m) L' := by
  obtain ⟨q2, e1, e2, e3⟩ := hd
  injection e1 with e1
  injection e1 with e1
  injection e1 with e1
  subst e1
  refine ⟨h.b.mod hm h.pl, e2, Pv.at_ok h.ok e3, fun hh => ?_⟩
  rcases hL p hh with h1 | h1
  · exact h.pl h1
  · have := h.b.lt; omega
end
/-- what a step makes of both -/
def stepV (v : Pv) (o : Pop) : Pv :=
  if o.k = 1 then v.wr o.a (blkL o v.m.sz) else if o.k = 2 then v.md else if o.k = 3 then v.sy else if o.k = 4 then v.arm o.a else if o.k = 5 then v.re o.F
  else if o.k = 7 then v.at (wrM v.m o.a (blkL o v.m.sz)) else if o.k = 8 then v.at v.m.sync else v
def StepP (W w : World) (p q p' q' : Nat) (v' : Pv) (L M : List Nat) (e : Ending) (w' : World) : Prop :=
  ∃ L' M', e = .returned (.bool true) ∧ Pq W w' p q p' q' v' v' L' M' ∧ Mod ((p :: L) ++ (p' :: M)) w w' ∧ ∀ k ∈ (p :: L') ++ (p' :: M'), k ∈ (p :: L) ++ (p' :: M) ∨ w.heap.size ≤ k
theorem fs_keep {w w' : World} {v : Value} {F : List (Int × Int)} {G : List Nat} (h : Fs w v F) (hm : Mod G w w') (hG : F ≠ [] → ∀ b ∈ blks v, b ∉ G) : Fs w' v F :=
  Sl.keep h fun b hb hx => hm.block b (Sl.lt h hx b hb) (hG (fun e => hx (by rw [e]; rfl)) b hb)
theorem rd_le {v : Pv} (h : v.ok) (a : Int) : (v.rd a).length ≤ 140737488355000 := by
  unfold Pv.rd
  split
  · unfold oR
    dsimp only
    split
    · rename_i h0
      obtain ⟨h1, h2⟩ := noneE_zero h0
      have := h.m.s2
      rw [h.m.read (by omega)]
      omega
    · simp
  · simp
/-- how a step goes on, kept in one -/
structure Sg (W w0 w : World) (p q p' q' : Nat) (v u : Pv) (L0 M0 L M : List Nat) : Prop where
  h : Pq W w p q p' q' v u L M
  mo : Mod ((p :: L0) ++ (p' :: M0)) w0 w
  nw : ∀ k ∈ (p :: L) ++ (p' :: M), k ∈ (p :: L0) ++ (p' :: M0) ∨ w0.heap.size ≤ k
section
variable {W w0 w w' : World} {p q p' q' : Nat} {v u v' u' : Pv} {L0 M0 L M L' M' G : List Nat}
theorem Sg.start (h : Pq W w p q p' q' v u L M) : Sg W w w p q p' q' v u L M L M := ⟨h, Mod.refl _ _, fun k hk => .inl hk⟩
theorem Sg.ext (h : Sg W w0 w p q p' q' v u L0 M0 L M) (hm : Mod [] w w') : Sg W w0 w' p q p' q' v u L0 M0 L M := ⟨h.h.ext hm, h.mo.ext hm, h.nw⟩
theorem Sg.keep (h : Sg W w0 w p q p' q' v u L0 M0 L M) (hm : Mod G w w') (h1 : ∀ k ∈ p :: L, k ∉ G) (h2 : ∀ k ∈ p' :: M, k ∉ G) (hG : ∀ g ∈ G, w0.heap.size ≤ g) (hW : W.heap.size ≤ w0.heap.size) : Sg W w0 w' p q p' q' v u L0 M0 L M :=
  ⟨h.h.keep hm h1 h2 (fun g hg => Nat.le_trans hW (hG g hg)), h.mo.then hm (fun g hg => .inr (hG g hg)), h.nw⟩
theorem Sg.dt (h : Sg W w0 w p q p' q' v u L0 M0 L M) (hd : Pd w' p q v' L') (hm : Mod (p :: L) w w') (hL : ∀ k ∈ L', k ∈ L ∨ w.heap.size ≤ k) : Sg W w0 w' p q p' q' v' u L0 M0 L' M :=
  ⟨h.h.dt hd hm hL, h.mo.then hm (fun g hg => h.nw g (List.mem_append_left _ hg)), fun k hk => by
    have s := h.mo.size
    rcases List.mem_append.1 hk with hk | hk
    · rcases List.mem_cons.1 hk with e | hk
      · exact h.nw k (by simp [e])
      · rcases hL k hk with h1 | h1
        · exact h.nw k (by simp [h1])
        · exact .inr (by omega)
    · exact h.nw k (List.mem_append_right _ hk)⟩
theorem Sg.rt (h : Sg W w0 w p q p' q' v u L0 M0 L M) (hd : Pr w' p' q' u' M') (hm : Mod (p' :: M) w w') (hL : ∀ k ∈ M', k ∈ M ∨ w.heap.size ≤ k) : Sg W w0 w' p q p' q' v u' L0 M0 L M' :=
  ⟨h.h.rt hd hm hL, h.mo.then hm (fun g hg => h.nw g (List.mem_append_right _ hg)), fun k hk => by
    have s := h.mo.size
    rcases List.mem_append.1 hk with hk | hk
    · exact h.nw k (List.mem_append_left _ hk)
    · rcases List.mem_cons.1 hk with e | hk
      · exact h.nw k (by simp [e])
      · rcases hL k hk with h1 | h1
        · exact h.nw k (by simp [h1])
        · exact .inr (by omega)⟩
theorem Sg.fin (h : Sg W w0 w p q p' q' v v L0 M0 L M) : StepP W w0 p q p' q' v L0 M0 (.returned (.bool true)) w := ⟨L, M, rfl, h.h, h.mo, h.nw⟩
end
set_option maxRecDepth 1000000 in
set_option maxHeartbeats 4000000 in
theorem step1_any (W w : World) (p q p' q' : Nat) (uv : Option Addr) (v : Pv) (L M : List Nat) (o : Pop) (hP : Pq W w p q p' q' v v L M) (ho : OkPop W o) (hn : v.n ≤ 1000000) (hr : v.m.row.length ≤ 1000000) (hk : o.k = 1) :
    Calls Tryz.prog 8 #[.agg #[.pointer (some ⟨p, 0, none⟩), .pointer uv, .pointer (some ⟨p', 0, none⟩)], .agg o.cells.toArray] w (StepP W w p q p' q' (stepV v o) L M) := by
  have hl := ho.l
  have hone := Sl.one ho.fs
  have hold := ho.old
  have hb0 : Bs w o.bw o.l := ho.b.ext hP.m
  have hF0 : Fs w o.fv o.F := Sl.ext ho.fs hP.m
  have hWw := hP.m.size
  have BK := fun w h => block_any o v.m.sz w h hl hone hP.d.ok.m.s2
  have hBl := blkL_le (o := o) hl hP.d.ok.m.s2
  have SI := fun w M h => qSize_any p' q' v M w h
  have hoa := ho.a
  have hof := ho.f
  have es : stepV v o = v.wr o.a (blkL o v.m.sz) := if_pos hk
  rw [es]
  obtain ⟨sz, hsz⟩ : ∃ s, s = v.m.sz := ⟨_, rfl⟩
  obtain ⟨B, hB⟩ : ∃ B, B = blkL o v.m.sz := ⟨_, rfl⟩
  rw [← hsz] at hB BK SI
  rw [← hB] at BK
  rw [← hsz, ← hB] at hBl
  rw [← hsz, ← hB]
  have WR := fun w bw h hb hbp => pWrite_any p q v L o.a B bw w h hb hbp hn hr
  have WQ := fun w bw h hb hbp => qWrite_any p' q' v M o.a B bw w h hb hbp hn hr
  obtain ⟨E, hE⟩ : ∃ E, E = v.e (writeE v.m o.a B.length) := ⟨_, rfl⟩
  obtain ⟨V, hV⟩ : ∃ V, V = v.wr o.a B := ⟨_, rfl⟩
  rw [← hE] at WR WQ
  rw [← hV] at WR WQ ⊢
  have HH := Lib.hid (And.intro hB (And.intro hE (And.intro hV (And.intro es hsz))))
  clear hE hV hB es hsz
  obtain ⟨k, n, a, bw, l, raw, fv, F⟩ := o
  dsimp only at hl hone hb0 hF0 hold hk hoa hof HH
  unfold Pop.cells at BK ⊢
  dsimp only at BK ⊢
  obtain ⟨aob, capb, rfl, _, _⟩ := hb0.form
  obtain ⟨aof, capf, rfl, _, _⟩ := hF0.form
  subst hk
  dsimp only at WR WQ
  go_enter Tryz.func8, Tryz.ntmps8
  go_wp2_with (with_reducible refine st_box ?_)
  refine StopOp.go rfl fun K hK => ?_
  refine wp_box (v := .agg #[.pointer (some ⟨p, 0, none⟩), .pointer uv, .pointer (some ⟨p', 0, none⟩)]) (by rfl) ?_
  intro t w1 ht1 ht2 hm1 hT
  simp only [put_some, List.set_cons_succ, List.set_cons_zero]
  refine hK _ _ ?_
  clear hK K
  have hT1 : Blk w1 t 28 [.pointer (some ⟨p, 0, none⟩), .pointer uv, .pointer (some ⟨p', 0, none⟩)] := hT
  clear hT
  go_wp2_with (with_reducible refine st_box ?_)
  refine StopOp.go rfl fun K hK => ?_
  refine wp_box (v := .agg #[.int .i64 1, .int .i64 n, .int .i64 a, .slice aob l.length capb, .bool raw, .slice aof F.length capf]) (by rfl) ?_
  intro c w2 hc1 hc2 hm2 hQ
  simp only [put_some, List.set_cons_succ, List.set_cons_zero]
  refine hK _ _ ?_
  clear hK K
  have hQ2 : Blk w2 c 35 [.int .i64 1, .int .i64 n, .int .i64 a, .slice aob l.length capb, .bool raw, .slice aof F.length capf] := hQ
  clear hQ
  go_wp2_with fail
  refine wp_region_T [⟨0, true, []⟩, ⟨1, true, []⟩, ⟨2, true, []⟩, ⟨3, false, [0]⟩, ⟨4, false, []⟩, ⟨5, true, []⟩] (by kernel_rfl) (by kernel_rfl) ?_
  have hmA := (hm1.ext hm2).ext (Mod.drew [] _)
  have hT3 := (hT1.ext hm2).ext (Mod.drew [] _)
  have hQ3 := hQ2.ext (Mod.drew [] _)
  obtain ⟨w3, hw3⟩ : ∃ x, x = w2.drew := ⟨_, rfl⟩
  rw [← hw3] at hmA hT3 hQ3 ⊢
  clear hw3 hT1 hQ2
  have hS3 := (Sg.start hP).ext hmA
  have hR3 := hS3.h.r
  have hb3 : Bs w3 _ l := hb0.ext hmA
  have t0 := hT3.cell' (i := 0) rfl
  have t1 := hT3.cell' (i := 1) rfl
  have t2 := hT3.cell' (i := 2) rfl
  have c0 := hQ3.cell' (i := 0) rfl
  have c1 := hQ3.cell' (i := 1) rfl
  have c2 := hQ3.cell' (i := 2) rfl
  have c3 := hQ3.cell' (i := 3) rfl
  have c4 := hQ3.cell' (i := 4) rfl
  have c5 := hQ3.cell' (i := 5) rfl
  iterate 3 (refine wpT_n rfl rfl (fun K hK => ?_); go_wp2_with fail)
  refine wpT_callh rfl rfl (fun K hK => ?_)
  go_wp2_with (go_at_call 30; (with_reducible refine (SI _ _ hR3).mono ?_); rintro e w4 ⟨rfl, rfl⟩)
  refine ⟨agains_same, ?_⟩
  refine wpT_call rfl rfl (fun K hK => ?_)
  go_wp2_with (go_at_call 29; refine (BK _ hb3).mono ?_; rintro e w4 ⟨v4, rfl, ho4, hn4, hm4⟩)
  obtain ⟨ao4, cap4, rfl, _, _⟩ := ho4.sl.form
  have hS4 := hS3.ext hm4
  have hT4 := hT3.ext hm4
  have hQ4 := hQ3.ext hm4
  have s13 := hmA.size
  have s34 := hm4.size
  have tp : t ≠ c := by have := hm1.size; omega
  clear t0 t1 t2 c0 c1 c2 c3 c4 c5 hT3 hQ3 hR3 hb3 hS3
  have t0 := hT4.cell' (i := 0) rfl
  have t1 := hT4.cell' (i := 1) rfl
  have t2 := hT4.cell' (i := 2) rfl
  have c0 := hQ4.cell' (i := 0) rfl
  have c1 := hQ4.cell' (i := 1) rfl
  have c2 := hQ4.cell' (i := 2) rfl
  have c3 := hQ4.cell' (i := 3) rfl
  have c4 := hQ4.cell' (i := 4) rfl
  have c5 := hQ4.cell' (i := 5) rfl
  refine wpT_n rfl rfl (fun K hK => ?_)
  go_wp2_with fail
  refine wpT_nil ?_
  go_wp2_with fail
  have htL : t ∉ (p :: L) ++ (p' :: M) := fun hh => by
    rcases List.mem_append.1 hh with h1 | h1
    · have := hP.d.lt t h1; omega
    · have := hP.r.lt t h1; omega
  have hcL : c ∉ (p :: L) ++ (p' :: M) := fun hh => by
    rcases List.mem_append.1 hh with h1 | h1
    · have := hP.d.lt c h1; have := hm1.size; omega
    · have := hP.r.lt c h1; have := hm1.size; omega
  have hvL : ∀ b ∈ blks (.slice ao4 B.length cap4), b ∉ (p :: L) ++ (p' :: M) := fun b hb hh => by
    have h0 := hn4 b hb
    rcases List.mem_append.1 hh with h1 | h1
    · have := hP.d.lt b h1; omega
    · have := hP.r.lt b h1; omega
  have LB := fun w v h => lent_any B v w h (by omega)
  have KB := fun w g cap v h hv => kept_any g cap B v w h hv
  have OB := fun w g cap h => over_any g cap B w h (by omega)
  have hs4 := Ob.bs ho4
  go_wp2_with (first
                | (go_at_call 31; refine (LB _ _ hs4).mono ?_; rintro e w5 ⟨g, capg, rfl, hg, hL5, hm5⟩; have hS5 := hS4.ext hm5; have hd5 := hS5.h.d; have hT5 := hT4.ext hm5; have hQ5 := hQ4.ext hm5; have e0 := hT5.cell' (i := 0) rfl; have e2 := hQ5.cell' (i := 2) rfl)
                | (go_at_call 22; refine (WR _ _ hd5 hL5.bs (fun b hb e => by have e2 : b = g := (by simpa [blks] using hb); have := hP.d.b.lt; omega)).mono ?_; rintro e w6 ⟨rfl, hp6⟩; obtain ⟨L6, k1, k2, k3⟩ := hp6; have hS6 := hS5.dt k1 k2 k3; have hgL : g ∉ p :: L := (fun hh => by have := hP.d.lt g hh; omega); have hgM : g ∉ p' :: M := (fun hh => by have := hP.r.lt g hh; omega); have hg5 : g < w5.heap.size := (by obtain ⟨_, hB, _⟩ := hL5; exact hB.lt); have hg6 : g ∉ p :: L6 := (fun hh => (List.mem_cons.1 hh).elim (fun e => hgL (by simp [e])) (fun h1 => (k3 g h1).elim (fun h2 => hgL (List.mem_cons_of_mem _ h2)) (fun h2 => by omega))); have hL6 := hL5.mod k2 hgL; have ho6 : Ob w6 (.slice ao4 B.length cap4) B := Ow.mod (Ob.ext ho4 hm5) k2 (fun b hb hh => hvL b hb (List.mem_append_left _ hh)); have hs6 := Ob.bs ho6; have hT6 := hT5.mod k2 (fun hh => htL (List.mem_append_left _ hh)); have hQ6 := hQ5.mod k2 (fun hh => hcL (List.mem_append_left _ hh)))
                | (go_at_call 32; refine (KB _ _ _ _ hL6 hs6).mono ?_; rintro e w7 ⟨rfl, hm7⟩; have hS7 := hS6.ext hm7; have hL7 := hL6.ext hm7)
                | (go_at_call 33; refine (OB _ _ _ hL7).mono ?_; rintro e w8 ⟨rfl, hm8⟩; have hS8 := hS7.keep hm8 (fun k hk hh => hg6 (List.mem_singleton.1 hh ▸ hk)) (fun k hk hh => hgM (List.mem_singleton.1 hh ▸ hk)) (fun k hk => by rw [List.mem_singleton.1 hk]; omega) hWw; have hT8 := (hT6.ext hm7).mod hm8 (by have := hT4.lt; simp; omega); have hQ8 := (hQ6.ext hm7).mod hm8 (by have := hQ4.lt; simp; omega); have f2 := hT8.cell' (i := 2) rfl; have g2 := hQ8.cell' (i := 2) rfl; have hs8 := Ob.bs (Ow.mod (Ob.ext ho6 hm7) hm8 (fun b hb hh => by have e : b = g := (by simpa using hh); have := Ow.lt ho4 b hb; omega)); have hr8 := hS8.h.r)
                | (go_at_call 34; refine (WQ _ _ hr8 hs8 (fun b hb e => hvL b hb (by simp [e]))).mono ?_; rintro e w9 ⟨rfl, hp9⟩; obtain ⟨M9, j1, j2, j3⟩ := hp9; have hS9 := hS8.rt j1 j2 j3))
  go_ret
  exact hS9.fin
set_option maxRecDepth 1000000 in
set_option maxHeartbeats 4000000 in
theorem step2_any (W w : World) (p q p' q' : Nat) (uv : Option Addr) (v : Pv) (L M : List Nat) (o : Pop) (hP : Pq W w p q p' q' v v L M) (ho : OkPop W o) (hn : v.n ≤ 1000000) (hr : v.m.row.length ≤ 1000000) (hk : o.k = 2) :
    Calls Tryz.prog 8 #[.agg #[.pointer (some ⟨p, 0, none⟩), .pointer uv, .pointer (some ⟨p', 0, none⟩)], .agg o.cells.toArray] w (StepP W w p q p' q' (stepV v o) L M) := by
  have hl := ho.l
  have hone := Sl.one ho.fs
  have hold := ho.old
  have hb0 : Bs w o.bw o.l := ho.b.ext hP.m
  have hF0 : Fs w o.fv o.F := Sl.ext ho.fs hP.m
  have hWw := hP.m.size
  have BK := fun w h => block_any o v.m.sz w h hl hone hP.d.ok.m.s2
  have hBl := blkL_le (o := o) hl hP.d.ok.m.s2
  have SI := fun w M h => qSize_any p' q' v M w h
  have hoa := ho.a
  have hof := ho.f
  have es : stepV v o = v.md := by unfold stepV; rw [if_neg (by omega), if_pos hk]
  rw [es]
  obtain ⟨sz, hsz⟩ : ∃ s, s = v.m.sz := ⟨_, rfl⟩
  obtain ⟨B, hB⟩ : ∃ B, B = blkL o v.m.sz := ⟨_, rfl⟩
  rw [← hsz] at hB BK SI
  rw [← hB] at BK
  rw [← hsz, ← hB] at hBl
  have RD := fun w h => pRead_any p q v L o.a w h hn
  have RQ := fun w h => qRead_any p' q' v M o.a w h hn
  obtain ⟨E, hE⟩ : ∃ E, E = v.e (noneE v.m.dur.length o.a) := ⟨_, rfl⟩
  obtain ⟨V, hV⟩ : ∃ V, V = v.md := ⟨_, rfl⟩
  obtain ⟨D, hD⟩ : ∃ V, V = v.rd o.a := ⟨_, rfl⟩
  have hDl : D.length ≤ 140737488355000 := by rw [hD]; exact rd_le hP.d.ok o.a
  rw [← hE, ← hD] at RD RQ
  rw [← hV] at RD RQ ⊢
  have HH := Lib.hid (And.intro hB (And.intro hE (And.intro hV (And.intro es (And.intro hsz hD)))))
  clear hE hV hB es hsz hD
  obtain ⟨k, n, a, bw, l, raw, fv, F⟩ := o
  dsimp only at hl hone hb0 hF0 hold hk hoa hof HH
  unfold Pop.cells at BK ⊢
  dsimp only at BK ⊢
  obtain ⟨aob, capb, rfl, _, _⟩ := hb0.form
  obtain ⟨aof, capf, rfl, _, _⟩ := hF0.form
  subst hk
  dsimp only at RD RQ
  go_enter Tryz.func8, Tryz.ntmps8
  go_wp2_with (with_reducible refine st_box ?_)
  refine StopOp.go rfl fun K hK => ?_
  refine wp_box (v := .agg #[.pointer (some ⟨p, 0, none⟩), .pointer uv, .pointer (some ⟨p', 0, none⟩)]) (by rfl) ?_
  intro t w1 ht1 ht2 hm1 hT
  simp only [put_some, List.set_cons_succ, List.set_cons_zero]
  refine hK _ _ ?_
  clear hK K
  have hT1 : Blk w1 t 28 [.pointer (some ⟨p, 0, none⟩), .pointer uv, .pointer (some ⟨p', 0, none⟩)] := hT
  clear hT
  go_wp2_with (with_reducible refine st_box ?_)
  refine StopOp.go rfl fun K hK => ?_
  refine wp_box (v := .agg #[.int .i64 2, .int .i64 n, .int .i64 a, .slice aob l.length capb, .bool raw, .slice aof F.length capf]) (by rfl) ?_
  intro c w2 hc1 hc2 hm2 hQ
  simp only [put_some, List.set_cons_succ, List.set_cons_zero]
  refine hK _ _ ?_
  clear hK K
  have hQ2 : Blk w2 c 35 [.int .i64 2, .int .i64 n, .int .i64 a, .slice aob l.length capb, .bool raw, .slice aof F.length capf] := hQ
  clear hQ
  go_wp2_with fail
  refine wp_region_T [⟨0, true, []⟩, ⟨1, true, []⟩, ⟨2, true, []⟩, ⟨3, false, [0]⟩, ⟨4, false, []⟩, ⟨5, true, []⟩] (by kernel_rfl) (by kernel_rfl) ?_
  have hmA := (hm1.ext hm2).ext (Mod.drew [] _)
  have hT3 := (hT1.ext hm2).ext (Mod.drew [] _)
  have hQ3 := hQ2.ext (Mod.drew [] _)
  obtain ⟨w3, hw3⟩ : ∃ x, x = w2.drew := ⟨_, rfl⟩
  rw [← hw3] at hmA hT3 hQ3 ⊢
  clear hw3 hT1 hQ2
  have hS3 := (Sg.start hP).ext hmA
  have hR3 := hS3.h.r
  have hb3 : Bs w3 _ l := hb0.ext hmA
  have t0 := hT3.cell' (i := 0) rfl
  have t1 := hT3.cell' (i := 1) rfl
  have t2 := hT3.cell' (i := 2) rfl
  have c0 := hQ3.cell' (i := 0) rfl
  have c1 := hQ3.cell' (i := 1) rfl
  have c2 := hQ3.cell' (i := 2) rfl
  have c3 := hQ3.cell' (i := 3) rfl
  have c4 := hQ3.cell' (i := 4) rfl
  have c5 := hQ3.cell' (i := 5) rfl
  iterate 3 (refine wpT_n rfl rfl (fun K hK => ?_); go_wp2_with fail)
  refine wpT_callh rfl rfl (fun K hK => ?_)
  go_wp2_with (go_at_call 30; (with_reducible refine (SI _ _ hR3).mono ?_); rintro e w4 ⟨rfl, rfl⟩)
  refine ⟨agains_same, ?_⟩
  refine wpT_call rfl rfl (fun K hK => ?_)
  go_wp2_with (go_at_call 29; refine (BK _ hb3).mono ?_; rintro e w4 ⟨v4, rfl, ho4, hn4, hm4⟩)
  obtain ⟨ao4, cap4, rfl, _, _⟩ := ho4.sl.form
  have hS4 := hS3.ext hm4
  have hT4 := hT3.ext hm4
  have hQ4 := hQ3.ext hm4
  have s13 := hmA.size
  have s34 := hm4.size
  have tp : t ≠ c := by have := hm1.size; omega
  clear t0 t1 t2 c0 c1 c2 c3 c4 c5 hT3 hQ3 hR3 hb3 hS3
  have t0 := hT4.cell' (i := 0) rfl
  have t1 := hT4.cell' (i := 1) rfl
  have t2 := hT4.cell' (i := 2) rfl
  have c0 := hQ4.cell' (i := 0) rfl
  have c1 := hQ4.cell' (i := 1) rfl
  have c2 := hQ4.cell' (i := 2) rfl
  have c3 := hQ4.cell' (i := 3) rfl
  have c4 := hQ4.cell' (i := 4) rfl
  have c5 := hQ4.cell' (i := 5) rfl
  refine wpT_n rfl rfl (fun K hK => ?_)
  go_wp2_with fail
  refine wpT_nil ?_
  go_wp2_with fail
  have htL : t ∉ (p :: L) ++ (p' :: M) := fun hh => by
    rcases List.mem_append.1 hh with h1 | h1
    · have := hP.d.lt t h1; omega
    · have := hP.r.lt t h1; omega
  have hcL : c ∉ (p :: L) ++ (p' :: M) := fun hh => by
    rcases List.mem_append.1 hh with h1 | h1
    · have := hP.d.lt c h1; have := hm1.size; omega
    · have := hP.r.lt c h1; have := hm1.size; omega
  have hvL : ∀ b ∈ blks (.slice ao4 B.length cap4), b ∉ (p :: L) ++ (p' :: M) := fun b hb hh => by
    have h0 := hn4 b hb
    rcases List.mem_append.1 hh with h1 | h1
    · have := hP.d.lt b h1; omega
    · have := hP.r.lt b h1; omega
  have hd4 := hS4.h.d
  go_wp2_with (first
                | (with_reducible refine st_bslice ?_)
                | (go_at_call 24; refine (RD _ hd4).mono ?_; rintro e w5 ⟨v5, rfl, ho5, hn5, hP5, hm5⟩; have hS5 := hS4.dt hP5 (hm5.weak (by simp)) (fun k hk => .inl hk); obtain ⟨ao5, cap5, rfl, _, _⟩ := ho5.sl.form; have hT5 := hT4.mod hm5 (fun hh => htL (by have e : t = p := (by simpa using hh); simp [e])); have hQ5 := hQ4.mod hm5 (fun hh => hcL (by have e : c = p := (by simpa using hh); simp [e])); have f2 := hT5.cell' (i := 2) rfl; have g2 := hQ5.cell' (i := 2) rfl; have hr5 := hS5.h.r)
                | (go_at_call 35; refine (RQ _ hr5).mono ?_; rintro e w6 ⟨v6, rfl, ho6, hn6, hP6, hm6⟩; have hS6 := hS5.rt hP6 (hm6.weak (by simp)) (fun k hk => .inl hk); obtain ⟨ao6, cap6, rfl, _, _⟩ := ho6.sl.form; have ho56 : Ob w6 (.slice ao5 D.length cap5) D := Ow.mod ho5 hm6 (fun b hb hh => by have e : b = p' := (by simpa using hh); have := hn5 b hb; have := hS4.h.r.b.lt; omega); have b5 := Ob.bs ho56; have b6 := Ob.bs ho6)
                | (go_at_call 25; refine (same_yes D D _ _ _ b5 b6 rfl).mono ?_; rintro e w7 ⟨rfl, hm7⟩))
  have ho57 := Ob.ext ho56 hm7
  have hS7 := hS6.ext hm7
  refine StopOp.gw rfl fun K hK => ?_
  refine wp_bslice stRow [.slice ao5 D.length cap5] rfl (by decide) (by rfl) (by simp [Value.cells]) ?_
  intro z w8 hz1 hz2 hm8 hB8
  simp only [put_some, List.set_cons_succ, List.set_cons_zero]
  refine hK _ _ ?_
  clear hK K
  have hZ8 : Sl w8 1 (.slice (some ⟨z, 0, none⟩) 1 1) 1 ([((.slice ao5 D.length cap5 : Value), D)].map (·.1)) := (Ow.of_blk (rest := []) hB8 (Nat.le_refl _) (by omega) rfl rfl : Ow w8 32 1 (.slice (some ⟨z, 0, none⟩) 1 1) 1 [.slice ao5 D.length cap5]).sl
  have hf8 : Fam w8 w4.heap.size [((.slice ao5 D.length cap5 : Value), D)] := ⟨fun x hx => by rw [List.mem_singleton.1 hx]; exact ⟨Ob.ext ho57 hm8, hn5⟩, List.pairwise_singleton _ _⟩
  have AP := fun w h1 h2 => apart_fam [((.slice ao5 D.length cap5 : Value), D)] w4.heap.size 1 (.slice (some ⟨z, 0, none⟩) 1 1) w rfl h1 h2 (by omega) (fun x hx => by rw [List.mem_singleton.1 hx]; exact hDl)
  have hS8 := hS7.ext hm8
  go_wp2_with (go_at_call 36; refine (AP _ hZ8 hf8).mono ?_; rintro e w9 ⟨rfl, X, hm9, hX⟩; have hX2 : ∀ y ∈ X, w4.heap.size ≤ y := (fun y hy => by obtain ⟨x, hx, hy2⟩ := hX y hy; rw [List.mem_singleton.1 hx] at hy2; exact hn5 y hy2); have hS9 := hS8.keep hm9 (fun k hk hh => by have := hX2 k hh; have := hS4.h.d.lt k hk; omega) (fun k hk hh => by have := hX2 k hh; have := hS4.h.r.lt k hk; omega) (fun k hk => by have := hX2 k hk; omega) hWw)
  go_ret
  exact hS9.fin
set_option maxRecDepth 1000000 in
set_option maxHeartbeats 4000000 in
theorem step3_any (W w : World) (p q p' q' : Nat) (uv : Option Addr) (v : Pv) (L M : List Nat) (o : Pop) (hP : Pq W w p q p' q' v v L M) (ho : OkPop W o) (hn : v.n ≤ 1000000) (hr : v.m.row.length ≤ 1000000) (hk : o.k = 3) :
    Calls Tryz.prog 8 #[.agg #[.pointer (some ⟨p, 0, none⟩), .pointer uv, .pointer (some ⟨p', 0, none⟩)], .agg o.cells.toArray] w (StepP W w p q p' q' (stepV v o) L M) := by
  have hl := ho.l
  have hone := Sl.one ho.fs
  have hold := ho.old
  have hb0 : Bs w o.bw o.l := ho.b.ext hP.m
  have hF0 : Fs w o.fv o.F := Sl.ext ho.fs hP.m
  have hWw := hP.m.size
  have BK := fun w h => block_any o v.m.sz w h hl hone hP.d.ok.m.s2
  have hBl := blkL_le (o := o) hl hP.d.ok.m.s2
  have SI := fun w M h => qSize_any p' q' v M w h
  have hoa := ho.a
  have hof := ho.f
  have es : stepV v o = v.sy := by unfold stepV; rw [if_neg (by omega), if_neg (by omega), if_pos hk]
  rw [es]
  obtain ⟨sz, hsz⟩ : ∃ s, s = v.m.sz := ⟨_, rfl⟩
  obtain ⟨B, hB⟩ : ∃ B, B = blkL o v.m.sz := ⟨_, rfl⟩
  rw [← hsz] at hB BK SI
  rw [← hB] at BK
  rw [← hsz, ← hB] at hBl
  have SY := fun w h => pSync_any p q v L w h hn hr
  have SQ := fun w h => qSync_any p' q' v M w h hn hr
  obtain ⟨E, hE⟩ : ∃ E, E = v.e 0 := ⟨_, rfl⟩
  obtain ⟨V, hV⟩ : ∃ V, V = v.sy := ⟨_, rfl⟩
  rw [← hE, ← hV] at SY SQ
  rw [← hV]
  have HH := Lib.hid (And.intro hB (And.intro hE (And.intro hV (And.intro es hsz))))
  clear hE hV hB es hsz
  obtain ⟨k, n, a, bw, l, raw, fv, F⟩ := o
  dsimp only at hl hone hb0 hF0 hold hk hoa hof HH
  unfold Pop.cells at BK ⊢
  dsimp only at BK ⊢
  obtain ⟨aob, capb, rfl, _, _⟩ := hb0.form
  obtain ⟨aof, capf, rfl, _, _⟩ := hF0.form
  subst hk
  go_enter Tryz.func8, Tryz.ntmps8
  go_wp2_with (with_reducible refine st_box ?_)
  refine StopOp.go rfl fun K hK => ?_
  refine wp_box (v := .agg #[.pointer (some ⟨p, 0, none⟩), .pointer uv, .pointer (some ⟨p', 0, none⟩)]) (by rfl) ?_
  intro t w1 ht1 ht2 hm1 hT
  simp only [put_some, List.set_cons_succ, List.set_cons_zero]
  refine hK _ _ ?_
  clear hK K
  have hT1 : Blk w1 t 28 [.pointer (some ⟨p, 0, none⟩), .pointer uv, .pointer (some ⟨p', 0, none⟩)] := hT
  clear hT
  go_wp2_with (with_reducible refine st_box ?_)
  refine StopOp.go rfl fun K hK => ?_
  refine wp_box (v := .agg #[.int .i64 3, .int .i64 n, .int .i64 a, .slice aob l.length capb, .bool raw, .slice aof F.length capf]) (by rfl) ?_
  intro c w2 hc1 hc2 hm2 hQ
  simp only [put_some, List.set_cons_succ, List.set_cons_zero]
  refine hK _ _ ?_
  clear hK K
  have hQ2 : Blk w2 c 35 [.int .i64 3, .int .i64 n, .int .i64 a, .slice aob l.length capb, .bool raw, .slice aof F.length capf] := hQ
  clear hQ
  go_wp2_with fail
  refine wp_region_T [⟨0, true, []⟩, ⟨1, true, []⟩, ⟨2, true, []⟩, ⟨3, false, [0]⟩, ⟨4, false, []⟩, ⟨5, true, []⟩] (by kernel_rfl) (by kernel_rfl) ?_
  have hmA := (hm1.ext hm2).ext (Mod.drew [] _)
  have hT3 := (hT1.ext hm2).ext (Mod.drew [] _)
  have hQ3 := hQ2.ext (Mod.drew [] _)
  obtain ⟨w3, hw3⟩ : ∃ x, x = w2.drew := ⟨_, rfl⟩
  rw [← hw3] at hmA hT3 hQ3 ⊢
  clear hw3 hT1 hQ2
  have hS3 := (Sg.start hP).ext hmA
  have hR3 := hS3.h.r
  have hb3 : Bs w3 _ l := hb0.ext hmA
  have t0 := hT3.cell' (i := 0) rfl
  have t1 := hT3.cell' (i := 1) rfl
  have t2 := hT3.cell' (i := 2) rfl
  have c0 := hQ3.cell' (i := 0) rfl
  have c1 := hQ3.cell' (i := 1) rfl
  have c2 := hQ3.cell' (i := 2) rfl
  have c3 := hQ3.cell' (i := 3) rfl
  have c4 := hQ3.cell' (i := 4) rfl
  have c5 := hQ3.cell' (i := 5) rfl
  iterate 3 (refine wpT_n rfl rfl (fun K hK => ?_); go_wp2_with fail)
  refine wpT_callh rfl rfl (fun K hK => ?_)
  go_wp2_with (go_at_call 30; (with_reducible refine (SI _ _ hR3).mono ?_); rintro e w4 ⟨rfl, rfl⟩)
  refine ⟨agains_same, ?_⟩
  refine wpT_call rfl rfl (fun K hK => ?_)
  go_wp2_with (go_at_call 29; refine (BK _ hb3).mono ?_; rintro e w4 ⟨v4, rfl, ho4, hn4, hm4⟩)
  obtain ⟨ao4, cap4, rfl, _, _⟩ := ho4.sl.form
  have hS4 := hS3.ext hm4
  have hT4 := hT3.ext hm4
  have hQ4 := hQ3.ext hm4
  have s13 := hmA.size
  have s34 := hm4.size
  have tp : t ≠ c := by have := hm1.size; omega
  clear t0 t1 t2 c0 c1 c2 c3 c4 c5 hT3 hQ3 hR3 hb3 hS3
  have t0 := hT4.cell' (i := 0) rfl
  have t1 := hT4.cell' (i := 1) rfl
  have t2 := hT4.cell' (i := 2) rfl
  have c0 := hQ4.cell' (i := 0) rfl
  have c1 := hQ4.cell' (i := 1) rfl
  have c2 := hQ4.cell' (i := 2) rfl
  have c3 := hQ4.cell' (i := 3) rfl
  have c4 := hQ4.cell' (i := 4) rfl
  have c5 := hQ4.cell' (i := 5) rfl
  refine wpT_n rfl rfl (fun K hK => ?_)
  go_wp2_with fail
  refine wpT_nil ?_
  go_wp2_with fail
  have htL : t ∉ (p :: L) ++ (p' :: M) := fun hh => by
    rcases List.mem_append.1 hh with h1 | h1
    · have := hP.d.lt t h1; omega
    · have := hP.r.lt t h1; omega
  have hcL : c ∉ (p :: L) ++ (p' :: M) := fun hh => by
    rcases List.mem_append.1 hh with h1 | h1
    · have := hP.d.lt c h1; have := hm1.size; omega
    · have := hP.r.lt c h1; have := hm1.size; omega
  have hvL : ∀ b ∈ blks (.slice ao4 B.length cap4), b ∉ (p :: L) ++ (p' :: M) := fun b hb hh => by
    have h0 := hn4 b hb
    rcases List.mem_append.1 hh with h1 | h1
    · have := hP.d.lt b h1; omega
    · have := hP.r.lt b h1; omega
  go_wp2_with fail
  refine wp_region_T [⟨0, true, []⟩, ⟨1, true, []⟩, ⟨3, true, []⟩, ⟨4, true, []⟩, ⟨2, false, [4]⟩, ⟨5, false, []⟩, ⟨6, true, []⟩, ⟨7, true, []⟩] (by kernel_rfl) (by kernel_rfl) ?_
  have hmD := Mod.drew [] w4
  obtain ⟨w5, hw5⟩ : ∃ x, x = w4.drew := ⟨_, rfl⟩
  rw [← hw5] at hmD ⊢
  clear hw5
  have hS5 := hS4.ext hmD
  have hT5 := hT4.ext hmD
  have hd5 := hS5.h.d
  have e0 := hT5.cell' (i := 0) rfl
  have e1 := hT5.cell' (i := 1) rfl
  have e2 := hT5.cell' (i := 2) rfl
  iterate 4 (refine wpT_n rfl rfl (fun K hK => ?_); go_wp2_with fail)
  refine wpT_callh rfl rfl (fun K hK => ?_)
  go_wp2_with (go_at_call 16; refine (SY _ hd5).mono ?_; rintro e w6 ⟨rfl, hp6⟩)
  obtain ⟨L6, k1, k2, k3⟩ := hp6
  refine ⟨agains_cons rfl (again_load rfl rfl (k2.block t hT5.lt (fun hh => htL (List.mem_append_left _ hh))) hT5.kinds) agains_nil, ?_⟩
  have hS6 := hS5.dt k1 k2 k3
  have hr6 := hS6.h.r
  refine wpT_call rfl rfl (fun K hK => ?_)
  go_wp2_with (go_at_call 37; refine (SQ _ hr6).mono ?_; rintro e w7 ⟨rfl, hp7⟩)
  obtain ⟨M7, j1, j2, j3⟩ := hp7
  have hS7 := hS6.rt j1 j2 j3
  iterate 2 (refine wpT_n rfl rfl (fun K hK => ?_); go_wp2_with fail)
  refine wpT_nil ?_
  go_wp2_with fail
  go_ret
  exact hS7.fin
set_option maxRecDepth 1000000 in
set_option maxHeartbeats 4000000 in
theorem step4_any (W w : World) (p q p' q' : Nat) (uv : Option Addr) (v : Pv) (L M : List Nat) (o : Pop) (hP : Pq W w p q p' q' v v L M) (ho : OkPop W o) (hn : v.n ≤ 1000000) (hr : v.m.row.length ≤ 1000000) (hk : o.k = 4) :
    Calls Tryz.prog 8 #[.agg #[.pointer (some ⟨p, 0, none⟩), .pointer uv, .pointer (some ⟨p', 0, none⟩)], .agg o.cells.toArray] w (StepP W w p q p' q' (stepV v o) L M) := by
  have hl := ho.l
  have hone := Sl.one ho.fs
  have hold := ho.old
  have hb0 : Bs w o.bw o.l := ho.b.ext hP.m
  have hF0 : Fs w o.fv o.F := Sl.ext ho.fs hP.m
  have hWw := hP.m.size
  have BK := fun w h => block_any o v.m.sz w h hl hone hP.d.ok.m.s2
  have hBl := blkL_le (o := o) hl hP.d.ok.m.s2
  have SI := fun w M h => qSize_any p' q' v M w h
  have hoa := ho.a
  have hof := ho.f
  have es : stepV v o = v.arm o.a := by unfold stepV; rw [if_neg (by omega), if_neg (by omega), if_neg (by omega), if_pos hk]
  rw [es]
  obtain ⟨sz, hsz⟩ : ∃ s, s = v.m.sz := ⟨_, rfl⟩
  obtain ⟨B, hB⟩ : ∃ B, B = blkL o v.m.sz := ⟨_, rfl⟩
  rw [← hsz] at hB BK SI
  rw [← hB] at BK
  rw [← hsz, ← hB] at hBl
  have SY := fun w h => pArm_any p q v L o.a w h hoa.2
  have SQ := fun w h => qArm_any p' q' v M o.a w h hoa.2
  obtain ⟨E, hE⟩ : ∃ E : Int, E = if v.off = true then 60 else 0 := ⟨_, rfl⟩
  obtain ⟨V, hV⟩ : ∃ V, V = v.arm o.a := ⟨_, rfl⟩
  rw [← hE, ← hV] at SY SQ
  rw [← hV]
  have HH := Lib.hid (And.intro hB (And.intro hE (And.intro hV (And.intro es hsz))))
  clear hE hV hB es hsz
  obtain ⟨k, n, a, bw, l, raw, fv, F⟩ := o
  dsimp only at hl hone hb0 hF0 hold hk hoa hof HH
  unfold Pop.cells at BK ⊢
  dsimp only at BK ⊢
  obtain ⟨aob, capb, rfl, _, _⟩ := hb0.form
  obtain ⟨aof, capf, rfl, _, _⟩ := hF0.form
  subst hk
  dsimp only at SY SQ
  go_enter Tryz.func8, Tryz.ntmps8
  go_wp2_with (with_reducible refine st_box ?_)
  refine StopOp.go rfl fun K hK => ?_
  refine wp_box (v := .agg #[.pointer (some ⟨p, 0, none⟩), .pointer uv, .pointer (some ⟨p', 0, none⟩)]) (by rfl) ?_
  intro t w1 ht1 ht2 hm1 hT
  simp only [put_some, List.set_cons_succ, List.set_cons_zero]
  refine hK _ _ ?_
  clear hK K
  have hT1 : Blk w1 t 28 [.pointer (some ⟨p, 0, none⟩), .pointer uv, .pointer (some ⟨p', 0, none⟩)] := hT
  clear hT
  go_wp2_with (with_reducible refine st_box ?_)
  refine StopOp.go rfl fun K hK => ?_
  refine wp_box (v := .agg #[.int .i64 4, .int .i64 n, .int .i64 a, .slice aob l.length capb, .bool raw, .slice aof F.length capf]) (by rfl) ?_
  intro c w2 hc1 hc2 hm2 hQ
  simp only [put_some, List.set_cons_succ, List.set_cons_zero]
  refine hK _ _ ?_
  clear hK K
  have hQ2 : Blk w2 c 35 [.int .i64 4, .int .i64 n, .int .i64 a, .slice aob l.length capb, .bool raw, .slice aof F.length capf] := hQ
  clear hQ
  go_wp2_with fail
  refine wp_region_T [⟨0, true, []⟩, ⟨1, true, []⟩, ⟨2, true, []⟩, ⟨3, false, [0]⟩, ⟨4, false, []⟩, ⟨5, true, []⟩] (by kernel_rfl) (by kernel_rfl) ?_
  have hmA := (hm1.ext hm2).ext (Mod.drew [] _)
  have hT3 := (hT1.ext hm2).ext (Mod.drew [] _)
  have hQ3 := hQ2.ext (Mod.drew [] _)
  obtain ⟨w3, hw3⟩ : ∃ x, x = w2.drew := ⟨_, rfl⟩
  rw [← hw3] at hmA hT3 hQ3 ⊢
  clear hw3 hT1 hQ2
  have hS3 := (Sg.start hP).ext hmA
  have hR3 := hS3.h.r
  have hb3 : Bs w3 _ l := hb0.ext hmA
  have t0 := hT3.cell' (i := 0) rfl
  have t1 := hT3.cell' (i := 1) rfl
  have t2 := hT3.cell' (i := 2) rfl
  have c0 := hQ3.cell' (i := 0) rfl
  have c1 := hQ3.cell' (i := 1) rfl
  have c2 := hQ3.cell' (i := 2) rfl
  have c3 := hQ3.cell' (i := 3) rfl
  have c4 := hQ3.cell' (i := 4) rfl
  have c5 := hQ3.cell' (i := 5) rfl
  iterate 3 (refine wpT_n rfl rfl (fun K hK => ?_); go_wp2_with fail)
  refine wpT_callh rfl rfl (fun K hK => ?_)
  go_wp2_with (go_at_call 30; (with_reducible refine (SI _ _ hR3).mono ?_); rintro e w4 ⟨rfl, rfl⟩)
  refine ⟨agains_same, ?_⟩
  refine wpT_call rfl rfl (fun K hK => ?_)
  go_wp2_with (go_at_call 29; refine (BK _ hb3).mono ?_; rintro e w4 ⟨v4, rfl, ho4, hn4, hm4⟩)
  obtain ⟨ao4, cap4, rfl, _, _⟩ := ho4.sl.form
  have hS4 := hS3.ext hm4
  have hT4 := hT3.ext hm4
  have hQ4 := hQ3.ext hm4
  have s13 := hmA.size
  have s34 := hm4.size
  have tp : t ≠ c := by have := hm1.size; omega
  clear t0 t1 t2 c0 c1 c2 c3 c4 c5 hT3 hQ3 hR3 hb3 hS3
  have t0 := hT4.cell' (i := 0) rfl
  have t1 := hT4.cell' (i := 1) rfl
  have t2 := hT4.cell' (i := 2) rfl
  have c0 := hQ4.cell' (i := 0) rfl
  have c1 := hQ4.cell' (i := 1) rfl
  have c2 := hQ4.cell' (i := 2) rfl
  have c3 := hQ4.cell' (i := 3) rfl
  have c4 := hQ4.cell' (i := 4) rfl
  have c5 := hQ4.cell' (i := 5) rfl
  refine wpT_n rfl rfl (fun K hK => ?_)
  go_wp2_with fail
  refine wpT_nil ?_
  go_wp2_with fail
  have htL : t ∉ (p :: L) ++ (p' :: M) := fun hh => by
    rcases List.mem_append.1 hh with h1 | h1
    · have := hP.d.lt t h1; omega
    · have := hP.r.lt t h1; omega
  have hcL : c ∉ (p :: L) ++ (p' :: M) := fun hh => by
    rcases List.mem_append.1 hh with h1 | h1
    · have := hP.d.lt c h1; have := hm1.size; omega
    · have := hP.r.lt c h1; have := hm1.size; omega
  have hvL : ∀ b ∈ blks (.slice ao4 B.length cap4), b ∉ (p :: L) ++ (p' :: M) := fun b hb hh => by
    have h0 := hn4 b hb
    rcases List.mem_append.1 hh with h1 | h1
    · have := hP.d.lt b h1; omega
    · have := hP.r.lt b h1; omega
  go_wp2_with fail
  refine wp_region_T [⟨0, true, []⟩, ⟨1, true, []⟩, ⟨2, true, []⟩, ⟨3, true, []⟩, ⟨5, true, []⟩, ⟨6, true, []⟩, ⟨7, true, []⟩, ⟨8, true, []⟩, ⟨4, false, [6, 8]⟩, ⟨9, false, []⟩, ⟨10, true, []⟩, ⟨11, true, []⟩] (by kernel_rfl) (by kernel_rfl) ?_
  have hmD := Mod.drew [] w4
  obtain ⟨w5, hw5⟩ : ∃ x, x = w4.drew := ⟨_, rfl⟩
  rw [← hw5] at hmD ⊢
  clear hw5
  have hS5 := hS4.ext hmD
  have hT5 := hT4.ext hmD
  have hQ5 := hQ4.ext hmD
  have hd5 := hS5.h.d
  have e0 := hT5.cell' (i := 0) rfl
  have e1 := hT5.cell' (i := 1) rfl
  have e2 := hT5.cell' (i := 2) rfl
  have f0 := hQ5.cell' (i := 0) rfl
  have f1 := hQ5.cell' (i := 1) rfl
  have f2 := hQ5.cell' (i := 2) rfl
  have f3 := hQ5.cell' (i := 3) rfl
  have f4 := hQ5.cell' (i := 4) rfl
  have f5 := hQ5.cell' (i := 5) rfl
  iterate 8 (refine wpT_n rfl rfl (fun K hK => ?_); go_wp2_with fail)
  refine wpT_callh rfl rfl (fun K hK => ?_)
  go_wp2_with (go_at_call 15; refine (SY _ hd5).mono ?_; rintro e w6 ⟨rfl, k1, k2⟩)
  refine ⟨agains_cons rfl (again_load rfl rfl (k2.block t hT5.lt (fun hh => htL (by have e : t = p := (by simpa using hh); simp [e]))) hT5.kinds) (agains_cons rfl (again_load rfl rfl (k2.block c hQ5.lt (fun hh => hcL (by have e : c = p := (by simpa using hh); simp [e]))) hQ5.kinds) agains_nil), ?_⟩
  have hS6 := hS5.dt k1 (k2.weak (by simp)) (fun k hk => .inl hk)
  have hr6 := hS6.h.r
  refine wpT_call rfl rfl (fun K hK => ?_)
  go_wp2_with (go_at_call 38; refine (SQ _ hr6).mono ?_; rintro e w7 ⟨rfl, j1, j2⟩)
  have hS7 := hS6.rt j1 (j2.weak (by simp)) (fun k hk => .inl hk)
  iterate 2 (refine wpT_n rfl rfl (fun K hK => ?_); go_wp2_with fail)
  refine wpT_nil ?_
  go_wp2_with fail
  go_ret
  exact hS7.fin
set_option maxRecDepth 1000000 in
set_option maxHeartbeats 4000000 in
theorem step5_any (W w : World) (p q p' q' : Nat) (uv : Option Addr) (v : Pv) (L M : List Nat) (o : Pop) (hP : Pq W w p q p' q' v v L M) (ho : OkPop W o) (hn : v.n ≤ 1000000) (hr : v.m.row.length ≤ 1000000) (hk : o.k = 5) :
    Calls Tryz.prog 8 #[.agg #[.pointer (some ⟨p, 0, none⟩), .pointer uv, .pointer (some ⟨p', 0, none⟩)], .agg o.cells.toArray] w (StepP W w p q p' q' (stepV v o) L M) := by
  have hl := ho.l
  have hone := Sl.one ho.fs
  have hold := ho.old
  have hb0 : Bs w o.bw o.l := ho.b.ext hP.m
  have hF0 : Fs w o.fv o.F := Sl.ext ho.fs hP.m
  have hWw := hP.m.size
  have BK := fun w h => block_any o v.m.sz w h hl hone hP.d.ok.m.s2
  have hBl := blkL_le (o := o) hl hP.d.ok.m.s2
  have SI := fun w M h => qSize_any p' q' v M w h
  have hoa := ho.a
  have hof := ho.f
  have es : stepV v o = v.re o.F := by unfold stepV; rw [if_neg (by omega), if_neg (by omega), if_neg (by omega), if_neg (by omega), if_pos hk]
  rw [es]
  obtain ⟨sz, hsz⟩ : ∃ s, s = v.m.sz := ⟨_, rfl⟩
  obtain ⟨B, hB⟩ : ∃ B, B = blkL o v.m.sz := ⟨_, rfl⟩
  rw [← hsz] at hB BK SI
  rw [← hB] at BK
  rw [← hsz, ← hB] at hBl
  have SY := fun w fv h hF hFL => pRestart_any p q v L o.F fv w h hr hF hFL
  have SQ := fun w fv h hF hFL => qRestart_any p' q' v M o.F fv w h hr hF hFL
  obtain ⟨V, hV⟩ : ∃ V, V = v.re o.F := ⟨_, rfl⟩
  rw [← hV] at SY SQ ⊢
  have HH := Lib.hid (And.intro hB (And.intro hV (And.intro es hsz)))
  clear hV hB es hsz
  obtain ⟨k, n, a, bw, l, raw, fv, F⟩ := o
  dsimp only at hl hone hb0 hF0 hold hk hoa hof HH
  unfold Pop.cells at BK ⊢
  dsimp only at BK ⊢
  obtain ⟨aob, capb, rfl, _, _⟩ := hb0.form
  obtain ⟨aof, capf, rfl, _, _⟩ := hF0.form
  subst hk
  dsimp only at SY SQ
  go_enter Tryz.func8, Tryz.ntmps8
  go_wp2_with (with_reducible refine st_box ?_)
  refine StopOp.go rfl fun K hK => ?_
  refine wp_box (v := .agg #[.pointer (some ⟨p, 0, none⟩), .pointer uv, .pointer (some ⟨p', 0, none⟩)]) (by rfl) ?_
  intro t w1 ht1 ht2 hm1 hT
  simp only [put_some, List.set_cons_succ, List.set_cons_zero]
  refine hK _ _ ?_
  clear hK K
  have hT1 : Blk w1 t 28 [.pointer (some ⟨p, 0, none⟩), .pointer uv, .pointer (some ⟨p', 0, none⟩)] := hT
  clear hT
  go_wp2_with (with_reducible refine st_box ?_)
  refine StopOp.go rfl fun K hK => ?_
  refine wp_box (v := .agg #[.int .i64 5, .int .i64 n, .int .i64 a, .slice aob l.length capb, .bool raw, .slice aof F.length capf]) (by rfl) ?_
  intro c w2 hc1 hc2 hm2 hQ
  simp only [put_some, List.set_cons_succ, List.set_cons_zero]
  refine hK _ _ ?_
  clear hK K
  have hQ2 : Blk w2 c 35 [.int .i64 5, .int .i64 n, .int .i64 a, .slice aob l.length capb, .bool raw, .slice aof F.length capf] := hQ
  clear hQ
  go_wp2_with fail
  refine wp_region_T [⟨0, true, []⟩, ⟨1, true, []⟩, ⟨2, true, []⟩, ⟨3, false, [0]⟩, ⟨4, false, []⟩, ⟨5, true, []⟩] (by kernel_rfl) (by kernel_rfl) ?_
  have hmA := (hm1.ext hm2).ext (Mod.drew [] _)
  have hT3 := (hT1.ext hm2).ext (Mod.drew [] _)
  have hQ3 := hQ2.ext (Mod.drew [] _)
  obtain ⟨w3, hw3⟩ : ∃ x, x = w2.drew := ⟨_, rfl⟩
  rw [← hw3] at hmA hT3 hQ3 ⊢
  clear hw3 hT1 hQ2
  have hS3 := (Sg.start hP).ext hmA
  have hR3 := hS3.h.r
  have hb3 : Bs w3 _ l := hb0.ext hmA
  have t0 := hT3.cell' (i := 0) rfl
  have t1 := hT3.cell' (i := 1) rfl
  have t2 := hT3.cell' (i := 2) rfl
  have c0 := hQ3.cell' (i := 0) rfl
  have c1 := hQ3.cell' (i := 1) rfl
  have c2 := hQ3.cell' (i := 2) rfl
  have c3 := hQ3.cell' (i := 3) rfl
  have c4 := hQ3.cell' (i := 4) rfl
  have c5 := hQ3.cell' (i := 5) rfl
  iterate 3 (refine wpT_n rfl rfl (fun K hK => ?_); go_wp2_with fail)
  refine wpT_callh rfl rfl (fun K hK => ?_)
  go_wp2_with (go_at_call 30; (with_reducible refine (SI _ _ hR3).mono ?_); rintro e w4 ⟨rfl, rfl⟩)
  refine ⟨agains_same, ?_⟩
  refine wpT_call rfl rfl (fun K hK => ?_)
  go_wp2_with (go_at_call 29; refine (BK _ hb3).mono ?_; rintro e w4 ⟨v4, rfl, ho4, hn4, hm4⟩)
  obtain ⟨ao4, cap4, rfl, _, _⟩ := ho4.sl.form
  have hS4 := hS3.ext hm4
  have hT4 := hT3.ext hm4
  have hQ4 := hQ3.ext hm4
  have s13 := hmA.size
  have s34 := hm4.size
  have tp : t ≠ c := by have := hm1.size; omega
  clear t0 t1 t2 c0 c1 c2 c3 c4 c5 hT3 hQ3 hR3 hb3 hS3
  have t0 := hT4.cell' (i := 0) rfl
  have t1 := hT4.cell' (i := 1) rfl
  have t2 := hT4.cell' (i := 2) rfl
  have c0 := hQ4.cell' (i := 0) rfl
  have c1 := hQ4.cell' (i := 1) rfl
  have c2 := hQ4.cell' (i := 2) rfl
  have c3 := hQ4.cell' (i := 3) rfl
  have c4 := hQ4.cell' (i := 4) rfl
  have c5 := hQ4.cell' (i := 5) rfl
  refine wpT_n rfl rfl (fun K hK => ?_)
  go_wp2_with fail
  refine wpT_nil ?_
  go_wp2_with fail
  have htL : t ∉ (p :: L) ++ (p' :: M) := fun hh => by
    rcases List.mem_append.1 hh with h1 | h1
    · have := hP.d.lt t h1; omega
    · have := hP.r.lt t h1; omega
  have hcL : c ∉ (p :: L) ++ (p' :: M) := fun hh => by
    rcases List.mem_append.1 hh with h1 | h1
    · have := hP.d.lt c h1; have := hm1.size; omega
    · have := hP.r.lt c h1; have := hm1.size; omega
  have hvL : ∀ b ∈ blks (.slice ao4 B.length cap4), b ∉ (p :: L) ++ (p' :: M) := fun b hb hh => by
    have h0 := hn4 b hb
    rcases List.mem_append.1 hh with h1 | h1
    · have := hP.d.lt b h1; omega
    · have := hP.r.lt b h1; omega
  have LF := fun w v h => lentF_any F v w h (by omega)
  have KF := fun w g cap v h hv => keptF_any g cap F v w h hv
  have hF4 : Fs w4 (.slice aof F.length capf) F := Sl.ext hF0 (hmA.ext hm4)
  have hFold : F ≠ [] → ∀ b ∈ blks (.slice aof F.length capf), b ∉ (p :: L) ++ (p' :: M) := fun hne b hb hh => by
    have := hold hne b hb
    rcases List.mem_append.1 hh with h1 | h1
    · have := hP.g1 b h1; omega
    · have := hP.g2 b h1; omega
  go_wp2_with (go_at_call 39; refine (LF _ _ hF4).mono ?_; rintro e w5 ⟨g, capg, rfl, hg, hL5, hm5⟩)
  refine wp_region_T [⟨0, true, []⟩, ⟨1, true, []⟩, ⟨2, true, []⟩, ⟨4, true, []⟩, ⟨5, true, []⟩, ⟨6, true, []⟩, ⟨7, true, []⟩, ⟨3, false, [5, 7]⟩, ⟨8, false, []⟩, ⟨9, true, []⟩, ⟨10, true, []⟩, ⟨11, true, []⟩, ⟨12, true, []⟩, ⟨13, true, []⟩, ⟨14, false, []⟩, ⟨15, true, []⟩, ⟨16, true, []⟩] (by kernel_rfl) (by kernel_rfl) ?_
  have hmD := Mod.drew [] w5
  obtain ⟨w6, hw6⟩ : ∃ x, x = w5.drew := ⟨_, rfl⟩
  rw [← hw6] at hmD ⊢
  clear hw6
  have hm56 := hm5.ext hmD
  have hS6 := hS4.ext hm56
  have hT6 := hT4.ext hm56
  have hQ6 := hQ4.ext hm56
  have hL6 := hL5.ext hmD
  have hF6 : Fs w6 (.slice aof F.length capf) F := Sl.ext hF4 hm56
  have hd6 := hS6.h.d
  have hgL : g ∉ p :: L := fun hh => by have := hP.d.lt g hh; omega
  have hgM : g ∉ p' :: M := fun hh => by have := hP.r.lt g hh; omega
  clear t0 t1 t2 c0 c1 c2 c3 c4 c5
  have e0 := hT6.cell' (i := 0) rfl
  have e1 := hT6.cell' (i := 1) rfl
  have e2 := hT6.cell' (i := 2) rfl
  have f0 := hQ6.cell' (i := 0) rfl
  have f1 := hQ6.cell' (i := 1) rfl
  have f2 := hQ6.cell' (i := 2) rfl
  have f3 := hQ6.cell' (i := 3) rfl
  have f4 := hQ6.cell' (i := 4) rfl
  have f5 := hQ6.cell' (i := 5) rfl
  iterate 7 (refine wpT_n rfl rfl (fun K hK => ?_); go_wp2_with fail)
  refine wpT_callh rfl rfl (fun K hK => ?_)
  go_wp2_with (go_at_call 23; refine (SY _ _ hd6 hL6.fs (fun _ b hb hh => hgL (by have e : b = g := (by simpa [blks] using hb); exact e ▸ List.mem_cons_of_mem _ hh))).mono ?_; rintro e w7 ⟨rfl, hp7⟩)
  obtain ⟨L7, k1, k2, k3⟩ := hp7
  refine ⟨agains_cons rfl (again_load rfl rfl (k2.block t hT6.lt (fun hh => htL (List.mem_append_left _ hh))) hT6.kinds) (agains_cons rfl (again_load rfl rfl (k2.block c hQ6.lt (fun hh => hcL (List.mem_append_left _ hh))) hQ6.kinds) agains_nil), ?_⟩
  have hS7 := hS6.dt k1 k2 k3
  have hr7 := hS7.h.r
  have hL7 := hL6.mod k2 hgL
  have hF7 : Fs w7 (.slice aof F.length capf) F := fs_keep hF6 k2 (fun hne b hb hh => hFold hne b hb (List.mem_append_left _ hh))
  have hQ7 := hQ6.mod k2 (fun hh => hcL (List.mem_append_left _ hh))
  refine wpT_call rfl rfl (fun K hK => ?_)
  go_wp2_with (go_at_call 40; refine (SQ _ _ hr7 hF7 (fun hne b hb hh => hFold hne b hb (List.mem_append_right _ (List.mem_cons_of_mem _ hh)))).mono ?_; rintro e w8 ⟨rfl, hp8⟩)
  obtain ⟨M8, j1, j2, j3⟩ := hp8
  have hS8 := hS7.rt j1 j2 j3
  have hL8 := hL7.mod j2 hgM
  have hF8 : Fs w8 (.slice aof F.length capf) F := fs_keep hF7 j2 (fun hne b hb hh => hFold hne b hb (List.mem_append_right _ hh))
  have hQ8 := hQ7.mod j2 (fun hh => hcL (List.mem_append_right _ hh))
  have f5' := hQ8.cell' (i := 5) rfl
  iterate 2 (refine wpT_n rfl rfl (fun K hK => ?_); go_wp2_with fail)
  iterate 3 (refine wpT_gq (gi := 10) rfl rfl rfl rfl rfl (fun K hK => ?_); go_wp2_with fail)
  refine wpT_gcall (gi := 10) rfl rfl rfl rfl (fun K hK => ?_)
  go_wp2_with (go_at_call 41; refine (KF _ _ _ _ hL8 hF8).mono ?_; rintro e w9 ⟨rfl, hm9⟩)
  have hS9 := hS8.ext hm9
  iterate 2 (refine wpT_n rfl rfl (fun K hK => ?_); go_wp2_with fail)
  refine wpT_nil ?_
  go_wp2_with fail
  go_ret
  exact hS9.fin
set_option maxRecDepth 1000000 in
set_option maxHeartbeats 4000000 in
theorem stepN_any (W w : World) (p q p' q' : Nat) (uv : Option Addr) (v : Pv) (L M : List Nat) (o : Pop) (hP : Pq W w p q p' q' v v L M) (ho : OkPop W o) (hn : v.n ≤ 1000000) (hr : v.m.row.length ≤ 1000000) (hk : ¬ (o.k = 1 ∨ o.k = 2 ∨ o.k = 3 ∨ o.k = 4 ∨ o.k = 5 ∨ o.k = 7 ∨ o.k = 8)) :
    Calls Tryz.prog 8 #[.agg #[.pointer (some ⟨p, 0, none⟩), .pointer uv, .pointer (some ⟨p', 0, none⟩)], .agg o.cells.toArray] w (StepP W w p q p' q' (stepV v o) L M) := by
  have hl := ho.l
  have hone := Sl.one ho.fs
  have hold := ho.old
  have hb0 : Bs w o.bw o.l := ho.b.ext hP.m
  have hF0 : Fs w o.fv o.F := Sl.ext ho.fs hP.m
  have hWw := hP.m.size
  have BK := fun w h => block_any o v.m.sz w h hl hone hP.d.ok.m.s2
  have hBl := blkL_le (o := o) hl hP.d.ok.m.s2
  have SI := fun w M h => qSize_any p' q' v M w h
  have hoa := ho.a
  have hof := ho.f
  have es : stepV v o = v := by unfold stepV; rw [if_neg (by omega), if_neg (by omega), if_neg (by omega), if_neg (by omega), if_neg (by omega), if_neg (by omega), if_neg (by omega)]
  rw [es]
  obtain ⟨sz, hsz⟩ : ∃ s, s = v.m.sz := ⟨_, rfl⟩
  obtain ⟨B, hB⟩ : ∃ B, B = blkL o v.m.sz := ⟨_, rfl⟩
  rw [← hsz] at hB BK SI
  rw [← hB] at BK
  rw [← hsz, ← hB] at hBl
  have HH := Lib.hid (And.intro hB (And.intro es hsz))
  clear hB es hsz
  obtain ⟨k, n, a, bw, l, raw, fv, F⟩ := o
  dsimp only at hl hone hb0 hF0 hold hk hoa hof HH
  unfold Pop.cells at BK ⊢
  dsimp only at BK ⊢
  obtain ⟨aob, capb, rfl, _, _⟩ := hb0.form
  obtain ⟨aof, capf, rfl, _, _⟩ := hF0.form
  have x1 : (k == 1) = false := by rw [beq_eq_false_iff_ne]; omega
  have x2 : (k == 2) = false := by rw [beq_eq_false_iff_ne]; omega
  have x3 : (k == 3) = false := by rw [beq_eq_false_iff_ne]; omega
  have x4 : (k == 4) = false := by rw [beq_eq_false_iff_ne]; omega
  have x5 : (k == 5) = false := by rw [beq_eq_false_iff_ne]; omega
  have x7 : (k == 7) = false := by rw [beq_eq_false_iff_ne]; omega
  have x8 : (k == 8) = false := by rw [beq_eq_false_iff_ne]; omega
  clear hk
  go_enter Tryz.func8, Tryz.ntmps8
  go_wp2_with (with_reducible refine st_box ?_)
  refine StopOp.go rfl fun K hK => ?_
  refine wp_box (v := .agg #[.pointer (some ⟨p, 0, none⟩), .pointer uv, .pointer (some ⟨p', 0, none⟩)]) (by rfl) ?_
  intro t w1 ht1 ht2 hm1 hT
  simp only [put_some, List.set_cons_succ, List.set_cons_zero]
  refine hK _ _ ?_
  clear hK K
  have hT1 : Blk w1 t 28 [.pointer (some ⟨p, 0, none⟩), .pointer uv, .pointer (some ⟨p', 0, none⟩)] := hT
  clear hT
  go_wp2_with (with_reducible refine st_box ?_)
  refine StopOp.go rfl fun K hK => ?_
  refine wp_box (v := .agg #[.int .i64 k, .int .i64 n, .int .i64 a, .slice aob l.length capb, .bool raw, .slice aof F.length capf]) (by rfl) ?_
  intro c w2 hc1 hc2 hm2 hQ
  simp only [put_some, List.set_cons_succ, List.set_cons_zero]
  refine hK _ _ ?_
  clear hK K
  have hQ2 : Blk w2 c 35 [.int .i64 k, .int .i64 n, .int .i64 a, .slice aob l.length capb, .bool raw, .slice aof F.length capf] := hQ
  clear hQ
  go_wp2_with fail
  refine wp_region_T [⟨0, true, []⟩, ⟨1, true, []⟩, ⟨2, true, []⟩, ⟨3, false, [0]⟩, ⟨4, false, []⟩, ⟨5, true, []⟩] (by kernel_rfl) (by kernel_rfl) ?_
  have hmA := (hm1.ext hm2).ext (Mod.drew [] _)
  have hT3 := (hT1.ext hm2).ext (Mod.drew [] _)
  have hQ3 := hQ2.ext (Mod.drew [] _)
  obtain ⟨w3, hw3⟩ : ∃ x, x = w2.drew := ⟨_, rfl⟩
  rw [← hw3] at hmA hT3 hQ3 ⊢
  clear hw3 hT1 hQ2
  have hS3 := (Sg.start hP).ext hmA
  have hR3 := hS3.h.r
  have hb3 : Bs w3 _ l := hb0.ext hmA
  have t0 := hT3.cell' (i := 0) rfl
  have t1 := hT3.cell' (i := 1) rfl
  have t2 := hT3.cell' (i := 2) rfl
  have c0 := hQ3.cell' (i := 0) rfl
  have c1 := hQ3.cell' (i := 1) rfl
  have c2 := hQ3.cell' (i := 2) rfl
  have c3 := hQ3.cell' (i := 3) rfl
  have c4 := hQ3.cell' (i := 4) rfl
  have c5 := hQ3.cell' (i := 5) rfl
  iterate 3 (refine wpT_n rfl rfl (fun K hK => ?_); go_wp2_with fail)
  refine wpT_callh rfl rfl (fun K hK => ?_)
  go_wp2_with (go_at_call 30; (with_reducible refine (SI _ _ hR3).mono ?_); rintro e w4 ⟨rfl, rfl⟩)
  refine ⟨agains_same, ?_⟩
  refine wpT_call rfl rfl (fun K hK => ?_)
  go_wp2_with (go_at_call 29; refine (BK _ hb3).mono ?_; rintro e w4 ⟨v4, rfl, ho4, hn4, hm4⟩)
  obtain ⟨ao4, cap4, rfl, _, _⟩ := ho4.sl.form
  have hS4 := hS3.ext hm4
  have hT4 := hT3.ext hm4
  have hQ4 := hQ3.ext hm4
  have s13 := hmA.size
  have s34 := hm4.size
  have tp : t ≠ c := by have := hm1.size; omega
  clear t0 t1 t2 c0 c1 c2 c3 c4 c5 hT3 hQ3 hR3 hb3 hS3
  have t0 := hT4.cell' (i := 0) rfl
  have t1 := hT4.cell' (i := 1) rfl
  have t2 := hT4.cell' (i := 2) rfl
  have c0 := hQ4.cell' (i := 0) rfl
  have c1 := hQ4.cell' (i := 1) rfl
  have c2 := hQ4.cell' (i := 2) rfl
  have c3 := hQ4.cell' (i := 3) rfl
  have c4 := hQ4.cell' (i := 4) rfl
  have c5 := hQ4.cell' (i := 5) rfl
  refine wpT_n rfl rfl (fun K hK => ?_)
  go_wp2_with fail
  refine wpT_nil ?_
  go_wp2_with fail
  have htL : t ∉ (p :: L) ++ (p' :: M) := fun hh => by
    rcases List.mem_append.1 hh with h1 | h1
    · have := hP.d.lt t h1; omega
    · have := hP.r.lt t h1; omega
  have hcL : c ∉ (p :: L) ++ (p' :: M) := fun hh => by
    rcases List.mem_append.1 hh with h1 | h1
    · have := hP.d.lt c h1; have := hm1.size; omega
    · have := hP.r.lt c h1; have := hm1.size; omega
  have hvL : ∀ b ∈ blks (.slice ao4 B.length cap4), b ∉ (p :: L) ++ (p' :: M) := fun b hb hh => by
    have h0 := hn4 b hb
    rcases List.mem_append.1 hh with h1 | h1
    · have := hP.d.lt b h1; omega
    · have := hP.r.lt b h1; omega
  go_wp2_with fail
  go_ret
  exact hS4.fin
end Go.Proofs.YtdmnogmhnhjdgaaGreat
