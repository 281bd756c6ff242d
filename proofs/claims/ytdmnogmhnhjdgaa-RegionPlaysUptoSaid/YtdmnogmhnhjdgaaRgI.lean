import Derived.Test.YtdmnogmhnhjdgaaRgH
/-! Regions: awake. -/
set_option linter.unusedVariables false
set_option linter.unusedSimpArgs false
set_option maxRecDepth 100000
namespace Go.Proofs.Ytdmnogmhnhjdgaa
open Go.RowKit Gw

def aw0 : Pv := ⟨dev0 3 64, false, -1, 0⟩
def aw1 : Pv := (wrC aw0 1 62 64 64 [1, 2]).1
def aw2 : Pv := (wrC aw1 2 0 2 64 [3, 4]).1
theorem aw_wr : wrA 1 2 64 aw0 62 [1, 2, 3, 4] = (aw2, 0) := by
  unfold wrA
  rw [if_pos (by decide)]
  show wrG 1 64 aw0 62 66 [1, 2, 3, 4] = _
  rw [wrG_ok (by decide) (by decide) (by decide +kernel)]
  show wrG 1 64 aw1 64 66 [3, 4] = _
  rw [wrG_ok (by decide) (by decide) (by decide +kernel)]
  show wrG 1 64 aw2 66 66 [] = _
  rw [wrG_end]
theorem aw_rd : rdA 1 2 64 aw2 61 6 = (aw2.md.md, 0, [0, 1, 2, 3, 4, 0]) := by
  unfold rdA
  rw [if_pos (by decide)]
  show rdG 1 64 aw2 61 67 [] = _
  rw [rdG_go (by decide) (by decide) (by decide +kernel)]
  show rdG 1 64 aw2.md 64 67 ([] ++ ((aw2.m.read 1).drop 61).take 3) = _
  rw [rdG_go (by decide) (by decide) (by decide +kernel)]
  show rdG 1 64 aw2.md.md 67 67 (([] ++ ((aw2.m.read 1).drop 61).take 3) ++ ((aw2.md.m.read 2).drop 0).take 3) = _
  rw [rdG_end, show [] ++ List.take 3 (List.drop 61 (aw2.m.read 1)) ++ List.take 3 (List.drop 0 (aw2.md.m.read 2)) = [0, 1, 2, 3, 4, 0] from by decide +kernel]
theorem aw_n : aw2.md.md.n = 6 ∧ aw2.md.md.off = false ∧ aw2.m.sz = 64 ∧ aw2.m.dur.length = 3 ∧ aw2.n = 4 := by decide +kernel
theorem gnew_ok (p q : Nat) (v : Pv) (L : List Nat) (f c : Int) (F C z : Nat) (w : World) (hP : Pd w p q v L) (hF : f = F) (hC : c = C) (hz : v.m.sz = z) (hcs : C ≤ 65536) (h : nErr v.m.dur.length f c = 0) :
    Calls Try.prog 31 #[.pointer (some ⟨p, 0, none⟩), .agg #[.int .i64 f, .int .i64 c]] w fun e w' => ∃ r, e = .returned (.tuple #[.pointer (some ⟨r, 0, none⟩), .int .i64 0]) ∧ Rgn w' r p F C z ∧ w.heap.size ≤ r ∧ Mod [] w w' := by
  subst hF hC hz
  have hN := hP.ok.m.n2
  have hF : F ≤ 65536 := by
    unfold nErr at h
    split at h
    · exact absurd h (by decide)
    · omega
  refine (gnew_any p q v L F C w hP ⟨by omega, by omega⟩ ⟨by omega, by omega⟩).mono fun e w' hh => ?_
  rcases hh with ⟨_, r, h1, h2, h3, h4⟩ | ⟨h1, _⟩
  · exact ⟨r, h1, h2, h3, h4⟩
  · exact absurd h h1
theorem gnew_bad (p q : Nat) (v : Pv) (L : List Nat) (f c : Int) (w : World) (hP : Pd w p q v L) (hf : i64 f) (hc : i64 c) (h : nErr v.m.dur.length f c ≠ 0) :
    Calls Try.prog 31 #[.pointer (some ⟨p, 0, none⟩), .agg #[.int .i64 f, .int .i64 c]] w fun e w' => e = .returned (.tuple #[.pointer none, .int .i64 2]) ∧ Mod [] w w' := by
  refine (gnew_any p q v L f c w hP hf hc).mono fun e w' hh => ?_
  rcases hh with ⟨h1, _⟩ | ⟨_, h2⟩
  · exact absurd h1 h
  · exact h2
/-- a region that lies apart from the device's blocks -/
def Rs (W : World) (r p f c z : Nat) (L : List Nat) : Prop := Rgn W r p f c z ∧ r ∉ p :: L
theorem Rs.turn {W W' : World} {r p f c z : Nat} {L L' : List Nat} (h : Rs W r p f c z L) (hm : Mod (p :: L) W W') (hL : ∀ x ∈ L', x ∈ L ∨ W.heap.size ≤ x) : Rs W' r p f c z L' :=
  ⟨h.1.mod hm h.2, fun hh => (List.mem_cons.1 hh).elim (fun e => h.2 (by simp [e])) (fun hx => (hL r hx).elim (fun hx => h.2 (by simp [hx])) (fun hx => by have := Rgn.lt h.1; omega))⟩
theorem Rs.ext {W W' : World} {r p f c z : Nat} {L : List Nat} (h : Rs W r p f c z L) (hm : Mod [] W W') : Rs W' r p f c z L := ⟨h.1.ext hm, h.2⟩
theorem Rs.new {W : World} {r p q f c z : Nat} {v : Pv} {L : List Nat} {w : World} (h : Rgn W r p f c z) (hP : Pd w p q v L) (hr : w.heap.size ≤ r) : Rs W r p f c z L := ⟨h, fun hh => by have := hP.lt0 r hh; omega⟩
theorem Ob.new4 {w : World} {g : Nat} {l : List UInt8} {n : Nat} (h : Blk w g 5 (bv l)) (hn : n = l.length) (hl : n ≤ 1000000) : Ob w (.slice (some ⟨g, 0, none⟩) n n) l := by
  subst hn
  exact Ow.of_blk (rest := []) (by rw [List.append_nil]; exact h) (Nat.le_refl _) (by omega) (by rw [List.append_nil, bv_length]; simp) (by rw [bv_length]; simp)
set_option maxRecDepth 1000000 in
set_option maxHeartbeats 8000000 in
theorem gawake_any (w : World) : Calls Try.prog 40 #[] w fun e w' => e = .returned (.bool true) ∧ Mod [] w w' := by
  have DV := fun w => device_any 2 0 w ⟨by omega, by omega⟩ ⟨by omega, by omega⟩
  simp only [show nS 2 = 3 from by decide, show szZ 0 = 64 from by decide] at DV
  unfold DevP at DV
  have e0 : (⟨dev0 3 64, false, -1, 0⟩ : Pv) = aw0 := rfl
  rw [e0] at DV
  have NW := fun w p q L h => gnew_ok p q aw0 L 1 2 1 2 64 w h rfl rfl rfl (by omega) (by decide)
  have WR := fun w r p q L bw h hR hb h1 h2 => gWrite_any r p q 1 2 64 aw0 L 62 [1, 2, 3, 4] bw w h hR hb rfl (by decide) (by decide) (by decide) ⟨by omega, by omega⟩ h1 h2
  rw [aw_wr] at WR
  unfold GWrP PdP at WR
  obtain ⟨n1, n2, n3, n4, n5⟩ := aw_n
  have RD := fun w r p q L h hR => gRead_any r p q 1 2 64 aw2 L 61 6 w h hR n3 (by omega) (by omega) ⟨by omega, by omega⟩ ⟨by omega, by omega⟩
  rw [aw_rd] at RD
  unfold GRdP at RD
  dsimp only at WR RD
  have BY : ∀ w r p, Rgn w r p 1 2 64 → Calls Try.prog 42 #[.pointer (some ⟨r, 0, none⟩)] w fun e w' => e = .returned (.int .i64 128) ∧ Mod [] w w' := fun w r p h => gBytes_any r p 1 2 64 w h (by decide)
  have SZ : ∀ w r p, Rgn w r p 1 2 64 → Calls Try.prog 43 #[.pointer (some ⟨r, 0, none⟩)] w fun e w' => e = .returned (.int .i64 64) ∧ w = w' := fun w r p h => gSize_any r p 1 2 64 w h
  obtain ⟨v2, hv2⟩ : ∃ v, v = aw2 := ⟨_, rfl⟩
  obtain ⟨v4, hv4⟩ : ∃ v, v = aw2.md.md := ⟨_, rfl⟩
  rw [← hv4] at n1 n2
  have CN : ∀ w r p q, Rgn w r p 1 2 64 → Blk w p 55 (v4.cells q) → Calls Try.prog 44 #[.pointer (some ⟨r, 0, none⟩)] w fun e w' => e = .returned (.int .i64 6) ∧ w = w' := fun w r p q h hb => by have := gCount_any r p q 1 2 64 v4 w h hb; rw [n1] at this; exact this
  have DN := fun w r p q h hb => gDown_any r p q 1 2 64 v4 w h hb
  rw [n2] at DN
  rw [← hv4] at RD
  rw [← hv2] at WR RD n3 n4 n5
  obtain ⟨v0, hv0⟩ : ∃ v, v = aw0 := ⟨_, rfl⟩
  rw [← hv0] at DV NW WR
  obtain ⟨X, hX⟩ : ∃ X : List UInt8, X = [0, 1, 2, 3, 4, 0] := ⟨_, rfl⟩
  have hXl : X.length = 6 := by rw [hX]; rfl
  have hXb : bv X = [.int .u8 0, .int .u8 1, .int .u8 2, .int .u8 3, .int .u8 4, .int .u8 0] := by rw [hX]; rfl
  rw [← hX] at RD
  have HX := Lib.hid (And.intro hXl hXb)
  clear hv2 hv4 hv0 hX e0 n1 n2 n3 n4 n5 hXl hXb
  go_enter Try.func40, Try.ntmps40
  go_wp2_with (first
                | (with_reducible refine st_bslice ?_)
                | (go_at_call 30; refine (DV _).mono ?_; rintro e w1 ⟨p, q, p', q', L, M, rfl, hP1, _, _, hm1, hg1, _⟩)
                | (go_at_call 31; refine (NW _ _ _ _ hP1).mono ?_; rintro e w2 ⟨r, rfl, hR2, hr2, hm2⟩))
  have hRs2 : Rs w2 r p 1 2 64 L := Rs.new hR2 hP1 hr2
  refine StopOp.gw rfl fun K hK => ?_
  refine wp_bslice stB [.int .u8 1, .int .u8 2, .int .u8 3, .int .u8 4] rfl (by decide) (by rfl) (by simp [Value.cells]) ?_
  intro g w3 hg1' hg2' hm3 hB3
  simp only [put_some, List.set_cons_succ, List.set_cons_zero]
  refine hK _ _ ?_
  clear hK K
  have hx3 : Ob w3 (.slice (some ⟨g, 0, none⟩) 4 4) [1, 2, 3, 4] := Ob.new4 hB3 rfl (by omega)
  have hP2 := hP1.ext hm2
  have hP3 := hP2.ext hm3
  have hRs3 := hRs2.ext hm3
  have hR3 := hRs3.1
  have hs3 := Ob.bs hx3
  have hbB : ∀ x ∈ blks (.slice (some ⟨g, 0, none⟩) 4 4), x < w3.heap.size ∧ x ∉ p :: L := fun x hx => by
    have e : x = g := by simpa [blks] using hx
    rw [e]
    exact ⟨hg2', fun hh => by have := hP2.lt0 g hh; omega⟩
  go_wp2_with (first
                | (with_reducible refine st_bslice ?_)
                | (go_at_call 34; refine (WR _ _ _ _ _ _ hP3 hR3 hs3 hRs3.2 hbB).mono ?_; rintro e w4 ⟨rfl, L4, hP4, hm4, hL4⟩; have hRs4 := hRs3.turn hm4 hL4; have hR4 := hRs4.1)
                | (go_at_call 37; refine (RD _ _ _ _ _ hP4 hR4).mono ?_; rintro e w5 ⟨u5, rfl, ho5, hn5, hP5, hm5⟩; have hRs5 := hRs4.turn (hm5.weak (by simp)) (fun x hx => .inl hx)))
  obtain ⟨ao5, cap5, rfl, _, _⟩ := Ob.nxR (n := 6) ho5 HX.out.1
  refine StopOp.gw rfl fun K hK => ?_
  refine wp_bslice stB [.int .u8 0, .int .u8 1, .int .u8 2, .int .u8 3, .int .u8 4, .int .u8 0] rfl (by decide) (by rfl) (by simp [Value.cells]) ?_
  intro h w6 hh1 hh2 hm6 hB6
  simp only [put_some, List.set_cons_succ, List.set_cons_zero]
  refine hK _ _ ?_
  clear hK K
  have hx6 : Ob w6 (.slice (some ⟨h, 0, none⟩) 6 6) X := Ob.new4 (by rw [HX.out.2]; exact hB6) HX.out.1.symm (by omega)
  have hs6 := Ob.bs hx6
  have hs5 := (Ob.bs ho5).ext hm6
  have hm14 : Mod [] w w4 := ((hm1.ext hm2).ext hm3).fresh hm4 (fun g hg => by
    rcases List.mem_cons.1 hg with e | e
    · exact hg1 g (by simp [e])
    · exact hg1 g (by simp [e]))
  have hm15 : Mod [] w w5 := hm14.fresh hm5 (fun g hg => hg1 g (by simp at hg; simp [hg]))
  have hRs6 := hRs5.ext hm6
  have hP6 := hP5.ext hm6
  go_wp2_with (first
                | (go_at_call 19; refine (same_yes X X _ _ _ hs5 hs6 rfl).mono ?_; rintro e w7 ⟨rfl, hm7⟩; have hR7 := (hRs6.ext hm7).1; have hP7 := hP6.ext hm7)
                | (go_at_call 42; refine (BY _ _ _ hR7).mono ?_; rintro e w8 ⟨rfl, hm8⟩; have hR8 := Rgn.ext hR7 hm8; have hB8 := (hP7.ext hm8).b)
                | (go_at_call 43; refine (SZ _ _ _ hR8).mono ?_; rintro e w9 ⟨rfl, rfl⟩)
                | (go_at_call 44; refine (CN _ _ _ _ hR8 hB8).mono ?_; rintro e w9 ⟨rfl, rfl⟩)
                | (go_at_call 45; refine (DN _ _ _ _ hR8 hB8).mono ?_; rintro e w9 ⟨rfl, rfl⟩))
  go_ret
  exact ⟨rfl, ((hm15.ext hm6).ext hm7).ext hm8⟩
end Go.Proofs.Ytdmnogmhnhjdgaa
