import Derived.Test.YtdmnogmhnhjdgaaPwC
import Derived.Test.YtdmnogmhnhjdgaaDkX
import Derived.Test.YtdmnogmhnhjdgaaDkP
/-! Devices: awake; PowerNil. -/
set_option linter.unusedVariables false
set_option linter.unusedSimpArgs false
set_option maxRecDepth 100000
namespace Go.Proofs.Ytdmnogmhnhjdgaa
open Go.RowKit Gw

section
variable {w w1 w' : World} {p q : Nat} {v : Pv} {L : List Nat} {u : Value} {l : List UInt8}
theorem PdP.step (h : PdP w p q v L w') : ∃ L', Pd w' p q v L' ∧ Mod (p :: L) w w' ∧ ∀ k ∈ L', k ∈ L ∨ w.heap.size ≤ k := h
end
/-- a device of one's own -/
structure Ps (W w : World) (p q : Nat) (v : Pv) (L : List Nat) : Prop where
  d : Pd w p q v L
  m : Mod [] W w
  p1 : W.heap.size ≤ p
  l1 : ∀ k ∈ L, W.heap.size ≤ k
section
variable {W w w' : World} {p q : Nat} {v v' : Pv} {L L' : List Nat} {u : Value} {l : List UInt8}
theorem Ps.ext (h : Ps W w p q v L) (hm : Mod [] w w') : Ps W w' p q v L := ⟨h.d.ext hm, h.m.ext hm, h.p1, h.l1⟩
theorem Ps.ge (h : Ps W w p q v L) : ∀ g ∈ p :: L, W.heap.size ≤ g := fun g hg => (List.mem_cons.1 hg).elim (fun e => e ▸ h.p1) (h.l1 g)
theorem Ps.turn (h : Ps W w p q v L) (hd : Pd w' p q v' L') (hm : Mod (p :: L) w w') (hL : ∀ k ∈ L', k ∈ L ∨ w.heap.size ≤ k) : Ps W w' p q v' L' :=
  ⟨hd, h.m.fresh hm h.ge, h.p1, fun k hk => (hL k hk).elim (h.l1 k) fun h1 => Nat.le_trans h.m.size h1⟩
theorem Ps.out (h : Ps W w p q v L) (ho : Ob w' u l) (hn : New w u) : ∀ b ∈ blks u, b ∉ p :: L := fun b hb hh => by
  have := hn b hb
  rcases List.mem_cons.1 hh with e | e
  · have := h.d.b.lt; omega
  · have := h.d.d.lt b e; omega
theorem out_step (ho : Ob w u l) (hd : ∀ b ∈ blks u, b ∉ p :: L) (hm : Mod (p :: L) w w') (hL : ∀ k ∈ L', k ∈ L ∨ w.heap.size ≤ k) : Ob w' u l ∧ ∀ b ∈ blks u, b ∉ p :: L' :=
  ⟨Ow.mod ho hm hd, fun b hb hh => by
    rcases List.mem_cons.1 hh with e | e
    · exact hd b hb (by rw [e]; exact List.mem_cons_self)
    · exact (hL b e).elim (fun h1 => hd b hb (List.mem_cons_of_mem _ h1)) fun h1 => by have := Ow.lt ho b hb; omega⟩
end
theorem mayD_4_64' : mayD 4 64 = true := by kernel_rfl
theorem aw_read6 (X : List UInt8) (hX : X.length = 64) : oR 1 (some ((((⟨64, List.replicate 4 (zeros 64), []⟩ : Dm).write 1 X).sync).crash [])) = X := by
  have e1 : tear 64 X (zeros 64) = X := by unfold tear; rw [List.take_of_length_le (by omega), List.drop_eq_nil_of_le (by simp [zeros])]; simp
  simp [oR, noneE, Dm.crash, Dm.sync, Dm.settle, settleD, Dm.write, stepD, Dm.read, List.zipIdx, List.replicate, e1]
set_option maxRecDepth 1000000 in
set_option maxHeartbeats 8000000 in
theorem pwawake_any (w : World) : Calls Try.prog 10 #[] w fun e w' => e = .returned (.bool true) ∧ Mod [] w w' := by
  have N0 : ∀ w, Calls Try.prog 12 #[.int .i64 4, .int .i64 64] w (NewD 4 64 w) := fun w => dnew_yes 4 64 w mayD_4_64'
  unfold NewD at N0
  obtain ⟨X, hX⟩ : ∃ X, X = (zeros 64).set 9 7 := ⟨_, rfl⟩
  have hXl : X.length = 64 := by rw [hX]; simp [zeros]
  have HX := Lib.hid hX
  clear hX
  have hrd := aw_read6 X hXl
  have hok0 : (⟨64, List.replicate 4 (zeros 64), []⟩ : Dm).ok := by refine ⟨?_, ?_, ?_, ?_, ?_, ?_⟩ <;> simp [zeros]
  have hw0 : writeE ⟨64, List.replicate 4 (zeros 64), []⟩ 1 X.length = 0 := by unfold writeE noneE; simp [hXl]
  have hne : noneE ((((⟨64, List.replicate 4 (zeros 64), []⟩ : Dm).write 1 X).sync).crash []).dur.length 1 = 0 := by
    unfold Dm.crash Dm.sync Dm.settle noneE
    simp [settleD_len, Dm.write]
  have hrows : (⟨64, List.replicate 4 (zeros 64), []⟩ : Dm).row.length = 0 ∧ ((⟨64, List.replicate 4 (zeros 64), []⟩ : Dm).write 1 X).row.length = 1 ∧ (((⟨64, List.replicate 4 (zeros 64), []⟩ : Dm).write 1 X).sync).row.length = 0 := ⟨rfl, rfl, rfl⟩
  obtain ⟨m0, hm0⟩ : ∃ m : Dm, m = ⟨64, List.replicate 4 (zeros 64), []⟩ := ⟨_, rfl⟩
  rw [← hm0] at N0 hrd hok0 hw0 hne hrows
  clear hm0
  have hwm : wrM m0 1 X = m0.write 1 X := by unfold wrM; rw [if_pos hw0]; rfl
  obtain ⟨m1, hm1⟩ : ∃ m, m = m0.write 1 X := ⟨_, rfl⟩
  rw [← hm1] at hrd hne hrows hwm
  obtain ⟨m2, hm2⟩ : ∃ m, m = m1.sync := ⟨_, rfl⟩
  rw [← hm2] at hrd hne hrows
  obtain ⟨m3, hm3⟩ : ∃ m, m = m2.crash [] := ⟨_, rfl⟩
  rw [← hm3] at hrd hne
  have PN := fun w q L h => pnew_yes q m0 L w h hok0
  have s1 : (Pv.mk m0 false (-1) 0).wr 1 X = ⟨m1, false, -1, 1⟩ := by show Pv.at _ (wrM m0 1 X) = _; rw [hwm]; rfl
  have s3 : (Pv.mk m1 false 1 1).sy = ⟨m2, false, 0, 2⟩ := by rw [hm2]; rfl
  have s6 : (Pv.mk m2 true (-1) 2).re [] = ⟨m3, false, -1, 0⟩ := by rw [hm3]; rfl
  have WR1 := fun w p q L bw h hb hbp => pWrite_any p q ⟨m0, false, -1, 0⟩ L 1 X bw w h hb hbp (by simp) (by have := hrows.1; dsimp only; omega)
  have E1 : (Pv.mk m0 false (-1) 0).e (writeE m0 1 X.length) = 0 := by rw [hw0]; rfl
  simp only [E1, s1] at WR1
  have AR1 := fun w p q L h => pArm_any p q ⟨m1, false, -1, 1⟩ L 1 w h (by omega)
  have s2 : (Pv.mk m1 false (-1) 1).arm 1 = ⟨m1, false, 1, 1⟩ := rfl
  simp only [s2, Bool.false_eq_true, if_false] at AR1
  have SY1 := fun w p q L h => pSync_any p q ⟨m1, false, 1, 1⟩ L w h (by simp) (by have := hrows.2.1; dsimp only; omega)
  have E3 : (Pv.mk m1 false 1 1).e 0 = 0 := rfl
  simp only [E3, s3] at SY1
  have WR2 := fun w p q L bw l h hb hbp => pWrite_any p q ⟨m2, false, 0, 2⟩ L 1 l bw w h hb hbp (by simp) (by have := hrows.2.2; dsimp only; omega)
  have E4 : ∀ l : List UInt8, (Pv.mk m2 false 0 2).e (writeE m2 1 l.length) = 60 ∧ (Pv.mk m2 false 0 2).wr 1 l = ⟨m2, true, -1, 2⟩ := fun l => ⟨rfl, rfl⟩
  simp only [(E4 _).1, (E4 _).2] at WR2
  have DO := fun w p q h => pDown_any p q ⟨m2, true, -1, 2⟩ w h
  have RE := fun w p q L h hF hFL => pRestart_any p q ⟨m2, true, -1, 2⟩ L [] (.slice none 0 0) w h (by have := hrows.2.2; dsimp only; omega) hF hFL
  rw [s6] at RE
  have RD := fun w p q L h => pRead_any p q ⟨m3, false, -1, 0⟩ L 1 w h (by simp)
  have E7 : (Pv.mk m3 false (-1) 0).e (noneE m3.dur.length 1) = 0 := by rw [hne]; rfl
  have E8 : (Pv.mk m3 false (-1) 0).rd 1 = X := by rw [← hrd]; rfl
  have E9 : (Pv.mk m3 false (-1) 0).md = ⟨m3, false, -1, 1⟩ := rfl
  simp only [E7, E8, E9] at RD
  have CO := fun w p q h => pCount_any p q ⟨m3, false, -1, 1⟩ w h
  clear hrd hw0 hne hrows hwm hm1 hm2 hm3 s1 s3 s6 E1 s2 E3 E4 E7 E8 E9 hok0
  have HXL := Lib.hid hXl
  clear hXl
  go_enter Try.func10, Try.ntmps10
  go_wp2_with (first
                | (with_reducible refine st_make ?_)
                | (go_at_call 12; refine (N0 _).mono ?_; rintro e w1 ⟨q, L1, rfl, hD1, hL1, hm1⟩)
                | (go_at_call 13; refine (PN _ _ _ hD1).mono ?_; rintro e w2 ⟨p, rfl, hP2, hp2, hm2⟩))
  have hPs : Ps w w2 p q ⟨m0, false, -1, 0⟩ L1 := ⟨hP2, hm1.ext hm2, Nat.le_trans hm1.size hp2, hL1⟩
  clear hD1 hm1 hm2 hP2 hp2 hL1
  refine StopOp.go rfl fun K hK => ?_
  refine wp_make (nl := 64) (nc := 64) stB (by rfl) (by rfl) rfl rfl (Nat.le_refl _) (by omega) (by omega) ?_
  intro g w3 hg1 hg2 hm3 hB3
  simp only [put_some, List.set_cons_succ, List.set_cons_zero]
  refine hK _ _ ?_
  clear hK K
  rw [show (List.replicate 64 (Value.int .u8 0).cells.toList).flatten = bv (zeros 64) from (bv_zeros 64).symm] at hB3
  go_wp2_with (with_reducible refine st_store ?_)
  refine StopOp.go rfl fun K hK => ?_
  refine wp_store1 (by kernel_rfl) (by rfl) (u := .int .u8 7) (by rfl) ⟨rfl, rfl⟩ hB3 (by rw [bv_length]; simp [zeros]) ?_
  intro w4 hm4 hB4
  refine hK _ _ ?_
  clear hK K
  have hPs4 : Ps w w4 p q ⟨m0, false, -1, 0⟩ L1 := by
    have h3 := hPs.ext hm3
    have e1 : p ≠ g := fun e => by have := hPs.d.b.lt; omega
    have e2 : ∀ b ∈ L1, b ∉ [g] := fun b hb hh => by have e : b = g := (by simpa using hh); have := hPs.d.d.lt b hb; omega
    have := hPs.m.size
    exact ⟨h3.d.mod hm4 (by simpa using e1) e2, h3.m.fresh hm4 (by simp; omega), h3.p1, h3.l1⟩
  have hx4 : Ob w4 (.slice (some ⟨g, 0, none⟩) X.length X.length) X := by
    have e := bv_set (zeros 64) [] 9 7 (by simp [zeros])
    rw [List.append_nil, ← HX.out, List.append_nil] at e
    have hb : Blk w4 g 5 (bv X ++ []) := by rw [List.append_nil, ← e]; exact hB4
    exact Ow.of_blk hb (Nat.le_refl _) (by rw [HXL.out]; omega) (by rw [List.append_nil, bv_length]; simp) (by rw [bv_length]; simp)
  rw [HXL.out] at hx4
  have ox4 : ∀ b ∈ blks (.slice (some ⟨g, 0, none⟩) 64 64), b ∉ p :: L1 := fun b hb hh => by
    have e : b = g := by simpa [blks] using hb
    rcases List.mem_cons.1 hh with h1 | h1
    · have := hPs.d.b.lt; omega
    · have := hPs.d.d.lt b h1; omega
  clear hPs hm3 hB3 hm4 hB4
  have hP4 := hPs4.d
  go_wp2_with (first
                | (with_reducible refine st_make ?_)
                | (go_at_call 53; refine (WR1 _ _ _ _ _ hP4 (Ob.bs hx4) (fun b hb e => ox4 b hb (by rw [e]; exact List.mem_cons_self))).mono ?_; rintro e w5 ⟨rfl, hp5⟩; obtain ⟨L5, hP5, hm5, hL5⟩ := hp5; have hPs5 := hPs4.turn hP5 hm5 hL5; obtain ⟨hx5, ox5⟩ := out_step hx4 ox4 hm5 hL5)
                | (go_at_call 14; refine (AR1 _ _ _ _ hP5).mono ?_; rintro e w6 ⟨rfl, hP6, hm6⟩; have hm6' : Mod (p :: L5) w5 w6 := hm6.weak (by simp); have hPs6 := hPs5.turn hP6 hm6' (fun k hk => .inl hk); obtain ⟨hx6, ox6⟩ := out_step hx5 ox5 hm6' (fun k hk => .inl hk))
                | (go_at_call 54; refine (SY1 _ _ _ _ hP6).mono ?_; rintro e w7 ⟨rfl, hp7⟩; obtain ⟨L7, hP7, hm7, hL7⟩ := hp7; have hPs7 := hPs6.turn hP7 hm7 hL7; obtain ⟨hx7, ox7⟩ := out_step hx6 ox6 hm7 hL7))
  refine StopOp.go rfl fun K hK => ?_
  refine wp_make (nl := 64) (nc := 64) stB (by rfl) (by rfl) rfl rfl (Nat.le_refl _) (by omega) (by omega) ?_
  intro h w8 hh1 hh2 hm8 hB8
  simp only [put_some, List.set_cons_succ, List.set_cons_zero]
  refine hK _ _ ?_
  clear hK K
  have hy8 := Ob.made hB8 (by omega)
  have hPs8 := hPs7.ext hm8
  have hP8 := hPs8.d
  have hx8 : Ob w8 _ X := hx7.ext hm8
  have oy8 : ∀ b ∈ blks (.slice (some ⟨h, 0, none⟩) 64 64), b ≠ p := fun b hb e => by
    have e1 : b = h := by simpa [blks] using hb
    have := hP7.b.lt
    omega
  clear hP4 hP5 hP6 hm5 hm6 hm6' hm7 hL5 hL7 hPs4 hPs5 hPs6 hPs7 hx4 hx5 hx6 hx7 ox4 ox5 ox6 hm8 hB8
  have hs8 := Ob.bs hy8
  go_wp2_with (first
                | (go_at_call 53; refine (WR2 _ _ _ _ _ (zeros 64) hP8 hs8 oy8).mono ?_; rintro e w9 ⟨rfl, hp9⟩; obtain ⟨L9, hP9, hm9, hL9⟩ := hp9; have hPs9 := hPs8.turn hP9 hm9 hL9; obtain ⟨hx9, ox9⟩ := out_step hx8 ox7 hm9 hL9; have hB9 := hP9.b; have hFn : Fs w9 (.slice none 0 0) [] := Sl.nil _ _)
                | (go_at_call 17; refine (DO _ _ _ hB9).mono ?_; rintro e w10 ⟨rfl, rfl⟩)
                | (go_at_call 23; refine (RE _ _ _ _ hP9 hFn (fun h => absurd rfl h)).mono ?_; rintro e w11 ⟨rfl, hp11⟩; obtain ⟨L11, hP11, hm11, hL11⟩ := hp11; have hPs11 := hPs9.turn hP11 hm11 hL11; obtain ⟨hx11, ox11⟩ := out_step hx9 ox9 hm11 hL11)
                | (go_at_call 55; refine (RD _ _ _ _ hP11).mono ?_; rintro e w12 ⟨v12, rfl, ho12, hn12, hP12, hm12⟩; have hm12' : Mod (p :: L11) w11 w12 := hm12.weak (by simp); have hPs12 := hPs11.turn hP12 hm12' (fun k hk => .inl hk); obtain ⟨hx12, ox12⟩ := out_step hx11 ox11 hm12' (fun k hk => .inl hk); have a1 := Ob.bs hx12; have a2 := Ob.bs ho12)
                | (go_at_call 19; refine (same_yes X X _ _ _ a1 a2 rfl).mono ?_; rintro e w13 ⟨rfl, hm13⟩; have hPs13 := hPs12.ext hm13; have hB13 := hPs13.d.b)
                | (go_at_call 20; refine (CO _ _ _ hB13).mono ?_; rintro e w14 ⟨rfl, rfl⟩))
  go_ret
  exact ⟨rfl, hPs13.m⟩
set_option maxRecDepth 1000000 in
set_option maxHeartbeats 4000000 in
theorem powerNil_core (at_ : Int) (bw fv : Value) (w : World) : Calls Try.prog 4 #[.int .i64 at_, bw, fv] w fun e w' => e = .returned (.bool true) ∧ Mod [] w w' := by
  have PN := fun w u h => pnew_no u w h
  have AW := fun w => pwawake_any w
  have NN := fun w v h => pwnone_any v bw fv at_ w h
  have h0 : NoDk w (.pointer none) := .inl rfl
  have hn0 : NoPw w (.pointer none) := .inl rfl
  go_enter Try.func4, Try.ntmps4
  go_wp2_with (first
                | (with_reducible refine st_box ?_)
                | (go_at_call 13; (with_reducible refine (PN _ _ h0).mono ?_); rintro e w1 ⟨rfl, rfl⟩))
  refine StopOp.go rfl fun K hK => ?_
  refine wp_box (v := .agg #[.int .i64 0, .slice none 0 0, .slice none 0 0, .map none]) (by rfl) ?_
  intro p w2 hp1 hp2 hm2 hB2
  simp only [put_some, List.set_cons_succ, List.set_cons_zero]
  refine hK _ _ ?_
  clear hK K
  have h2 : NoDk w2 (.pointer (some ⟨p, 0, none⟩)) := .inr ⟨p, rfl, hB2⟩
  have hn2 : NoPw w2 (.pointer none) := .inl rfl
  go_wp2_with (first
                | (with_reducible refine st_box ?_)
                | (go_at_call 13; (with_reducible refine (PN _ _ h2).mono ?_); rintro e w3 ⟨rfl, rfl⟩)
                | (go_at_call 29; (with_reducible refine (NN _ _ hn2).mono ?_); rintro e w3 ⟨rfl, rfl⟩))
  refine StopOp.gw rfl fun K hK => ?_
  refine wp_box (v := .agg #[.pointer none, .bool false, .int .i64 0, .int .i64 0]) (by rfl) ?_
  intro r w4 hr1 hr2 hm4 hB4
  simp only [put_some, List.set_cons_succ, List.set_cons_zero]
  refine hK _ _ ?_
  clear hK K
  have hn4 : NoPw w4 (.pointer (some ⟨r, 0, none⟩)) := .inr ⟨r, rfl, hB4⟩
  go_wp2_with (first
                | (go_at_call 29; (with_reducible refine (NN _ _ hn4).mono ?_); rintro e w5 ⟨rfl, rfl⟩)
                | (go_at_call 10; (with_reducible refine (AW _).mono ?_); rintro e w6 ⟨rfl, hm6⟩))
  go_ret
  exact ⟨rfl, (hm2.ext hm4).ext hm6⟩
end Go.Proofs.Ytdmnogmhnhjdgaa
