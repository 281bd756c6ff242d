import Derived.Test.YtkedbphdflhhlaaGDk
import Derived.Test.YtkedbphdflhhlaaDkS
import Derived.Test.YtkedbphdflhhlaaOctG
/-! Disks: awake. -/
set_option linter.unusedVariables false
set_option linter.unusedSimpArgs false
set_option maxRecDepth 100000
namespace Go.Proofs.Ytkedbphdflhhlaa
open Go.RowKit Gw

theorem stF : ST Try.prog 65 54 (.agg #[.int .i64 0, .int .i64 0]) 2 16 := ⟨Try.underlying65, by kernel_rfl, rfl, by decide⟩
theorem fill64 (x : Int) (w : World) : Calls Try.prog 36 #[.int .i64 x, .int .i64 64] w fun e w' => ∃ v, e = .returned v ∧ Ob w' v (fillL x 64) ∧ New w v ∧ Mod [] w w' := fill_any x 64 w (by omega)
/-- a disk that is one's own: it lies in new memory -/
def Own (w0 w : World) (p : Nat) (m : Dm) (L : List Nat) : Prop := Dk w p m L ∧ ∀ k ∈ L, w0.heap.size ≤ k
section
variable {w0 w w' : World} {p : Nat} {m : Dm} {L : List Nat}
theorem Own.ext (h : Own w0 w p m L) (hm : Mod [] w w') : Own w0 w' p m L := ⟨h.1.ext hm, h.2⟩
end
/-- what a call that turns one's own disk leaves -/
def OwnPost (w0 w : World) (p : Nat) (m' : Dm) (w' : World) (L : List Nat) : Prop := ∃ L', Own w0 w' p m' L' ∧ Mod L w w' ∧ ∀ k ∈ L', k ∈ L ∨ w.heap.size ≤ k
theorem DkPost.own {w0 w w' : World} {p : Nat} {m m' : Dm} {L : List Nat} (h : DkPost w p m' L w') (ho : Own w0 w p m L) (hs : w0.heap.size ≤ w.heap.size) : OwnPost w0 w p m' w' L := by
  obtain ⟨L', h1, h2, h3⟩ := h
  exact ⟨L', ⟨h1, fun k hk => (h3 k hk).elim (ho.2 k) (Nat.le_trans hs)⟩, h2, h3⟩
theorem Own.mod0 {w0 w w' : World} {p : Nat} {m : Dm} {L : List Nat} (h : Own w0 w p m L) (h0 : Mod [] w0 w) (hm : Mod L w w') : Mod [] w0 w' := h0.fresh hm h.2
theorem Mod.own {w0 w w' : World} {L : List Nat} (h0 : Mod [] w0 w) (hm : Mod L w w') (hL : ∀ k ∈ L, w0.heap.size ≤ k) : Mod [] w0 w' := h0.fresh hm hL
/-- bytes of one's own keep through what turns a disk that was there before -/
theorem Ob.keepL {w w1 w' : World} {v : Value} {l : List UInt8} {L : List Nat} (h : Ob w1 v l) (hm : Mod L w1 w') (hd : ∀ b ∈ blks v, b ∉ L) : Ob w' v l := Ow.mod h hm hd
theorem new_out {w : World} {v : Value} {L : List Nat} (hn : New w v) (hl : ∀ b ∈ L, b < w.heap.size) : ∀ b ∈ blks v, b ∉ L := fun b hb hL => by have := hn b hb; have := hl b hL; omega
theorem Ob.headn {w : World} {v : Value} {l : List UInt8} {n : Nat} (h : Ob w v l) (hl : l.length = n) (h0 : 0 < n) : ∃ g cap rest, v = .slice (some ⟨g, 0, none⟩) n cap ∧ Blk w g 5 (bv l ++ rest) ∧ n ≤ cap ∧ cap ≤ 9223372036854775807 ∧ (bv l ++ rest).length = cap := by
  subst hl
  exact h.head h0
/-- the tail of bytes -/
theorem Bs.tail {w : World} {g cap k : Nat} {l : List UInt8} (h : Bs w (.slice (some ⟨g, 0, none⟩) l.length cap) l) (hk : k < l.length) : Bs w (.slice (some ⟨g, k, none⟩) (l.length - k) (cap - k)) (l.drop k) := by
  have hc : l.length ≤ cap := by obtain ⟨_, _, hv, hc, _⟩ := h.form; injection hv with _ _ e; omega
  have := Sl.cut (lo := k) (hi := l.length) (m := cap) h (by omega) (by omega) hc (by omega)
  rw [if_neg (by omega)] at this
  simp only [Nat.mul_one, Addr.add, Option.map_some, Nat.zero_add] at this
  rw [show (if k = 0 then (⟨g, 0, none⟩ : Addr) else ⟨g, k, none⟩) = ⟨g, k, none⟩ by split <;> simp_all] at this
  unfold Bs
  rw [List.length_drop]
  have hb : bv (l.drop k) = (bv l).drop k := by simp [bv, List.map_drop]
  rw [hb]
  have e2 : ((bv l).drop k).take (l.length - k) = (bv l).drop k := List.take_of_length_le (by rw [List.length_drop, bv_length]; omega)
  rw [e2] at this
  exact this
theorem aw_read (a b : List UInt8) (ha : a.length = 64) (hb : b.length = 64) : ((((⟨64, List.replicate 2 (zeros 64), []⟩ : Dm).write 1 a).write 1 b).crash [(1, 0), (2, 3)]).read 1 = b.take 3 ++ a.drop 3 := by
  have e1 : tear 64 a (zeros 64) = a := by unfold tear; rw [List.take_of_length_le (by omega), List.drop_eq_nil_of_le (by simp [zeros])]; simp
  simp [Dm.crash, Dm.settle, settleD, Dm.write, stepD, Dm.read, fateK, clampN, List.zipIdx, e1]
  simp [List.replicate, e1, tear]

set_option maxRecDepth 1000000 in
set_option maxHeartbeats 4000000 in
theorem dkawake_any (w : World) : Calls Try.prog 34 #[] w fun e w' => e = .returned (.bool true) ∧ Mod [] w w' := by
  obtain ⟨A, hA⟩ : ∃ A, A = fillL 65 64 := ⟨_, rfl⟩
  obtain ⟨B, hB⟩ : ∃ A, A = fillL 66 64 := ⟨_, rfl⟩
  have lA : A.length = 64 := by rw [hA, fillL_len]
  have lB : B.length = 64 := by rw [hB, fillL_len]
  have F1 := fun w => fill64 65 w
  have F2 := fun w => fill64 66 w
  rw [← hA] at F1
  rw [← hB] at F2
  clear hA hB
  have hmay : mayD 2 64 = true := by kernel_rfl
  have ok0 : (⟨64, List.replicate 2 (zeros 64), []⟩ : Dm).ok := ⟨by decide, by decide, by decide, by decide, by decide, by simp⟩
  have ok1 := ok0.write (at_ := 1) (b := A) (by decide) lA
  have ok2 := ok1.write (at_ := 1) (b := B) (by show 1 < 2; omega) lB
  have ok3 : ((((⟨64, List.replicate 2 (zeros 64), []⟩ : Dm).write 1 A).write 1 B).crash [(1, 0), (2, 3)]).ok := ok2.settle _
  have N0 : ∀ w, Calls Try.prog 35 #[.int .i64 2, .int .i64 64] w (NewD 2 64 w) := fun w => dnew_yes 2 64 w hmay
  have hrd := aw_read A B lA lB
  have lrd : (B.take 3 ++ A.drop 3).length = 64 := by simp; omega
  have hwt : ((((⟨64, List.replicate 2 (zeros 64), []⟩ : Dm).write 1 A).write 1 B).crash [(1, 0), (2, 3)]).row.length = 0 := rfl
  unfold NewD at N0
  obtain ⟨m0, h0⟩ : ∃ m : Dm, m = ⟨64, List.replicate 2 (zeros 64), []⟩ := ⟨_, rfl⟩
  have d0 : m0.dur.length = 2 := by rw [h0]; rfl
  have s0 : m0.sz = 64 := by rw [h0]
  have r0 : m0.row.length = 0 := by rw [h0]; rfl
  rw [← h0] at ok0 ok1 ok2 ok3 N0 hrd hwt
  clear h0
  have W1 : ∀ p L w v, Dk w p m0 L → Bs w v A → Calls Try.prog 37 #[.pointer (some ⟨p, 0, none⟩), .int .i64 1, v] w fun e w' => e = .returned (.int .i64 0) ∧ DkPost w p (m0.write 1 A) L w' := fun p L w v h hv => dwrite_ok p m0 L 1 A v w h ok0 hv (by omega) (by omega) (by omega)
  have W2 : ∀ p L w v, Dk w p (m0.write 1 A) L → Bs w v B → Calls Try.prog 37 #[.pointer (some ⟨p, 0, none⟩), .int .i64 1, v] w fun e w' => e = .returned (.int .i64 0) ∧ DkPost w p ((m0.write 1 A).write 1 B) L w' := fun p L w v h hv => dwrite_ok p (m0.write 1 A) L 1 B v w h ok1 hv (by show 1 < m0.dur.length; omega) (by show B.length = m0.sz; omega) (by show (m0.row ++ _).length ≤ _; rw [List.length_append, r0]; simp)
  obtain ⟨m2, h2⟩ : ∃ m : Dm, m = (m0.write 1 A).write 1 B := ⟨_, rfl⟩
  have r2 : m2.row.length = 2 := by rw [h2]; show ((m0.row ++ _) ++ _).length = 2; rw [List.length_append, List.length_append, r0]; rfl
  have d2 : m2.dur.length = 2 := by rw [h2]; exact d0
  rw [← h2] at ok2 ok3 hrd hwt W2
  have C1 := fun p L fv w h hF hFL => dcrash_any p m2 L [(1, 0), (2, 3)] fv w h ok2 (by omega) hF hFL
  obtain ⟨m3, h3⟩ : ∃ m : Dm, m = m2.crash [(1, 0), (2, 3)] := ⟨_, rfl⟩
  have d3 : m3.dur.length = 2 := by rw [h3]; unfold Dm.crash Dm.settle; rw [settleD_len]; exact d2
  rw [← h3] at ok3 hrd hwt C1
  clear h2 h3 ok0 ok1 ok2 d0 d2 r0 r2
  have R1 : ∀ p L w, Dk w p m3 L → Calls Try.prog 40 #[.pointer (some ⟨p, 0, none⟩), .int .i64 1] w fun e w' => ∃ v, e = .returned (.tuple #[v, .int .i64 0]) ∧ Ob w' v (B.take 3 ++ A.drop 3) ∧ New w v ∧ Mod [] w w' := fun p L w h => hrd ▸ dread_ok p m3 L 1 w h ok3 (by omega)
  have Q1 : ∀ p L w, Dk w p m3 L → Calls Try.prog 55 #[.pointer (some ⟨p, 0, none⟩)] w fun e w' => e = .returned (.int .i64 0) ∧ w = w' := fun p L w h => by
    have := dWaiting_any p m3 L w h ok3.s1
    rw [hwt] at this
    exact this
  clear hrd hwt ok3 d3 hmay s0
  have LA := Lib.hid lA
  have LB := Lib.hid lB
  have LR := Lib.hid lrd
  clear lA lB lrd
  go_enter Try.func34, Try.ntmps34
  go_wp2_with (first
                | (with_reducible refine st_bslice ?_)
                | (go_at_call 35; refine (N0 _).mono ?_; rintro e w1 ⟨p, L1, rfl, hD1, hL1, hm1⟩)
                | (go_at_call 36; (with_reducible refine (F1 _).mono ?_); rintro e w2 ⟨vA, rfl, hoA, hnA, hmA⟩; obtain ⟨gA, cA, rA, rfl, hbA, hcA, hcA2, _⟩ := hoA.headn LA.out (by omega))
                | (go_at_call 36; (with_reducible refine (F2 _).mono ?_); rintro e w3 ⟨vB, rfl, hoB, hnB, hmB⟩; obtain ⟨gB, cB, rB, rfl, hbB, hcB, hcB2, _⟩ := hoB.headn LB.out (by omega); have hD3 := (hD1.ext hmA).ext hmB)
                | (go_at_call 37; (with_reducible refine (W1 _ _ _ _ hD3 (hoA.ext hmB).bs).mono ?_); rintro e w4 ⟨rfl, L4, hD4, hm4, hL4⟩; have hA4 : Ob w4 _ A := Ow.mod (hoA.ext hmB) hm4 (new_out hnA hD1.lt); have hB4 : Ob w4 _ B := Ow.mod hoB hm4 (new_out hnB (hD1.ext hmA).lt); have hM4 := Mod.own ((hm1.ext hmA).ext hmB) hm4 hL1)
                | (go_at_call 37; (with_reducible refine (W2 _ _ _ _ hD4 hB4.bs).mono ?_); rintro e w5 ⟨rfl, L5, hD5, hm5, hL5⟩))
  have hs1 := ((hm1.ext hmA).ext hmB).size
  have hO4 : ∀ k ∈ L4, w.heap.size ≤ k := fun k hk => (hL4 k hk).elim (hL1 k) (fun h => by omega)
  have hM5 := Mod.own hM4 hm5 hO4
  have hO5 : ∀ k ∈ L5, w.heap.size ≤ k := fun k hk => (hL5 k hk).elim (hO4 k) (fun h => by have := hM4.size; omega)
  have oA : ∀ b ∈ blks (.slice (some ⟨gA, 0, none⟩) 64 cA), b ∉ L4 := fun b hb hh => (hL4 b hh).elim (new_out hnA hD1.lt b hb) (fun h => by have h2 := Ow.lt (hoA.ext hmB) b hb; omega)
  have oB : ∀ b ∈ blks (.slice (some ⟨gB, 0, none⟩) 64 cB), b ∉ L4 := fun b hb hh => (hL4 b hh).elim (new_out hnB (hD1.ext hmA).lt b hb) (fun h => by have h2 := Ow.lt hoB b hb; omega)
  have hA5 : Ob w5 _ A := Ow.mod hA4 hm5 oA
  have hB5 : Ob w5 _ B := Ow.mod hB4 hm5 oB
  have oA5 : ∀ b ∈ blks (.slice (some ⟨gA, 0, none⟩) 64 cA), b ∉ L5 := fun b hb hh => (hL5 b hh).elim (oA b hb) (fun h => by have h2 := Ow.lt hA4 b hb; omega)
  have oB5 : ∀ b ∈ blks (.slice (some ⟨gB, 0, none⟩) 64 cB), b ∉ L5 := fun b hb hh => (hL5 b hh).elim (oB b hb) (fun h => by have h2 := Ow.lt hB4 b hb; omega)
  clear hbA hbB hoA hoB hA4 hB4 hm4 hm5 hmA hmB hm1 hnA hnB oA oB hL4 hL5 hD3 hD4 hD1 hM4 hO4 hs1 W1 W2 F1 F2 N0
  refine StopOp.go rfl fun K hK => ?_
  refine wp_bslice stF [.agg #[.int .i64 1, .int .i64 0], .agg #[.int .i64 2, .int .i64 3]] rfl (by decide) (by rfl) (by simp [Value.cells]) ?_
  intro g6 w6 hg6 hg62 hm6 hBf
  simp only [put_some, List.set_cons_succ, List.set_cons_zero]
  refine hK _ _ ?_
  clear hK K
  have hF6 : Fs w6 (.slice (some ⟨g6, 0, none⟩) 2 2) [(1, 0), (2, 3)] := (Ow.of_blk (rest := []) hBf (Nat.le_refl _) (by omega) rfl rfl : Ow w6 54 2 (.slice (some ⟨g6, 0, none⟩) 2 2) 2 (fcells [(1, 0), (2, 3)])).sl
  have hg6L : ∀ b ∈ blks (.slice (some ⟨g6, 0, none⟩) 2 2), b ∉ L5 := fun b hb hh => by
    have h1 := hD5.lt b hh
    have h2 : b = g6 := by simpa [blks] using hb
    omega
  go_wp2_with (first
                | (go_at_call 39; (with_reducible refine (C1 _ _ _ _ (hD5.ext hm6) hF6 (fun _ => hg6L)).mono ?_); rintro e w7 ⟨rfl, L7, hD7, hm7, hL7⟩)
                | (go_at_call 40; (with_reducible refine (R1 _ _ _ hD7).mono ?_); rintro e w8 ⟨v8, rfl, ho8, hn8, hm8⟩; obtain ⟨g8, c8, r8, rfl, hb8, _⟩ := ho8.headn LR.out (by omega)))
  have hM6 := hM5.ext hm6
  have hM8 := (Mod.own hM6 hm7 hO5).ext hm8
  have hA8 := (Ow.mod (Ow.ext hA5 hm6) hm7 oA5).ext hm8
  have hB8 := (Ow.mod (Ow.ext hB5 hm6) hm7 oB5).ext hm8
  have hD8 := hD7.ext hm8
  clear hM5 hM6 hm6 hm7 hm8 hA5 hB5 oA5 oB5 hD5 hD7 hO5 hF6 hg6L hBf hL7 hb8 C1 R1
  refine wp_region_T [⟨1, true, []⟩, ⟨2, true, []⟩, ⟨4, true, []⟩, ⟨5, true, []⟩, ⟨0, false, []⟩, ⟨3, false, []⟩, ⟨6, false, []⟩, ⟨7, true, []⟩] (by kernel_rfl) (by kernel_rfl) ?_
  have hmd : Mod [] w8 w8.drew := Mod.drew [] _
  have hM9 := hM8.ext hmd
  have hA9 := hA8.ext hmd
  have hB9 := hB8.ext hmd
  have h89 := ho8.ext hmd
  have hD9 := hD8.ext hmd
  obtain ⟨w9, hw9⟩ : ∃ x, x = w8.drew := ⟨_, rfl⟩
  rw [← hw9] at hM9 hA9 hB9 h89 hD9 ⊢
  clear hw9 hmd hM8 hA8 hB8 ho8 hD8
  iterate 4 (refine wpT_n rfl rfl (fun K hK => ?_); go_wp2_with fail)
  have hBb : Bs w9 (.slice (some ⟨gB, 0, none⟩) 3 cB) (B.take 3) := Bs.pre (Ob.bs hB9) LB.out.symm (by omega) (by omega)
  have hAb : Bs w9 (.slice (some ⟨gA, 3, none⟩) 61 (cA - 3)) (A.drop 3) := by
    have h := Ob.bs hA9
    have := Bs.tail (k := 3) (g := gA) (cap := cA) (l := A) (by rw [LA.out]; exact h) (by rw [LA.out]; omega)
    rwa [LA.out] at this
  refine wpT_e0 rfl rfl (fun K hK => ?_)
  refine wp_bslice stB [] rfl (by decide) (by rfl) (by simp) ?_
  intro g x1 hg1 hg2 hmx1 hBx1
  simp only [put_some, List.set_cons_succ, List.set_cons_zero]
  refine hK _ _ ?_
  clear hK K
  have ho1 : Ow x1 5 1 (.slice (some ⟨g, 0, none⟩) 0 0) 0 [] := Ow.of_blk (rest := []) hBx1 (by omega) (by omega) (by simp) (by simp)
  have lB3 : (B.take 3).length = 3 := by rw [List.length_take, LB.out]; rfl
  have lA3 : (A.drop 3).length = 61 := by rw [List.length_drop, LA.out]
  have hBb' : Sl x1 1 (.slice (some ⟨gB, 0, none⟩) 3 cB) 3 (bv (B.take 3)) := by have := hBb.ext hmx1; unfold Bs at this; rwa [lB3] at this
  refine wpT_e0 rfl rfl (fun K hK => ?_)
  refine wp_append_ow stB (by rfl) (by rfl) ho1 hBb' (bv_one _) (by omega) (by omega) ?_
  intro v2 x2 ho2 hmx2 hb2
  simp only [put_some, List.set_cons_succ, List.set_cons_zero]
  refine hK _ _ ?_
  clear hK K
  rw [List.nil_append, Nat.zero_add] at ho2
  have hmx : Mod [] w9 x2 := hmx1.fresh hmx2 (by simpa [blks] using hg1)
  have hn2 : ∀ b ∈ blks v2, w9.heap.size ≤ b := fun b hb => (hb2 b hb).elim (fun h => by rw [show b = g by simpa [blks] using h]; exact hg1) (fun h => Nat.le_trans hmx1.size h)
  have hAb' : Sl x2 1 (.slice (some ⟨gA, 3, none⟩) 61 (cA - 3)) 61 (bv (A.drop 3)) := by have := hAb.ext hmx; unfold Bs at this; rwa [lA3] at this
  refine wpT_e0 rfl rfl (fun K hK => ?_)
  refine wp_append_ow stB (by rfl) (by rfl) ho2 hAb' (bv_one _) (by omega) (by omega) ?_
  intro v3 x3 ho3 hmx3 hb3
  simp only [put_some, List.set_cons_succ, List.set_cons_zero]
  refine hK _ _ ?_
  clear hK K
  have hmy : Mod [] w9 x3 := hmx.fresh hmx3 hn2
  have h3 : Ob x3 v3 (B.take 3 ++ A.drop 3) := by
    unfold Ob
    rw [LR.out, bv_append]
    exact ho3
  obtain ⟨g3, c3, r3, rfl, _⟩ := h3.headn LR.out (by omega)
  have hD10 := hD9.ext hmy
  have hM10 := hM9.ext hmy
  have h810 := h89.ext hmy
  clear ho1 ho2 ho3 hmx hmx1 hmx2 hmx3 hmy hb2 hb3 hBb hBb' hAb hAb' hA9 hB9 h89 hD9 hM9 hn2 hBx1
  refine wpT_n rfl rfl (fun K hK => ?_)
  go_wp2_with fail
  refine wpT_nil ?_
  go_wp2_with fail
  go_wp2_with (first
                | (go_at_call 27; refine (same_yes _ _ _ _ _ h810.bs h3.bs rfl).mono ?_; rintro e w11 ⟨rfl, hm11⟩; have hD11 := hD10.ext hm11)
                | (go_at_call 55; (with_reducible refine (Q1 _ _ _ hD11).mono ?_); rintro e w12 ⟨rfl, rfl⟩))
  go_ret
  exact ⟨rfl, hM10.ext hm11⟩
end Go.Proofs.Ytkedbphdflhhlaa
