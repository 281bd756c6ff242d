import Derived.Test.YtkedbphdflhhlaaDkV
import Derived.Test.YtkedbphdflhhlaaApartB
import Derived.Test.YtkedbphdflhhlaaRegT
/-! DiskTears. -/
set_option linter.unusedVariables false
set_option linter.unusedSimpArgs false
set_option maxRecDepth 100000
namespace Go.Proofs.Ytkedbphdflhhlaa
open Go.RowKit Gw

section
variable {w0 w w' : World} {v : Value} {l : List UInt8} {L L' : List Nat}
/-- bytes that lie apart from a disk keep through what turns it, and lie apart from it still -/
theorem Ob.far (h : Ob w v l) (hd : ∀ b ∈ blks v, b ∉ L) (hm : Mod L w w') (hL : ∀ k ∈ L', k ∈ L ∨ w.heap.size ≤ k) : Ob w' v l ∧ ∀ b ∈ blks v, b ∉ L' :=
  ⟨Ow.mod h hm hd, fun b hb hh => (hL b hh).elim (hd b hb) fun h2 => by have := Ow.lt h b hb; omega⟩
theorem own_step (h0 : Mod [] w0 w) (hO : ∀ k ∈ L, w0.heap.size ≤ k) (hm : Mod L w w') (hL : ∀ k ∈ L', k ∈ L ∨ w.heap.size ≤ k) : Mod [] w0 w' ∧ ∀ k ∈ L', w0.heap.size ≤ k :=
  ⟨h0.fresh hm hO, fun k hk => (hL k hk).elim (hO k) fun h => Nat.le_trans h0.size h⟩
end
theorem cell_eq {w w' : World} {b i : Nat} (hm : Mod [] w w') (hb : b < w.heap.size) : w'.cell? ⟨b, i, none⟩ = w.cell? ⟨b, i, none⟩ := by
  unfold World.cell?
  rw [hm.block b hb (by simp)]
theorem Blk.far {w w' : World} {L L' : List Nat} {g : Nat} {t : TypeId} {cs : List Value} (h : Blk w g t cs) (hd : g ∉ L) (hm : Mod L w w') (hL : ∀ k ∈ L', k ∈ L ∨ w.heap.size ≤ k) : Blk w' g t cs ∧ g ∉ L' :=
  ⟨h.mod hm hd, fun hh => (hL g hh).elim hd fun h2 => by have := h.lt; omega⟩
def tearN (k a : Int) : Nat := clampN (if k = 1 then 64 else if k = 2 then a else 0) 64
theorem tearN_le (k a : Int) : tearN k a ≤ 64 := clampN_le _ _
theorem tears_read (a b : List UInt8) (ha : a.length = 64) (hb : b.length = 64) (k t : Int) : (((((⟨64, List.replicate 1 (zeros 64), []⟩ : Dm).write 0 a).sync).write 0 b).crash [(k, t)]).read 0 = tear (tearN k t) b a := by
  have e1 : tear 64 a (zeros 64) = a := by unfold tear; rw [List.take_of_length_le (by omega), List.drop_eq_nil_of_le (by simp [zeros])]; simp
  simp [Dm.crash, Dm.sync, Dm.settle, settleD, Dm.write, stepD, Dm.read, fateK, List.zipIdx, List.replicate, e1, tearN]

def mixB (n : Nat) (a b : List UInt8) : List UInt8 := a.take n ++ b.drop n
theorem mixB_len {n : Nat} {a b : List UInt8} (ha : a.length = 64) (hb : b.length = 64) : (mixB n a b).length = 64 := tear_len ha hb
theorem mixB_at {n i : Nat} {a b : List UInt8} (ha : a.length = 64) (hb : b.length = 64) (hi : i < 64) : (mixB n a b)[i]? = if i < n then a[i]? else b[i]? := by
  unfold mixB
  split
  · rename_i h
    rw [List.getElem?_append_left (by rw [List.length_take]; omega), List.getElem?_take_of_lt h]
  · rename_i h
    by_cases hn : n ≤ 64
    · rw [List.getElem?_append_right (by rw [List.length_take]; omega), List.getElem?_drop, List.length_take]
      congr 1
      omega
    · omega
theorem mixB_succ {n : Nat} {a b : List UInt8} (ha : a.length = 64) (hb : b.length = 64) (hn : n < 64) : (mixB n a b).set n (a[n]'(by omega)) = mixB (n + 1) a b := by
  apply List.ext_getElem?
  intro i
  by_cases hi : i < 64
  · rw [mixB_at ha hb hi, List.getElem?_set]
    by_cases hin : n = i
    · subst hin
      rw [if_pos rfl, if_pos (by rw [mixB_len ha hb]; omega), if_pos (by omega), List.getElem?_eq_getElem]
    · rw [if_neg hin, mixB_at ha hb hi]
      by_cases h1 : i < n
      · rw [if_pos h1, if_pos (by omega)]
      · rw [if_neg h1, if_neg (by omega)]
  · rw [List.getElem?_eq_none (by rw [List.length_set, mixB_len ha hb]; omega), List.getElem?_eq_none (by rw [mixB_len ha hb]; omega)]
theorem cell_u8 {w : World} {g : Nat} {l : List UInt8} {rest : List Value} (h : Blk w g 5 (bv l ++ rest)) {i : Nat} (hi : i < l.length) : w.cell? ⟨g, i, none⟩ = some (.int .u8 (l[i].toNat : Nat)) := by
  refine h.cell' ?_
  rw [List.getElem?_append_left (by rw [bv_length]; omega)]
  simp [bv, hi]
theorem zero_fate' : (Try.prog.info? 54).map (·.zero) = some (some (.agg #[.int .i64 0, .int .i64 0])) := by kernel_rfl

set_option maxRecDepth 1000000 in
set_option maxHeartbeats 4000000 in
theorem diskTears_core (x y s k a : Int) (w : World) (hs : -9223372036854775808 ≤ s ∧ s ≤ 9223372036854775807) :
    Calls Try.prog 6 #[.agg #[.int .i64 x, .int .i64 y, .int .i64 s, .int .i64 k, .int .i64 a]] w fun e w' => e = .returned (.bool true) ∧ Mod [] w w' := by
  obtain ⟨A, hA⟩ : ∃ A, A = fillL x 64 := ⟨_, rfl⟩
  obtain ⟨B, hB⟩ : ∃ A, A = fillL y 64 := ⟨_, rfl⟩
  obtain ⟨S, hS⟩ : ∃ S : Nat, pick s 65 = S ∧ S ≤ 64 := ⟨(pick s 65).toNat, by have := pick_ge s 65; omega, by have := pick_ge s 65; have := pick_lt s 65 (by omega); omega⟩
  have lA : A.length = 64 := by rw [hA, fillL_len]
  have lB : B.length = 64 := by rw [hB, fillL_len]
  have F1 := fun w => fill64 x w
  have F2 := fun w => fill64 y w
  have PK : ∀ w, Calls Try.prog 24 #[.int .i64 s, .int .i64 65] w fun e w' => e = .returned (.int .i64 (S : Nat)) ∧ w = w' := fun w => by
    have := pick_any s 65 w hs.1 hs.2 (by omega) (by omega)
    rw [hS.1] at this
    exact this
  have hS64 := hS.2
  rw [← hA] at F1
  rw [← hB] at F2
  clear hA hB hS hs
  have lX := mixB_len (n := S) lA lB
  obtain ⟨X, hX⟩ : ∃ X, X = mixB S A B := ⟨_, rfl⟩
  rw [← hX] at lX
  have hmay : mayD 1 64 = true := by kernel_rfl
  have N0 : ∀ w, Calls Try.prog 35 #[.int .i64 1, .int .i64 64] w (NewD 1 64 w) := fun w => dnew_yes 1 64 w hmay
  unfold NewD at N0
  have hrd := tears_read A X lA lX k a
  have ok0 : (⟨64, List.replicate 1 (zeros 64), []⟩ : Dm).ok := ⟨by decide, by decide, by decide, by decide, by decide, by simp⟩
  obtain ⟨m0, h0⟩ : ∃ m : Dm, m = ⟨64, List.replicate 1 (zeros 64), []⟩ := ⟨_, rfl⟩
  have d0 : m0.dur.length = 1 := by rw [h0]; rfl
  have s0 : m0.sz = 64 := by rw [h0]
  have r0 : m0.row.length = 0 := by rw [h0]; rfl
  rw [← h0] at ok0 N0 hrd
  clear h0
  have ok1 := ok0.write (at_ := 0) (b := A) (by omega) (by omega)
  have W1 : ∀ p L w v, Dk w p m0 L → Bs w v A → Calls Try.prog 37 #[.pointer (some ⟨p, 0, none⟩), .int .i64 0, v] w fun e w' => e = .returned (.int .i64 0) ∧ DkPost w p (m0.write 0 A) L w' := fun p L w v h hv => dwrite_ok p m0 L 0 A v w h ok0 hv (by omega) (by omega) (by omega)
  obtain ⟨m1, h1⟩ : ∃ m : Dm, m = m0.write 0 A := ⟨_, rfl⟩
  have d1 : m1.dur.length = 1 := by rw [h1]; exact d0
  have s1 : m1.sz = 64 := by rw [h1]; exact s0
  have r1 : m1.row.length ≤ 10 := by rw [h1]; show (m0.row ++ _).length ≤ 10; rw [List.length_append, r0]; simp
  rw [← h1] at ok1 W1 hrd
  clear h1
  have S1 := fun p L w h => dsync_any p m1 L w h ok1 (by omega)
  have ok2 : m1.sync.ok := ok1.settle _
  obtain ⟨m2, h2⟩ : ∃ m : Dm, m = m1.sync := ⟨_, rfl⟩
  have d2 : m2.dur.length = 1 := by rw [h2]; unfold Dm.sync Dm.settle; rw [settleD_len]; exact d1
  have s2 : m2.sz = 64 := by rw [h2]; exact s1
  have r2 : m2.row.length = 0 := by rw [h2]; rfl
  rw [← h2] at ok2 S1 hrd
  clear h2
  have ok3 := ok2.write (at_ := 0) (b := X) (by omega) (by omega)
  have W2 : ∀ p L w v, Dk w p m2 L → Bs w v X → Calls Try.prog 37 #[.pointer (some ⟨p, 0, none⟩), .int .i64 0, v] w fun e w' => e = .returned (.int .i64 0) ∧ DkPost w p (m2.write 0 X) L w' := fun p L w v h hv => dwrite_ok p m2 L 0 X v w h ok2 hv (by omega) (by omega) (by omega)
  obtain ⟨m3, h3⟩ : ∃ m : Dm, m = m2.write 0 X := ⟨_, rfl⟩
  have d3 : m3.dur.length = 1 := by rw [h3]; exact d2
  have r3 : m3.row.length ≤ 10 := by rw [h3]; show (m2.row ++ _).length ≤ 10; rw [List.length_append, r2]; simp
  rw [← h3] at ok3 W2 hrd
  clear h3
  have C1 := fun p L fv w h hF hFL => dcrash_any p m3 L [(k, a)] fv w h ok3 (by omega) hF hFL
  have ok4 : (m3.crash [(k, a)]).ok := ok3.settle _
  obtain ⟨m4, h4⟩ : ∃ m : Dm, m = m3.crash [(k, a)] := ⟨_, rfl⟩
  have d4 : m4.dur.length = 1 := by rw [h4]; unfold Dm.crash Dm.settle; rw [settleD_len]; exact d3
  rw [← h4] at ok4 C1 hrd
  clear h4
  obtain ⟨C, hC⟩ : ∃ C, C = tear (tearN k a) X A := ⟨_, rfl⟩
  have lC : C.length = 64 := by rw [hC]; exact tear_len lX lA
  rw [← hC] at hrd
  have R1 : ∀ p L w, Dk w p m4 L → Calls Try.prog 40 #[.pointer (some ⟨p, 0, none⟩), .int .i64 0] w fun e w' => ∃ v, e = .returned (.tuple #[v, .int .i64 0]) ∧ Ob w' v C ∧ New w v ∧ Mod [] w w' := fun p L w h => hrd ▸ dread_ok p m4 L 0 w h ok4 (by omega)
  have Q1 := fun w => dkawake_any w
  clear ok0 ok1 ok2 ok3 ok4 d0 d1 d2 d3 d4 s0 s1 s2 r0 r1 r2 r3 hrd hmay
  have LA := Lib.hid lA
  have LB := Lib.hid lB
  have LX := Lib.hid lX
  have LC := Lib.hid lC
  have HX := Lib.hid hX
  have HC := Lib.hid hC
  clear lA lB lX lC hX hC
  go_enter Try.func6, Try.ntmps6
  go_wp2_with (with_reducible refine st_box ?_)
  refine StopOp.go rfl fun K hK => ?_
  refine wp_box (v := .agg #[.int .i64 x, .int .i64 y, .int .i64 s, .int .i64 k, .int .i64 a]) (by rfl) ?_
  intro q w1 hq1 hq2 hm1 hQ0
  simp only [put_some, List.set_cons_succ, List.set_cons_zero]
  refine hK _ _ ?_
  clear hK K
  have hQ1 : Blk w1 q 56 [.int .i64 x, .int .i64 y, .int .i64 s, .int .i64 k, .int .i64 a] := hQ0
  clear hQ0
  go_upto_region 4 with (first
                | (go_at_call 34; (with_reducible refine (Q1 _).mono ?_); rintro e w2 ⟨rfl, hm2⟩)
                | (go_at_call 35; refine (N0 _).mono ?_; rintro e w3 ⟨p, L3, rfl, hD3, hL3, hm3⟩))
  have hQ3 := (hQ1.ext hm2).ext hm3
  have hM3 := (hm1.ext hm2).ext hm3
  have hO3 : ∀ k ∈ L3, w.heap.size ≤ k := fun k hk => Nat.le_trans (hm1.ext hm2).size (hL3 k hk)
  have hq3 : ∀ b ∈ L3, b ≠ q := fun b hb => by have := hL3 b hb; have := (hQ1.ext hm2).lt; omega
  clear hQ1 hm1 hm2 hm3 N0 Q1 hL3
  go_cut [5, 6] (fun u5 u6 wx => ∃ g, u5 = .pointer (some ⟨g, 0, none⟩) ∧ u6 = .int .i64 (S : Nat) ∧ Mod [] w3 wx ∧ Blk wx g 54 [.int .i64 k, .int .i64 a] ∧ w3.heap.size ≤ g)
  case first =>
    have hQ4 := hQ3.ext (Mod.drew [] _)
    have hM4 : Mod [] w3 w3.drew := Mod.drew [] _
    refine wp_region_T2 4 5 [⟨0, true, []⟩, ⟨1, true, []⟩, ⟨2, true, []⟩, ⟨3, true, []⟩, ⟨4, false, [1]⟩, ⟨5, false, [1, 3]⟩, ⟨6, false, []⟩, ⟨7, true, []⟩] [⟨0, true, []⟩, ⟨1, true, []⟩, ⟨2, true, []⟩, ⟨3, true, []⟩, ⟨5, false, [1, 3]⟩, ⟨4, false, [1]⟩, ⟨6, false, []⟩, ⟨7, true, []⟩] (by kernel_rfl) (by kernel_rfl) (by kernel_rfl) (by kernel_rfl) (by kernel_rfl) ?_ ?_
    · obtain ⟨w4, hw4⟩ : ∃ x, x = w3.drew := ⟨_, rfl⟩
      rw [← hw4] at hQ4 hM4 ⊢
      clear hw4
      have c0 := hQ4.cell' (i := 0) rfl
      have c1 := hQ4.cell' (i := 1) rfl
      have c2 := hQ4.cell' (i := 2) rfl
      have c3 := hQ4.cell' (i := 3) rfl
      have c4 := hQ4.cell' (i := 4) rfl
      iterate 4 (refine wpT_n rfl rfl (fun K hK => ?_); go_wp2_with fail)
      refine wpT_callh rfl rfl (fun K hK => ?_)
      go_wp2_with (go_at_call 24; (with_reducible refine (PK _).mono ?_); rintro e w5 ⟨rfl, rfl⟩)
      refine ⟨agains_same, ?_⟩
      refine wpT_e rfl rfl (fun K hK => ?_)
      refine wp_alloc zero_fate ?_
      intro g x1 hg1 hg2 hmx1 hBx1
      simp only [put_some, List.set_cons_succ, List.set_cons_zero]
      refine hK _ _ ⟨agains_cons rfl (again_load rfl rfl (hmx1.block q hQ4.lt (by simp)) hQ4.kinds) (agains_cons rfl (again_load rfl rfl (hmx1.block q hQ4.lt (by simp)) hQ4.kinds) agains_nil), ?_⟩
      clear hK K
      refine wpT_e0 rfl rfl (fun K hK => ?_)
      refine wp_store (u := .agg #[.int .i64 k, .int .i64 a]) (by rfl) (by rfl) (by kernel_rfl) hBx1 (by simp [Value.cells]) (by simp [Value.cells, Value.oneCell']) ?_
      intro x2 hmx2 hBx2
      refine hK _ _ ?_
      clear hK K
      have hs4 := hM4.size
      have hr : Mod [] w3 x2 ∧ Blk x2 g 54 [.int .i64 k, .int .i64 a] ∧ w3.heap.size ≤ g := ⟨hM4.ext (hmx1.fresh hmx2 (by simpa using hg1)), hBx2, by omega⟩
      refine wpT_n rfl rfl (fun K hK => ?_)
      go_wp2_with fail
      refine wpT_nil ?_
      go_wp2_with fail
      go_meet
      exact ⟨g, rfl, rfl, hr⟩
    · obtain ⟨w4, hw4⟩ : ∃ x, x = w3.drew := ⟨_, rfl⟩
      rw [← hw4] at hQ4 hM4 ⊢
      clear hw4
      have c0 := hQ4.cell' (i := 0) rfl
      have c1 := hQ4.cell' (i := 1) rfl
      have c2 := hQ4.cell' (i := 2) rfl
      have c3 := hQ4.cell' (i := 3) rfl
      have c4 := hQ4.cell' (i := 4) rfl
      iterate 4 (refine wpT_n rfl rfl (fun K hK => ?_); go_wp2_with fail)
      refine wpT_e rfl rfl (fun K hK => ?_)
      refine wp_alloc zero_fate ?_
      intro g x1 hg1 hg2 hmx1 hBx1
      simp only [put_some, List.set_cons_succ, List.set_cons_zero]
      refine hK _ _ ⟨agains_cons rfl (again_load rfl rfl (hmx1.block q hQ4.lt (by simp)) hQ4.kinds) (agains_cons rfl (again_load rfl rfl (hmx1.block q hQ4.lt (by simp)) hQ4.kinds) agains_nil), ?_⟩
      clear hK K
      refine wpT_callh rfl rfl (fun K hK => ?_)
      go_wp2_with (go_at_call 24; (with_reducible refine (PK _).mono ?_); rintro e w5 ⟨rfl, rfl⟩)
      refine ⟨agains_same, ?_⟩
      refine wpT_e0 rfl rfl (fun K hK => ?_)
      refine wp_store (u := .agg #[.int .i64 k, .int .i64 a]) (by rfl) (by rfl) (by kernel_rfl) hBx1 (by simp [Value.cells]) (by simp [Value.cells, Value.oneCell']) ?_
      intro x2 hmx2 hBx2
      refine hK _ _ ?_
      clear hK K
      have hs4 := hM4.size
      have hr : Mod [] w3 x2 ∧ Blk x2 g 54 [.int .i64 k, .int .i64 a] ∧ w3.heap.size ≤ g := ⟨hM4.ext (hmx1.fresh hmx2 (by simpa using hg1)), hBx2, by omega⟩
      refine wpT_n rfl rfl (fun K hK => ?_)
      go_wp2_with fail
      refine wpT_nil ?_
      go_wp2_with fail
      go_meet
      exact ⟨g, rfl, rfl, hr⟩
  case rest =>
  obtain ⟨g, rfl, rfl, hmx, hG2, hg3⟩ := hcut
  have hQ5 := hQ3.ext hmx
  have hM5 := hM3.ext hmx
  have hD5 := hD3.ext hmx
  have hgL : ∀ b ∈ L3, b ≠ g := fun b hb => by have := hD3.lt b hb; omega
  have hgq : q < g := by have := hQ3.lt; omega
  clear hmx hQ3 hM3 hD3
  go_wp2_with fail
  refine wp_region_T [⟨0, true, []⟩, ⟨1, true, []⟩, ⟨3, true, []⟩, ⟨4, true, []⟩, ⟨2, false, [4]⟩, ⟨5, false, []⟩, ⟨6, true, []⟩, ⟨7, true, []⟩] (by kernel_rfl) (by kernel_rfl) ?_
  have hQ6 := hQ5.ext (Mod.drew [] _)
  have hM6 := hM5.ext (Mod.drew [] _)
  have hD6 := hD5.ext (Mod.drew [] _)
  have hG6 := hG2.ext (Mod.drew [] _)
  obtain ⟨w6, hw6⟩ : ∃ x, x = wc.drew := ⟨_, rfl⟩
  rw [← hw6] at hQ6 hM6 hD6 hG6 ⊢
  clear hw6 hQ5 hM5 hD5 hG2
  have c0 := hQ6.cell' (i := 0) rfl
  have c1 := hQ6.cell' (i := 1) rfl
  have c2 := hQ6.cell' (i := 2) rfl
  have c3 := hQ6.cell' (i := 3) rfl
  have c4 := hQ6.cell' (i := 4) rfl
  iterate 4 (refine wpT_n rfl rfl (fun K hK => ?_); go_wp2_with fail)
  refine wpT_callh rfl rfl (fun K hK => ?_)
  go_wp2_with (go_at_call 36; (with_reducible refine (F1 _).mono ?_); rintro e w7 ⟨vA, rfl, hoA, hnA, hm7⟩)
  refine ⟨agains_cons rfl (again_load rfl rfl (hm7.block q hQ6.lt (by simp)) hQ6.kinds) agains_nil, ?_⟩
  refine wpT_call rfl rfl (fun K hK => ?_)
  go_wp2_with (go_at_call 36; (with_reducible refine (F2 _).mono ?_); rintro e w8 ⟨vB, rfl, hoB, hnB, hm8⟩)
  obtain ⟨gA, cA, rA, rfl, _, hcA, hcA2, _⟩ := hoA.headn LA.out (by omega)
  obtain ⟨gB, cB, rB, rfl, hbB, hcB, hcB2, hcB3⟩ := hoB.headn LB.out (by omega)
  clear c0 c1 c2 c3 c4
  iterate 2 (refine wpT_n rfl rfl (fun K hK => ?_); go_wp2_with fail)
  refine wpT_nil ?_
  go_wp2_with fail
  have hQ8 : Mod [] w6 w8 := hm7.ext hm8
  have hM8 := hM6.ext hQ8
  have hD8 := hD6.ext hQ8
  have hG8 := hG6.ext hQ8
  have hA8 : Ob w8 _ A := hoA.ext hm8
  have nAL : gA ∉ L3 := fun hh => by
    have h1 := hD6.lt gA hh
    have h2 := hnA gA (by simp [blks])
    omega
  have nBL : gB ∉ L3 := fun hh => by
    have h1 := hD6.lt gB hh
    have h2 := hnB gB (by simp [blks])
    have h3 := hm7.size
    omega
  have nAB : gA ≠ gB := fun hh => by
    have h1 := Ow.lt hoA gA (by simp [blks])
    have h2 := hnB gB (by simp [blks])
    omega
  have nGB : g ≠ gB := fun hh => by
    have h1 := hG6.lt
    have h2 := hnB gB (by simp [blks])
    have h3 := hm7.size
    omega
  have nGA : g ≠ gA := fun hh => by
    have h1 := hG6.lt
    have h2 := hnA gA (by simp [blks])
    omega
  have nWB : w.heap.size ≤ gB := by
    have h2 := hnB gB (by simp [blks])
    have h3 := hm7.size
    have h4 := hM6.size
    omega
  clear hQ6 hM6 hD6 hG6 hm7 hm8 hQ8 hoA hoB hnA hnB F1 F2 PK
  go_loopw [9] (fun i wr => ∃ j : Nat, j ≤ S ∧ i = .int .i64 j ∧ Mod [gB] w8 wr ∧ Blk wr gB 5 (bv (mixB j A B) ++ rB)) (fun i _ => S - (intOf i).toNat)
  case atStart => exact ⟨0, by omega, rfl, Mod.refl _ _, by simpa [mixB] using hbB⟩
  case round =>
    obtain ⟨j, hj, rfl, hmr, hBr⟩ := hrel
    by_cases hlt : j < S
    · have y0 : (j : Int) < S := by omega
      have y1 : (j : Int) < 64 := by omega
      have hAr : Ob wr _ A := Ow.mod hA8 hmr (fun b hb => by simp [blks] at hb; subst hb; simpa using nAB)
      obtain ⟨gA', cA', rA', hvA, hbA, _⟩ := hAr.headn LA.out (by omega)
      injection hvA with e1 e2 e3
      injection e1 with e1
      injection e1 with e1
      subst e1 e3
      have hca := cell_u8 hbA (i := j) (by rw [LA.out]; omega)
      obtain ⟨X0, hX0⟩ : ∃ x, x = A[j]'(by rw [LA.out]; omega) := ⟨_, rfl⟩
      rw [← hX0] at hca
      have HX0 := Lib.hid hX0
      clear hX0
      go_wp2_with (with_reducible refine st_store ?_)
      refine StopOp.go rfl fun K hK => ?_
      refine wp_store1 (by kernel_rfl) (by rfl) (u := .int .u8 (X0.toNat : Nat)) (by rfl) ⟨rfl, rfl⟩ hBr (by rw [List.length_append, bv_length, mixB_len LA.out LB.out]; omega) ?_
      intro w9 hm9 hB9
      refine hK _ _ ?_
      clear hK K
      go_wp2_with fail
      go_roundw
      case rel =>
        refine ⟨j + 1, by omega, by go_num, hmr.trans hm9, ?_⟩
        rw [bv_set _ _ _ _ (by rw [mixB_len LA.out LB.out]; omega), HX0.out, mixB_succ LA.out LB.out (by omega)] at hB9
        exact hB9
      case measure => simp [intOf]; omega
    · obtain rfl : S = j := by omega
      rw [← HX.out] at hBr
      have hXr : Ob wr (.slice (some ⟨gB, 0, none⟩) 64 cB) X := by
        unfold Ob
        rw [LX.out]
        exact Ow.of_blk hBr (by omega) hcB2 (by have := hcB3; rw [List.length_append, bv_length] at this ⊢; rw [LX.out]; rw [LB.out] at this; omega) (by rw [bv_length, LX.out])
      have hAr : Ob wr _ A := Ow.mod hA8 hmr (fun b hb => by simp [blks] at hb; subst hb; simpa using nAB)
      have hGr := hG8.mod hmr (by simpa using nGB)
      have hDr := hD8.mod hmr (fun b hb hh => nBL (by have : b = gB := (by simpa using hh); exact this ▸ hb))
      have hMr : Mod [] w wr := hM8.fresh hmr (by simpa using nWB)
      clear hmr hBr hbB hA8 hD8 hG8 hM8 nWB
      have oA : ∀ b ∈ blks (.slice (some ⟨gA, 0, none⟩) 64 cA), b ∉ L3 := fun b hb => by simp [blks] at hb; subst hb; exact nAL
      have oB : ∀ b ∈ blks (.slice (some ⟨gB, 0, none⟩) 64 cB), b ∉ L3 := fun b hb => by simp [blks] at hb; subst hb; exact nBL
      have oG : g ∉ L3 := fun hh => hgL g hh rfl
      clear nAL nBL nAB nGB nGA hgL hgq
      go_wp2_with (first
                    | (with_reducible refine st_bslice ?_)
                    | (go_at_call 37; (with_reducible refine (W1 _ _ _ _ hDr hAr.bs).mono ?_); rintro e w9 ⟨rfl, L9, hD9, hm9, hL9⟩; obtain ⟨hA9, oA9⟩ := Ob.far hAr oA hm9 hL9; obtain ⟨hB9, oB9⟩ := Ob.far hXr oB hm9 hL9; obtain ⟨hG9, oG9⟩ := Blk.far hGr oG hm9 hL9; obtain ⟨hM9, hO9⟩ := own_step hMr hO3 hm9 hL9)
                    | (go_at_call 38; (with_reducible refine (S1 _ _ _ hD9).mono ?_); rintro e w10 ⟨rfl, L10, hD10, hm10, hL10⟩; obtain ⟨hA10, oA10⟩ := Ob.far hA9 oA9 hm10 hL10; obtain ⟨hB10, oB10⟩ := Ob.far hB9 oB9 hm10 hL10; obtain ⟨hG10, oG10⟩ := Blk.far hG9 oG9 hm10 hL10; obtain ⟨hM10, hO10⟩ := own_step hM9 hO9 hm10 hL10)
                    | (go_at_call 37; (with_reducible refine (W2 _ _ _ _ hD10 hB10.bs).mono ?_); rintro e w11 ⟨rfl, L11, hD11, hm11, hL11⟩; obtain ⟨hA11, oA11⟩ := Ob.far hA10 oA10 hm11 hL11; obtain ⟨hB11, oB11⟩ := Ob.far hB10 oB10 hm11 hL11; obtain ⟨hG11, oG11⟩ := Blk.far hG10 oG10 hm11 hL11; obtain ⟨hM11, hO11⟩ := own_step hM10 hO10 hm11 hL11; have z0 := hG11.cell' (i := 0) rfl; have z1 := hG11.cell' (i := 1) rfl))
      clear hDr hAr hXr hGr hMr hO3 oA oB oG hm9 hL9 hA9 oA9 hB9 oB9 hG9 oG9 hM9 hO9 hm10 hL10 hA10 oA10 hB10 oB10 hG10 oG10 hM10 hO10 hm11 hL11 hD9 hD10 W1 W2 S1
      refine StopOp.go rfl fun K hK => ?_
      refine wp_bslice stF [.agg #[.int .i64 k, .int .i64 a]] rfl (by decide) (by rfl) (by simp [Value.cells]) ?_
      intro f w12 hf1 hf2 hm12 hBf
      simp only [put_some, List.set_cons_succ, List.set_cons_zero]
      refine hK _ _ ?_
      clear hK K
      have hF12 : Fs w12 (.slice (some ⟨f, 0, none⟩) 1 1) [(k, a)] := (Ow.of_blk (rest := []) hBf (Nat.le_refl _) (by omega) rfl rfl : Ow w12 54 2 (.slice (some ⟨f, 0, none⟩) 1 1) 1 (fcells [(k, a)])).sl
      have hfL : ∀ b ∈ blks (.slice (some ⟨f, 0, none⟩) 1 1), b ∉ L11 := fun b hb hh => by
        have h1 := hD11.lt b hh
        have h2 : b = f := by simpa [blks] using hb
        omega
      obtain ⟨T, hT⟩ : ∃ T, T = tearN k a := ⟨_, rfl⟩
      rw [← hT] at HC
      have HT := Lib.hid hT
      have hT64 : T ≤ 64 := by rw [hT]; exact tearN_le k a
      obtain ⟨T1, hT1⟩ : ∃ T1 : Int, T1 = if k = 1 then 64 else 0 := ⟨_, rfl⟩
      have HT1 := Lib.hid hT1
      clear hT hT1
      go_upto_if 69 with (first
                    | (go_at_call 39; (with_reducible refine (C1 _ _ _ _ (hD11.ext hm12) hF12 hfL).mono ?_); rintro e w13 ⟨rfl, L13, hD13, hm13, hL13⟩; obtain ⟨hA13, oA13⟩ := Ob.far (hA11.ext hm12) oA11 hm13 hL13; obtain ⟨hB13, oB13⟩ := Ob.far (hB11.ext hm12) oB11 hm13 hL13; obtain ⟨hG13, oG13⟩ := Blk.far (hG11.ext hm12) oG11 hm13 hL13; obtain ⟨hM13, hO13⟩ := own_step (hM11.ext hm12) hO11 hm13 hL13)
                    | (go_at_call 40; (with_reducible refine (R1 _ _ _ hD13).mono ?_); rintro e w14 ⟨v14, rfl, ho14, hn14, hm14⟩; obtain ⟨g14, c14, r14, rfl, hb14, _, _, _⟩ := ho14.headn LC.out (by omega); have hG14 := hG13.ext hm14; have y0 := hG14.cell' (i := 0) rfl; have y1 := hG14.cell' (i := 1) rfl))
      have hM14 := hM13.ext hm14
      have hA14 := hA13.ext hm14
      have hB14 := hB13.ext hm14
      have hcA : ∀ i, i < 64 → ∃ u : UInt8, A[i]? = some u ∧ w14.cell? ⟨gA, i, none⟩ = some (.int .u8 (u.toNat : Nat)) := fun i hi => by
        obtain ⟨g', c', r', hv, hb, _⟩ := Ob.headn hA14 LA.out (by omega)
        injection hv with e1 e2 e3
        injection e1 with e1
        injection e1 with e1
        subst e1
        exact ⟨_, List.getElem?_eq_getElem (by rw [LA.out]; omega), cell_u8 hb (by rw [LA.out]; omega)⟩
      have hcX : ∀ i, i < 64 → ∃ u : UInt8, X[i]? = some u ∧ w14.cell? ⟨gB, i, none⟩ = some (.int .u8 (u.toNat : Nat)) := fun i hi => by
        obtain ⟨g', c', r', hv, hb, _⟩ := Ob.headn hB14 LX.out (by omega)
        injection hv with e1 e2 e3
        injection e1 with e1
        injection e1 with e1
        subst e1
        exact ⟨_, List.getElem?_eq_getElem (by rw [LX.out]; omega), cell_u8 hb (by rw [LX.out]; omega)⟩
      have hcC : ∀ i, i < 64 → ∃ u : UInt8, C[i]? = some u ∧ w14.cell? ⟨g14, i, none⟩ = some (.int .u8 (u.toNat : Nat)) := fun i hi =>
        ⟨_, List.getElem?_eq_getElem (by rw [LC.out]; omega), cell_u8 hb14 (by rw [LC.out]; omega)⟩
      have hblt : gA < w14.heap.size ∧ gB < w14.heap.size ∧ g14 < w14.heap.size := ⟨Ow.lt hA14 gA (by simp [blks]), Ow.lt hB14 gB (by simp [blks]), hb14.lt⟩
      clear hD11 hm12 hBf hF12 hfL hD13 hm13 hL13 hA13 oA13 hB13 oB13 hG13 oG13 hM13 hO13 hm14 hA11 oA11 hB11 oB11 hG11 oG11 hM11 hO11 C1 R1 ho14 hn14 hA14 hB14 hb14 z0 z1
      go_cut [12] (fun u wx => u = .int .i64 T1 ∧ w14 = wx)
      case first =>
        by_cases k1 : k = 1
        · subst k1
          obtain rfl : T1 = 64 := HT1.out
          go_wp2_with fail
          go_meet
          exact ⟨rfl, rfl⟩
        · have e1 : (k == 1) = false := by simpa using k1
          obtain rfl : T1 = 0 := by rw [HT1.out, if_neg k1]
          go_wp2_with fail
          go_meet
          exact ⟨rfl, rfl⟩
      case rest =>
      obtain ⟨rfl, rfl⟩ := hcut
      go_upto_if 72 with fail
      go_cut [12] (fun u wx => u = .int .i64 (T : Nat) ∧ w14 = wx)
      case first =>
        by_cases k2 : k = 2
        · subst k2
          by_cases a1 : a < 0
          · obtain rfl : T = 0 := by rw [HT.out]; unfold tearN clampN; simp; omega
            have b1 : (0 : Int) < 64 := by omega
            go_wp2_with fail
            go_meet
            exact ⟨rfl, rfl⟩
          · by_cases a2 : a < 64
            · have ha : a = (T : Int) := by rw [HT.out]; unfold tearN clampN; simp; omega
              have b1 : (0 : Int) ≤ a := by omega
              subst ha
              go_wp2_with fail
              go_meet
              exact ⟨rfl, rfl⟩
            · obtain rfl : T = 64 := by rw [HT.out]; unfold tearN clampN; simp; omega
              have b1 : (0 : Int) ≤ a := by omega
              by_cases a3 : a = 64
              · subst a3
                go_wp2_with fail
                go_meet
                exact ⟨rfl, rfl⟩
              · have b2 : (64 : Int) < a := by omega
                go_wp2_with fail
                go_meet
                exact ⟨rfl, rfl⟩
        · have e1 : (k == 2) = false := by simpa using k2
          have ht1 : T1 = T := by
            rw [HT.out, HT1.out]
            unfold tearN clampN
            by_cases k1 : k = 1
            · rw [if_pos k1, if_pos k1]; rfl
            · rw [if_neg k1, if_neg k1, if_neg k2]; rfl
          subst ht1
          go_wp2_with fail
          go_meet
          exact ⟨rfl, rfl⟩
      case rest =>
      obtain ⟨rfl, rfl⟩ := hcut
      clear y0 y1 hG14 HT1 HT
      go_wp2_with fail
      go_loopw [13] (fun i wr => ∃ j : Nat, j ≤ 64 ∧ i = .int .i64 j ∧ Mod [] w14 wr) (fun i _ => 64 - (intOf i).toNat)
      case atStart => exact ⟨0, by omega, rfl, Mod.refl _ _⟩
      case round =>
        obtain ⟨j, hj, rfl, hmr⟩ := hrel
        by_cases hlt : j < 64
        · have y0 : (j : Int) < 64 := by omega
          obtain ⟨ua, hua, ca⟩ := hcA j hlt
          obtain ⟨ux, hux, cx⟩ := hcX j hlt
          obtain ⟨uc, huc, cc⟩ := hcC j hlt
          have hx : ux = if j < S then ua else ux := by
            have h1 := mixB_at (n := S) LA.out LB.out hlt
            rw [← HX.out, hux] at h1
            split
            · rename_i hs; rw [if_pos hs, hua] at h1; exact Option.some.inj h1
            · rfl
          have hc : uc = if j < T then ux else ua := by
            have h1 := mixB_at (n := T) LX.out LA.out hlt
            rw [show mixB T X A = C from HC.out.symm, huc, hux, hua] at h1
            split at h1
            · rename_i hs; rw [if_pos hs]; exact Option.some.inj h1
            · rename_i hs; rw [if_neg hs]; exact Option.some.inj h1
          have ca1 : wr.drew.cell? ⟨gA, j, none⟩ = some (.int .u8 (ua.toNat : Nat)) := by rw [show wr.drew.cell? ⟨gA, j, none⟩ = wr.cell? ⟨gA, j, none⟩ from rfl, cell_eq hmr hblt.1]; exact ca
          have cx1 : wr.drew.cell? ⟨gB, j, none⟩ = some (.int .u8 (ux.toNat : Nat)) := by rw [show wr.drew.cell? ⟨gB, j, none⟩ = wr.cell? ⟨gB, j, none⟩ from rfl, cell_eq hmr hblt.2.1]; exact cx
          have cc1 : wr.drew.cell? ⟨g14, j, none⟩ = some (.int .u8 (uc.toNat : Nat)) := by rw [show wr.drew.cell? ⟨g14, j, none⟩ = wr.cell? ⟨g14, j, none⟩ from rfl, cell_eq hmr hblt.2.2]; exact cc
          have hmr' := hmr.ext (Mod.drew [] _)
          obtain ⟨w20, hw20⟩ : ∃ x, x = wr.drew := ⟨_, rfl⟩
          clear ca cx cc hua hux huc hmr
          go_wp2_with fail
          refine wp_region_T [⟨0, true, []⟩, ⟨1, true, []⟩, ⟨2, true, []⟩, ⟨3, true, []⟩, ⟨4, true, []⟩, ⟨5, true, []⟩, ⟨6, true, []⟩, ⟨7, true, []⟩, ⟨8, true, []⟩, ⟨9, true, []⟩, ⟨10, true, []⟩, ⟨11, true, []⟩, ⟨12, true, []⟩, ⟨13, true, []⟩, ⟨14, true, []⟩, ⟨15, true, []⟩, ⟨16, true, []⟩, ⟨17, true, []⟩, ⟨18, true, []⟩, ⟨19, true, []⟩, ⟨20, true, []⟩, ⟨21, true, []⟩, ⟨22, true, []⟩, ⟨23, true, []⟩, ⟨24, true, []⟩, ⟨25, true, []⟩, ⟨26, true, []⟩, ⟨27, true, []⟩, ⟨28, true, []⟩, ⟨29, true, []⟩, ⟨30, true, []⟩, ⟨31, true, []⟩, ⟨32, true, []⟩, ⟨33, true, []⟩, ⟨34, true, []⟩, ⟨35, true, []⟩, ⟨36, true, []⟩, ⟨37, true, []⟩, ⟨38, true, []⟩, ⟨39, true, []⟩, ⟨40, true, []⟩, ⟨41, true, []⟩, ⟨42, true, []⟩, ⟨43, true, []⟩, ⟨44, true, []⟩, ⟨45, true, []⟩] (by kernel_rfl) (by kernel_rfl) ?_
          rw [← hw20] at ca1 cx1 cc1 hmr' ⊢
          clear hw20
          by_cases h1 : j < T
          · have d1 : decide (j < T) = true := decide_eq_true h1
            have d2 : decide (T ≤ j) = false := decide_eq_false (by omega)
            rw [if_pos h1] at hc
            subst hc
            by_cases h2 : j < S
            · have d3 : decide (j < S) = true := decide_eq_true h2
              rw [if_pos h2] at hx
              subst hx
              iterate 4 (refine wpT_n rfl rfl (fun K hK => ?_); go_wp2_with fail)
              iterate 9 (refine wpT_gq (gi := 3) rfl rfl rfl rfl rfl (fun K hK => ?_); go_wp2_with fail)
              iterate 2 (refine wpT_n rfl rfl (fun K hK => ?_); go_wp2_with fail)
              iterate 4 (refine wpT_gq (gi := 14) rfl rfl rfl rfl rfl (fun K hK => ?_); go_wp2_with fail)
              iterate 9 (refine wpT_gk (gi := 18) rfl rfl rfl rfl rfl rfl (fun K hK => ?_); go_wp2_with fail)
              refine wpT_gq (gi := 14) rfl rfl rfl rfl rfl (fun K hK => ?_)
              go_wp2_with fail
              iterate 2 (refine wpT_n rfl rfl (fun K hK => ?_); go_wp2_with fail)
              iterate 4 (refine wpT_gq (gi := 30) rfl rfl rfl rfl rfl (fun K hK => ?_); go_wp2_with fail)
              iterate 9 (refine wpT_gq (gi := 34) rfl rfl rfl rfl rfl (fun K hK => ?_); go_wp2_with fail)
              refine wpT_gq (gi := 30) rfl rfl rfl rfl rfl (fun K hK => ?_)
              go_wp2_with fail
              refine wpT_n rfl rfl (fun K hK => ?_)
              go_wp2_with fail
              refine wpT_nil ?_
              go_wp2_with fail
              go_roundw
              case rel => exact ⟨j + 1, by omega, by go_num, hmr'⟩
              case measure => simp [intOf]; omega
            · have d3 : decide (j < S) = false := decide_eq_false h2
              clear hx
              iterate 4 (refine wpT_n rfl rfl (fun K hK => ?_); go_wp2_with fail)
              iterate 9 (refine wpT_gq (gi := 3) rfl rfl rfl rfl rfl (fun K hK => ?_); go_wp2_with fail)
              iterate 2 (refine wpT_n rfl rfl (fun K hK => ?_); go_wp2_with fail)
              iterate 4 (refine wpT_gq (gi := 14) rfl rfl rfl rfl rfl (fun K hK => ?_); go_wp2_with fail)
              iterate 9 (refine wpT_gk (gi := 18) rfl rfl rfl rfl rfl rfl (fun K hK => ?_); go_wp2_with fail)
              refine wpT_gq (gi := 14) rfl rfl rfl rfl rfl (fun K hK => ?_)
              go_wp2_with fail
              iterate 2 (refine wpT_n rfl rfl (fun K hK => ?_); go_wp2_with fail)
              iterate 4 (refine wpT_gq (gi := 30) rfl rfl rfl rfl rfl (fun K hK => ?_); go_wp2_with fail)
              iterate 9 (refine wpT_gk (gi := 34) rfl rfl rfl rfl rfl rfl (fun K hK => ?_); go_wp2_with fail)
              refine wpT_gq (gi := 30) rfl rfl rfl rfl rfl (fun K hK => ?_)
              go_wp2_with fail
              refine wpT_n rfl rfl (fun K hK => ?_)
              go_wp2_with fail
              refine wpT_nil ?_
              go_wp2_with fail
              go_roundw
              case rel => exact ⟨j + 1, by omega, by go_num, hmr'⟩
              case measure => simp [intOf]; omega
          · have d1 : decide (j < T) = false := decide_eq_false h1
            have d2 : decide (T ≤ j) = true := decide_eq_true (by omega)
            rw [if_neg h1] at hc
            subst hc
            clear hx
            by_cases h2 : j < S
            · have d3 : decide (j < S) = true := decide_eq_true h2
              iterate 4 (refine wpT_n rfl rfl (fun K hK => ?_); go_wp2_with fail)
              iterate 9 (refine wpT_gk (gi := 3) rfl rfl rfl rfl rfl rfl (fun K hK => ?_); go_wp2_with fail)
              iterate 2 (refine wpT_n rfl rfl (fun K hK => ?_); go_wp2_with fail)
              iterate 4 (refine wpT_gq (gi := 14) rfl rfl rfl rfl rfl (fun K hK => ?_); go_wp2_with fail)
              iterate 9 (refine wpT_gq (gi := 18) rfl rfl rfl rfl rfl (fun K hK => ?_); go_wp2_with fail)
              refine wpT_gq (gi := 14) rfl rfl rfl rfl rfl (fun K hK => ?_)
              go_wp2_with fail
              iterate 2 (refine wpT_n rfl rfl (fun K hK => ?_); go_wp2_with fail)
              iterate 4 (refine wpT_gq (gi := 30) rfl rfl rfl rfl rfl (fun K hK => ?_); go_wp2_with fail)
              iterate 9 (refine wpT_gq (gi := 34) rfl rfl rfl rfl rfl (fun K hK => ?_); go_wp2_with fail)
              refine wpT_gq (gi := 30) rfl rfl rfl rfl rfl (fun K hK => ?_)
              go_wp2_with fail
              refine wpT_n rfl rfl (fun K hK => ?_)
              go_wp2_with fail
              refine wpT_nil ?_
              go_wp2_with fail
              go_roundw
              case rel => exact ⟨j + 1, by omega, by go_num, hmr'⟩
              case measure => simp [intOf]; omega
            · have d3 : decide (j < S) = false := decide_eq_false h2
              iterate 4 (refine wpT_n rfl rfl (fun K hK => ?_); go_wp2_with fail)
              iterate 9 (refine wpT_gk (gi := 3) rfl rfl rfl rfl rfl rfl (fun K hK => ?_); go_wp2_with fail)
              iterate 2 (refine wpT_n rfl rfl (fun K hK => ?_); go_wp2_with fail)
              iterate 4 (refine wpT_gq (gi := 14) rfl rfl rfl rfl rfl (fun K hK => ?_); go_wp2_with fail)
              iterate 9 (refine wpT_gq (gi := 18) rfl rfl rfl rfl rfl (fun K hK => ?_); go_wp2_with fail)
              refine wpT_gq (gi := 14) rfl rfl rfl rfl rfl (fun K hK => ?_)
              go_wp2_with fail
              iterate 2 (refine wpT_n rfl rfl (fun K hK => ?_); go_wp2_with fail)
              iterate 4 (refine wpT_gq (gi := 30) rfl rfl rfl rfl rfl (fun K hK => ?_); go_wp2_with fail)
              iterate 9 (refine wpT_gk (gi := 34) rfl rfl rfl rfl rfl rfl (fun K hK => ?_); go_wp2_with fail)
              refine wpT_gq (gi := 30) rfl rfl rfl rfl rfl (fun K hK => ?_)
              go_wp2_with fail
              refine wpT_n rfl rfl (fun K hK => ?_)
              go_wp2_with fail
              refine wpT_nil ?_
              go_wp2_with fail
              go_roundw
              case rel => exact ⟨j + 1, by omega, by go_num, hmr'⟩
              case measure => simp [intOf]; omega
        · obtain rfl : j = 64 := by omega
          go_wp2_with fail
          go_ret
          exact ⟨rfl, hM14.ext hmr⟩
end Go.Proofs.Ytkedbphdflhhlaa
