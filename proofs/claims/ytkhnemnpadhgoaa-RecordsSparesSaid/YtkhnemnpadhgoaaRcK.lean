import Derived.Test.YtkhnemnpadhgoaaRcI
import Derived.Test.YtkhnemnpadhgoaaCopA
import Derived.Test.YtkhnemnpadhgoaaApartB
/-! Records: RecordsSpares. -/
set_option linter.unusedVariables false
set_option linter.unusedSimpArgs false
set_option maxRecDepth 100000
namespace Go.Proofs.Ytkhnemnpadhgoaa
open Go.RowKit Gw

set_option maxRecDepth 1000000 in
set_option maxHeartbeats 8000000 in
theorem recordsSpares_core (r o : Rc) (hr : r.ok) (ho : o.ok) (w : World) : Calls Try.prog 5 #[r.v, o.v] w fun e w' => e = .returned (.bool true) ∧ Mod [] w w' := by
  have P1 := fun w => cput_any r hr w
  have P2 := fun w => cput_any o ho w
  unfold PutC at P1 P2
  have hl1 : (if mayC r = true then cbytes r else []).length ≤ 100 := by
    split
    · rename_i h; rw [cbytes_len r (mayC_ok (of_decide_eq_true h))]; have := sizeC_pos (mayC_ok (of_decide_eq_true h)); omega
    · simp
  have hl2 : (if mayC o = true then cbytes o else []).length ≤ 100 := by
    split
    · rename_i h; rw [cbytes_len o (mayC_ok (of_decide_eq_true h))]; have := sizeC_pos (mayC_ok (of_decide_eq_true h)); omega
    · simp
  obtain ⟨B, hB⟩ : ∃ B, B = (if mayC r = true then cbytes r else []) := ⟨_, rfl⟩
  obtain ⟨E, hE⟩ : ∃ E, E = chkC r := ⟨_, rfl⟩
  obtain ⟨C, hC⟩ : ∃ B, B = (if mayC o = true then cbytes o else []) := ⟨_, rfl⟩
  obtain ⟨F, hF⟩ : ∃ E, E = chkC o := ⟨_, rfl⟩
  rw [← hB, ← hE] at P1
  rw [← hC, ← hF] at P2
  rw [← hB] at hl1
  rw [← hC] at hl2
  clear hB hE hC hF hr ho
  obtain ⟨kind, id, seat, till, clock⟩ := r
  obtain ⟨kind', id', seat', till', clock'⟩ := o
  dsimp only [Rc.v] at *
  go_enter Try.func5, Try.ntmps5
  go_wp2_with (with_reducible refine st_box ?_)
  refine StopOp.go rfl fun K hK => ?_
  refine wp_box (v := .agg #[.int .i64 kind, .int .u32 id, .int .i64 seat, .int .i64 till, .int .i64 clock]) (by rfl) ?_
  intro g w1 hg1 hg2 hm1 hB1
  simp only [put_some, List.set_cons_succ, List.set_cons_zero]
  refine hK _ _ ?_
  clear hK K
  go_wp2_with (with_reducible refine st_box ?_)
  refine StopOp.go rfl fun K hK => ?_
  refine wp_box (v := .agg #[.int .i64 kind', .int .u32 id', .int .i64 seat', .int .i64 till', .int .i64 clock']) (by rfl) ?_
  intro h w2 hh1 hh2 hm2 hC2
  simp only [put_some, List.set_cons_succ, List.set_cons_zero]
  refine hK _ _ ?_
  clear hK K
  have hA2 : Blk w2 g 25 [.int .i64 kind, .int .u32 id, .int .i64 seat, .int .i64 till, .int .i64 clock] := Blk.ext hB1 hm2
  have hZ2 : Blk w2 h 25 [.int .i64 kind', .int .u32 id', .int .i64 seat', .int .i64 till', .int .i64 clock'] := hC2
  have hM2 := hm1.ext hm2
  clear hB1 hC2 hm1 hm2
  have a0 := hA2.cell' (i := 0) rfl
  have a1 := hA2.cell' (i := 1) rfl
  have a2 := hA2.cell' (i := 2) rfl
  have a3 := hA2.cell' (i := 3) rfl
  have a4 := hA2.cell' (i := 4) rfl
  go_wp2_with (first
                | (with_reducible refine st_bslice ?_)
                | (go_at_call 9; (with_reducible refine (P1 w2).mono ?_); rintro e w3 ⟨v3, rfl, ho3, hn3, hm3⟩; obtain ⟨ao3, cap3, rfl, _, _⟩ := ho3.bs.form; have hZ3 := hZ2.ext hm3; have hA3 := hA2.ext hm3; have b0 := hZ3.cell' (i := 0) rfl; have b1 := hZ3.cell' (i := 1) rfl; have b2 := hZ3.cell' (i := 2) rfl; have b3 := hZ3.cell' (i := 3) rfl; have b4 := hZ3.cell' (i := 4) rfl)
                | (go_at_call 9; (with_reducible refine (P2 w3).mono ?_); rintro e w4 ⟨v4, rfl, ho4, hn4, hm4⟩; obtain ⟨ao4, cap4, rfl, _, _⟩ := ho4.bs.form; have hZ4 := hZ3.ext hm4; have hA4 := hA3.ext hm4; have c0 := hA4.cell' (i := 0) rfl; have c1 := hA4.cell' (i := 1) rfl; have c2 := hA4.cell' (i := 2) rfl; have c3 := hA4.cell' (i := 3) rfl; have c4 := hA4.cell' (i := 4) rfl)
                | (go_at_call 9; (with_reducible refine (P1 w4).mono ?_); rintro e w5 ⟨v5, rfl, ho5, hn5, hm5⟩; obtain ⟨ao5, cap5, rfl, _, _⟩ := ho5.bs.form; have hs3 := (ho3.ext hm4).ext hm5)
                | (go_at_call 16; (with_reducible refine (same_yes B B _ _ w5 hs3.bs ho5.bs rfl).mono ?_); rintro e w6 ⟨rfl, hm6⟩)
                | (go_at_call 17; (with_reducible refine (copy_any B _ w6 (hs3.ext hm6).bs (by omega)).mono ?_); rintro e w7 ⟨v7, rfl, ho7, hn7, hm7⟩; obtain ⟨ao7, cap7, rfl, _, _⟩ := ho7.bs.form; have hs4 := ((ho4.ext hm5).ext hm6).ext hm7)
                | (go_at_call 17; (with_reducible refine (copy_any C _ w7 hs4.bs (by omega)).mono ?_); rintro e w8 ⟨v8, rfl, ho8, hn8, hm8⟩; obtain ⟨ao8, cap8, rfl, _, _⟩ := ho8.bs.form))
  have hF3 := Fam.ins (A := []) (B := []) (Fam.nil w2 w2.heap.size) (Nat.le_refl _) hm3 ho3 hn3
  have hF4 := Fam.ins (A := [_]) (B := []) hF3 hm3.size hm4 ho4 hn4
  have hF5 := Fam.ins (A := [_, _]) (B := []) hF4 (Nat.le_trans hm3.size hm4.size) hm5 ho5 hn5
  have hm58 := (hm6.ext hm7).ext hm8
  have hm28 := ((hm3.ext hm4).ext hm5).ext hm58
  have hl5 : ∀ p ∈ [(Value.slice ao3 B.length cap3, B), (Value.slice ao4 C.length cap4, C), (Value.slice ao5 B.length cap5, B)], ∀ b ∈ blks p.1, b < w5.heap.size := fun p hp => Ow.lt (hF5.ob p hp).1
  refine StopOp.go rfl fun K hK => ?_
  refine wp_bslice stRow [.slice ao3 B.length cap3, .slice ao4 C.length cap4, .slice ao5 B.length cap5] rfl (by decide) (by rfl) (by simp [Value.cells]) ?_
  intro p9 w9 h91 h92 hm9 hB9
  simp only [put_some, List.set_cons_succ, List.set_cons_zero]
  refine hK _ _ ?_
  clear hK K
  have hm59 := hm58.ext hm9
  have hF9 := hF5.ext hm59
  have hM9 := hM2.ext (hm28.ext hm9)
  have hrows : Sl w9 1 (.slice (some ⟨p9, 0, none⟩) 3 3) 3 (([(.slice ao3 B.length cap3, B), (.slice ao4 C.length cap4, C), (.slice ao5 B.length cap5, B)] : List (Value × List UInt8)).map (·.1)) :=
    (Ow.of_blk (rest := []) hB9 (Nat.le_refl _) (by omega) rfl rfl : Ow w9 26 1 (.slice (some ⟨p9, 0, none⟩) 3 3) 3 [.slice ao3 B.length cap3, .slice ao4 C.length cap4, .slice ao5 B.length cap5]).sl
  have hA := apart_fam _ w2.heap.size 3 _ w9 rfl hrows hF9 (by omega) (by simp; omega)
  have hMge : ∀ (M : List Nat), (∀ y ∈ M, ∃ p, p ∈ [(Value.slice ao3 B.length cap3, B), (Value.slice ao4 C.length cap4, C), (Value.slice ao5 B.length cap5, B)] ∧ y ∈ blks p.1) → ∀ y ∈ M, w2.heap.size ≤ y ∧ y < w5.heap.size := fun M hMM y hy => by
    obtain ⟨p, hp, hyp⟩ := hMM y hy
    exact ⟨(hF9.ob p hp).2 y hyp, hl5 p hp y hyp⟩
  have ho7' := (ho7.ext hm8).ext hm9
  have ho8' := ho8.ext hm9
  have hn7' : ∀ k ∈ blks (.slice ao7 B.length cap7), w5.heap.size ≤ k := fun k hk => Nat.le_trans hm6.size (hn7 k hk)
  have hn8' : ∀ k ∈ blks (.slice ao8 C.length cap8), w5.heap.size ≤ k := fun k hk => Nat.le_trans (hm6.ext hm7).size (hn8 k hk)
  have hA9 := hA2.ext (hm28.ext hm9)
  have hZ9 := hZ2.ext (hm28.ext hm9)
  have hg2' : g < w2.heap.size := hA2.lt
  have hh2' : h < w2.heap.size := hZ2.lt
  clear a0 a1 a2 a3 a4 b0 b1 b2 b3 b4 c0 c1 c2 c3 c4 hA2 hZ2 hZ3 hA3 hZ4 hA4 ho3 ho4 ho5 hn3 hn4 hn5 hm3 hm4 hm5 hs3 hs4 hm6 hm7 hm8 ho7 ho8 hn7 hn8 hF3 hF4 hF5 hm58 hm28 hF9 hrows hB9 hm59 hm9
  go_wp2_with (go_at_call 18; refine hA.mono ?_; rintro e w10 ⟨rfl, M, hm10, hMM⟩; have hMg := hMge M hMM; have hA10 := hA9.mod hm10 (fun h => by have := hMg _ h; omega); have hZ10 := hZ9.mod hm10 (fun h => by have := hMg _ h; omega); have a0 := hA10.cell' (i := 0) rfl; have a1 := hA10.cell' (i := 1) rfl; have a2 := hA10.cell' (i := 2) rfl; have a3 := hA10.cell' (i := 3) rfl; have a4 := hA10.cell' (i := 4) rfl; go_upto_region 8 with fail)
  have hM10 : Mod [] w w10 := hM9.fresh hm10 (fun k hk => Nat.le_trans hM2.size (hMg k hk).1)
  have hs7 : Ob w10 (.slice ao7 B.length cap7) B := Ow.mod ho7' hm10 (fun k hk hkm => by have := hMg k hkm; have := hn7' k hk; omega)
  have hs8 : Ob w10 (.slice ao8 C.length cap8) C := Ow.mod ho8' hm10 (fun k hk hkm => by have := hMg k hkm; have := hn8' k hk; omega)
  clear hMg hm10 hMM hM9 ho7' ho8' hn7' hn8' hA9 hMge hl5 hA hZ9
  go_wp2_with (first
                | (go_at_call 9; (with_reducible refine (P1 w10).mono ?_); rintro e w11 ⟨v11, rfl, ho11, hn11, hm11⟩; obtain ⟨ao11, cap11, rfl, _, _⟩ := ho11.bs.form; have hZ11 := hZ10.ext hm11; have b0 := hZ11.cell' (i := 0) rfl; have b1 := hZ11.cell' (i := 1) rfl; have b2 := hZ11.cell' (i := 2) rfl; have b3 := hZ11.cell' (i := 3) rfl; have b4 := hZ11.cell' (i := 4) rfl)
                | (go_at_call 9; (with_reducible refine (P2 w11).mono ?_); rintro e w12 ⟨v12, rfl, ho12, hn12, hm12⟩; obtain ⟨ao12, cap12, rfl, _, _⟩ := ho12.bs.form; have hm1012 := hm11.ext hm12; have hs12 := ho11.ext hm12)
                | (go_at_call 16; (with_reducible refine (same_yes B B _ _ w12 hs12.bs (hs7.ext hm1012).bs rfl).mono ?_); rintro e w13 ⟨rfl, hm13⟩)
                | (go_at_call 16; (with_reducible refine (same_yes C C _ _ w13 (ho12.ext hm13).bs (hs8.ext (hm1012.ext hm13)).bs rfl).mono ?_); rintro e w14 ⟨rfl, hm14⟩)
                | (go_at_call 12; (with_reducible refine (rcawake_any _).mono ?_); rintro e w15 ⟨rfl, hm15⟩))
  go_ret
  exact ⟨rfl, (((hM10.ext hm1012).ext hm13).ext hm14).ext hm15⟩
end Go.Proofs.Ytkhnemnpadhgoaa
