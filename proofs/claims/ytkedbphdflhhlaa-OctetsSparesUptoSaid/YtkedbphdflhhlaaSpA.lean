import Derived.Test.YtkedbphdflhhlaaApartB
import Derived.Test.YtkedbphdflhhlaaRdC
set_option linter.unusedVariables false
set_option linter.unusedSimpArgs false
set_option maxRecDepth 100000
namespace Go.Proofs.Ytkedbphdflhhlaa
open Go.RowKit Gw

theorem Wr.keepW {w w' : World} {g g2 : Nat} {l l2 : List UInt8} (h : Wr w g l) (h2 : Wr w g2 l2) (hm : Mod [g2] w w') (hne : g ≠ g2) : Wr w' g l := by
  obtain ⟨v, hB, hv⟩ := h
  obtain ⟨v2, hB2, hv2⟩ := h2
  obtain ⟨ao, cap, rfl, _, _⟩ := hv2.form
  exact ⟨v, hB.mod hm (by simpa using hne), hv.keepAt hB2 (by simp) hm⟩
theorem Rd.keepQ {w w' : World} {r q s q2 : Nat} {l l2 : List UInt8} {e e2 : Int} (h : Rd w r q l e) (h2 : Rd w s q2 l2 e2) (hm : Mod [q2] w w') (hne : q ≠ q2) : Rd w' r q l e := by
  obtain ⟨v2, hB2, hv2⟩ := h2.2
  obtain ⟨ao, cap, rfl, _, _⟩ := hv2.form
  exact h.mod hB2 (by simp) (h.1.ne hB2 (by decide)) hne hm
theorem Rd.q {w : World} {r q : Nat} {l : List UInt8} {e : Int} (h : Rd w r q l e) : ∃ cs, Blk w q 118 cs := by
  obtain ⟨_, v, h2, _⟩ := h
  exact ⟨_, h2⟩
theorem rtake_in (r q : Nat) (l : List UInt8) (n : Int) (K : Nat) (w : World) (h : Rd w r q l 0) (hn : n = K) (hK : K ≤ l.length) (hl : l.length ≤ 140737488355328) :
    Calls Try.prog 25 #[.pointer (some ⟨r, 0, none⟩), .int .i64 n] w fun e w' => ∃ v, e = .returned v ∧ Ob w' v (l.take K) ∧ New w v ∧ Rd w' r q (l.drop K) 0 ∧ Mod [q] w w' := by
  subst hn
  have z1 : tkGot l 0 K = l.take K := by unfold tkGot; rw [if_pos ⟨rfl, by omega, by omega⟩]; rfl
  have z2 : tkRest l 0 K = l.drop K := by unfold tkRest; rw [if_pos rfl, if_pos ⟨by omega, by omega⟩]; rfl
  have z3 : tkErr l 0 K = 0 := by unfold tkErr; rw [if_pos rfl, if_neg (by omega), if_neg (by omega)]
  have := rtake_any r q l 0 K w h (by omega) (by omega) hl
  unfold TakePost at this
  rw [z1, z2, z3] at this
  exact this
theorem low7 : low (7 : Int).toNat 1 = [7] := by decide
theorem low1 : low (1 : Int).toNat 1 = [1] := by decide

set_option maxRecDepth 1000000 in
set_option maxHeartbeats 16000000 in
theorem octetsSpares_core (b more : List UInt8) (n : Int) (bv0 mv0 : Value) (w : World) (hb : Bs w bv0 b) (hmo : Bs w mv0 more) (hn1 : -9223372036854775808 ≤ n) (hn2 : n ≤ 9223372036854775807) (hT : b.length + more.length ≤ 1048576) :
    Calls Try.prog 4 #[bv0, mv0, .int .i64 n] w fun e w' => e = .returned (.bool true) ∧ Mod [] w w' := by
  obtain ⟨aob, capb, rfl, hncb, hcapb⟩ := hb.form
  obtain ⟨aom, capm, rfl, hncm, hcapm⟩ := hmo.form
  go_enter Try.func4, Try.ntmps4
  go_wp2_with (with_reducible refine st_alloc ?_)
  refine StopOp.go rfl fun K hK => ?_
  refine wp_alloc zero_writer ?_
  intro g w1 hg1 hg2 hm1 hB1
  simp only [put_some, List.set_cons_succ, List.set_cons_zero]
  refine hK _ _ ?_
  clear hK K
  have hW1 := Wr.new hB1
  clear hB1
  go_wp2_with (first
                | (with_reducible refine st_alloc ?_)
                | (go_at_call 21; refine (copy_any b _ _ (hb.ext hm1) (by omega)).mono ?_; rintro e w2 ⟨v2, rfl, ho2, _, hm2⟩; obtain ⟨ao2, cap2, rfl, _, _⟩ := ho2.bs.form)
                | (go_at_call 20; refine (put_any g [] b _ _ (hW1.ext hm2) ho2.bs (by simp; omega)).mono ?_; rintro e w3 ⟨rfl, hW3, hm3⟩; rw [List.nil_append] at hW3; obtain ⟨v3, hB3, hv3⟩ := hW3; obtain ⟨ao3, cap3, rfl, _, _⟩ := hv3.form; have c3 := hB3.cell' (i := 0) rfl))
  have hW3 : Wr w3 g b := ⟨_, hB3, hv3⟩
  have hM3 : Mod [] w w3 := (hm1.ext hm2).fresh hm3 (by simpa using hg1)
  clear hW1 hm1 hm2 hm3 ho2
  refine StopOp.go rfl fun K hK => ?_
  refine wp_alloc zero_writer ?_
  intro gt w4 ht1 ht2 hm4 hB4
  simp only [put_some, List.set_cons_succ, List.set_cons_zero]
  refine hK _ _ ?_
  clear hK K
  go_wp2_with (with_reducible refine st_store ?_)
  refine StopOp.go rfl fun K hK => ?_
  refine wp_store (u := .agg #[.slice ao3 b.length cap3]) (by rfl) (by rfl) (by kernel_rfl) hB4 (by simp [Value.cells]) (by simp [Value.cells, Value.oneCell']) ?_
  intro w5 hm5 hB5
  refine hK _ _ ?_
  clear hK K
  have hm45 : Mod [] w3 w5 := hm4.fresh hm5 (by simpa using ht1)
  have hT5 : Wr w5 gt b := ⟨_, hB5, hv3.ext hm45⟩
  have hW5 := hW3.ext hm45
  have hM5 := hM3.ext hm45
  have htg : gt ≠ g := by have := hB3.lt; omega
  have htw : w.heap.size ≤ gt := by have := hM3.size; omega
  clear hB4 hB5 hm4 hm5 hm45 hv3 hB3 hW3
  go_wp2_with (first
                | (with_reducible refine st_alloc ?_)
                | (go_at_call 21; refine (copy_any more _ _ (hmo.ext hM5) (by omega)).mono ?_; rintro e w6 ⟨v6, rfl, ho6, _, hm6⟩; obtain ⟨ao6, cap6, rfl, _, _⟩ := ho6.bs.form)
                | (go_at_call 20; refine (put_any gt b more _ _ (hT5.ext hm6) ho6.bs (by omega)).mono ?_; rintro e w7 ⟨rfl, hT7, hm7⟩; have hW7 := (hW5.ext hm6).keepW (hT5.ext hm6) hm7 (Ne.symm htg))
                | (go_at_call 22; refine (byte_any g b 7 _ hW7 (by omega) (by omega) (by omega)).mono ?_; rintro e w8 ⟨rfl, hW8, hm8⟩; have hT8 := hT7.keepW hW7 hm8 htg; rw [low7] at hW8; obtain ⟨v8, hB8, hv8⟩ := hW8; obtain ⟨ao8, cap8, rfl, _, _⟩ := hv8.form; have c8 := hB8.cell' (i := 0) rfl))
  have hW8 : Wr w8 g (b ++ [7]) := ⟨_, hB8, hv8⟩
  have hM8 : Mod [] w w8 := ((hM5.ext hm6).fresh hm7 (by simpa using htw)).fresh hm8 (by simpa using hg1)
  clear hm6 hm7 hm8 ho6 hT5 hW5 hT7 hW7 hM5
  refine StopOp.go rfl fun K hK => ?_
  refine wp_alloc zero_writer ?_
  intro g3 w9 h31 h32 hm9 hB9
  simp only [put_some, List.set_cons_succ, List.set_cons_zero]
  refine hK _ _ ?_
  clear hK K
  go_wp2_with (with_reducible refine st_store ?_)
  refine StopOp.go rfl fun K hK => ?_
  refine wp_store (u := .agg #[.slice ao8 (b.length + 1) cap8]) (by rfl) (by rfl) (by kernel_rfl) hB9 (by simp [Value.cells]) (by simp [Value.cells, Value.oneCell']) ?_
  intro w10 hm10 hB10
  refine hK _ _ ?_
  clear hK K
  have hm910 : Mod [] w8 w10 := hm9.fresh hm10 (by simpa using h31)
  have hU10 : Wr w10 g3 (b ++ [7]) := ⟨_, hB10, by have h7 : (b ++ [(7 : UInt8)]).length = b.length + 1 := (by simp); have := hv8.ext hm910; rwa [h7] at this⟩
  have hW10 := hW8.ext hm910
  have hT10 := hT8.ext hm910
  have hM10 := hM8.ext hm910
  have h3g : g3 ≠ g := by have := hB8.lt; omega
  have h3t : g3 ≠ gt := by
    obtain ⟨_, h, _⟩ := hT8
    have := h.lt
    omega
  have h3w : w.heap.size ≤ g3 := by have := hM8.size; omega
  clear hB9 hB10 hm9 hm10 hm910 hv8 hB8 hW8 hT8
  have hl7 : (b ++ [7]).length = b.length + 1 := by simp
  have Hl7 := Lib.hid hl7
  clear hl7
  go_wp2_with (first
                | (go_at_call 21; first | (refine (copy_any more _ w10 (hmo.ext hM10) (by omega)).mono ?_; rintro e w11 ⟨v11, rfl, ho11, _, hm11⟩; obtain ⟨ao11, cap11, rfl, _, _⟩ := ho11.bs.form) | (refine (copy_any more _ w12 (hmo.ext hM12) (by omega)).mono ?_; rintro e w13 ⟨v13, rfl, ho13, _, hm13⟩; obtain ⟨ao13, cap13, rfl, _, _⟩ := ho13.bs.form) | (refine (copy_any b _ w15 (hb.ext hM15) (by omega)).mono ?_; rintro e w16 ⟨v16, rfl, ho16, hn16, hm16⟩; obtain ⟨ao16, cap16, rfl, _, _⟩ := ho16.bs.form; have hM16 := hM15.ext hm16; have hF16 := (Fam.nil w15 w15.heap.size).ins (A := []) (B := []) (Nat.le_refl _) hm16 ho16 hn16))
                | (go_at_call 20; first | (refine (put_any g3 (b ++ [7]) more _ w11 (hU10.ext hm11) ho11.bs (by rw [Hl7.out]; omega)).mono ?_; rintro e w12 ⟨rfl, hU12, hm12⟩; have hW12 := (hW10.ext hm11).keepW (hU10.ext hm11) hm12 (Ne.symm h3g); have hT12 := (hT10.ext hm11).keepW (hU10.ext hm11) hm12 (Ne.symm h3t); have hM12 := (hM10.ext hm11).fresh hm12 (by simpa using h3w)) | (refine (put_any g (b ++ [7]) more _ w13 (hW12.ext hm13) ho13.bs (by rw [Hl7.out]; omega)).mono ?_; rintro e w14 ⟨rfl, hW14, hm14⟩; have hU14 := (hU12.ext hm13).keepW (hW12.ext hm13) hm14 h3g; have hT14 := (hT12.ext hm13).keepW (hW12.ext hm13) hm14 htg; have hM14 := (hM12.ext hm13).fresh hm14 (by simpa using hg1)))
                | (go_at_call 22; refine (byte_any g (b ++ [7] ++ more) 1 _ hW14 (by omega) (by omega) (by rw [List.length_append, Hl7.out]; omega)).mono ?_; rintro e w15 ⟨rfl, hW15, hm15⟩; have hU15 := hU14.keepW hW14 hm15 h3g; have hT15 := hT14.keepW hW14 hm15 htg; rw [low1] at hW15; have hM15 := hM14.fresh hm15 (by simpa using hg1))
                | (go_at_call 23; first | (refine (of_any b _ w16 ho16.bs (by omega)).mono ?_; rintro e w17 ⟨r, q, rfl, hr, hq, hqr, hR17, hm17⟩; have hM17 := hM16.ext hm17) | (refine (of_any b _ w17 (ho16.bs.ext hm17) (by omega)).mono ?_; rintro e w18 ⟨s, q2, rfl, hs, hq2, hqs, hS18, hm18⟩; have hR18 := hR17.ext hm18; have hM18 := hM17.ext hm18; have hF18 := (hF16.ext hm17).ext hm18)))
  have nq : w15.heap.size ≤ q := by have := hm16.size; omega
  have nq2 : w15.heap.size ≤ q2 := by have := hm16.size; have := hm17.size; omega
  have hqq : q ≠ q2 := by
    obtain ⟨_, h⟩ := hR17.q
    have := h.lt
    omega
  have n18 : Mod [] w15 w18 := (hm16.ext hm17).ext hm18
  obtain ⟨E, hE⟩ : ∃ E, E = b ++ [7] ++ more := ⟨_, rfl⟩
  obtain ⟨F, hF⟩ : ∃ F, F = b ++ more := ⟨_, rfl⟩
  rw [← hE] at hW15 hU15
  rw [← hF] at hT15
  have hEl : E.length = b.length + 1 + more.length := by rw [hE, List.length_append, Hl7.out]
  have hFl : F.length = b.length + more.length := by rw [hF, List.length_append]
  have HE := Lib.hid hE
  have HF := Lib.hid hF
  have HEl := Lib.hid hEl
  have HFl := Lib.hid hFl
  clear hE hF hEl hFl hm16 hm17 hm18 hF16 hR17 ho16 hn16 hT14 hU14 hW14 hm15 hm14 hm13 hm12 hm11 hW12 hU12 hT12 hM14 hM12 hM10 hW10 hT10 hU10 ho11 ho13 hM16 hM17 hM18
  obtain ⟨k, hk⟩ := Int.eq_ofNat_of_zero_le (pick_ge n ((b.length : Int) + 1))
  have hkb : k ≤ b.length := by have := pick_lt n ((b.length : Int) + 1) (by omega); omega
  have hP := pick_any n ((b.length : Int) + 1) w18 hn1 hn2 (by omega) (by omega)
  rw [hk] at hP
  clear hk
  obtain ⟨X, hX⟩ : ∃ X, X = b.take k := ⟨_, rfl⟩
  obtain ⟨R, hR⟩ : ∃ R, R = b.drop k := ⟨_, rfl⟩
  have hXR : X ++ R = b := by rw [hX, hR, List.take_append_drop]
  have hXl : X.length ≤ 1048576 := by rw [hX, List.length_take]; omega
  have hRl : R.length ≤ 1048576 := by rw [hR, List.length_drop]; omega
  have T1 := rtake_in r q b k k w18 hR18 rfl hkb (by omega)
  rw [← hX, ← hR] at T1
  have T2 := fun w h => rtake_in s q2 b k k w h rfl hkb (by omega)
  simp only [← hX, ← hR] at T2
  have HXR := Lib.hid hXR
  clear hX hR hXR
  have T3 := fun w h => rtake_in r q R R.length R.length w h rfl (Nat.le_refl _) (by omega)
  have T4 := fun w h => rtake_in s q2 R R.length R.length w h rfl (Nat.le_refl _) (by omega)
  simp only [List.take_length] at T3 T4
  go_wp2_with (go_at_call 24; refine hP.mono ?_; rintro e wp ⟨rfl, rfl⟩)
  clear hP
  have L1 := fun w h => left_any r q R 0 w h
  have L2 := fun w h => left_any s q2 R 0 w h
  go_wp2_with (first | (go_at_call 26; first | ((with_reducible refine (L1 _ hR20).mono ?_); rintro e w1x ⟨rfl, rfl⟩) | ((with_reducible refine (L2 _ hS21).mono ?_); rintro e w1x ⟨rfl, rfl⟩)) | (go_at_call 25; first | ((with_reducible refine T1.mono ?_); rintro e w19 ⟨x, rfl, ho19, hn19, hR19, hm19⟩; obtain ⟨ax, cx, rfl, _, _⟩ := ho19.bs.form; have hS19 := hS18.keepQ hR18 hm19 (Ne.symm hqq)) | ((with_reducible refine (T2 _ hS19).mono ?_); rintro e w20 ⟨y, rfl, ho20, hn20, hS20, hm20⟩; obtain ⟨ay, cy, rfl, _, _⟩ := ho20.bs.form; have hR20 := hR19.keepQ hS19 hm20 hqq) | ((with_reducible refine (T3 _ hR20).mono ?_); rintro e w21 ⟨z, rfl, ho21, hn21, hR21, hm21⟩; obtain ⟨az, cz, rfl, _, _⟩ := ho21.bs.form; have hS21 := hS20.keepQ hR20 hm21 (Ne.symm hqq)) | ((with_reducible refine (T4 _ hS21).mono ?_); rintro e w22 ⟨u, rfl, ho22, hn22, hS22, hm22⟩; obtain ⟨au, cu, rfl, _, _⟩ := ho22.bs.form)))
  obtain ⟨_, bq18⟩ := hR18.q
  obtain ⟨_, bq19⟩ := hS19.q
  obtain ⟨_, bq20⟩ := hR20.q
  obtain ⟨_, bq21⟩ := hS21.q
  have sz18 := n18.size
  have n19 := n18.fresh hm19 (by simpa using nq)
  have hF19 := Fam.ins2 (A := []) (B := [_]) hF18 (hF18.at hm19 bq18 (by decide)) sz18 ho19 hn19
  have sz19 := n19.size
  have n20 := n19.fresh hm20 (by simpa using nq2)
  have hF20 := Fam.ins2 (A := [_]) (B := [_]) hF19 (hF19.at hm20 bq19 (by decide)) sz19 ho20 hn20
  have sz20 := n20.size
  have n21 := n20.fresh hm21 (by simpa using nq)
  have hF21 := Fam.ins2 (A := [_]) (B := [_, _]) hF20 (hF20.at hm21 bq20 (by decide)) sz20 ho21 hn21
  have sz21 := n21.size
  have n22 := n21.fresh hm22 (by simpa using nq2)
  have hF22 := Fam.ins2 (A := [_, _, _]) (B := [_]) hF21 (hF21.at hm22 bq21 (by decide)) sz21 ho22 hn22
  have sz22 := n22.size
  obtain ⟨vw, hBw, hvw⟩ := hW15
  have hW15 : Wr w15 g (E ++ [1]) := ⟨vw, hBw, hvw⟩
  have hM22 := hM15.ext n22
  have hW22 := hW15.ext n22
  have hU22 := hU15.ext n22
  have hT22 := hT15.ext n22
  clear T1 T2 T3 T4 L1 L2 hF18 hF19 hF20 hF21 hm19 hm20 hm21 hm22 bq18 bq19 bq20 bq21 hR18 hS18 hR19 hS19 hR20 hS20 hR21 hS21 hS22 ho19 ho20 ho21 ho22 hn19 hn20 hn21 hn22 sz18 sz19 sz20 sz21 n18 n19 n20 n21 hW15 hU15 hT15
  go_wp2_with (first | (with_reducible refine st_append ?_) | (go_at_call 21; refine (copy_any b _ w22 (hb.ext hM22) (by omega)).mono ?_; rintro e w23 ⟨v23, rfl, ho23, hn23, hm23⟩; obtain ⟨ao23, cap23, rfl, _, _⟩ := ho23.bs.form))
  refine StopOp.go rfl fun K hK => ?_
  refine wp_append_ow stB (by rfl) (by rfl) ho23 ((hmo.ext hM22).ext hm23) (bv_one _) (by omega) (by omega) ?_
  intro v24 w24 ho24 hm24' hb24
  simp only [put_some, List.set_cons_succ, List.set_cons_zero]
  refine hK _ _ ?_
  clear hK K
  have hm24 : Mod [] w22 w24 := hm23.fresh hm24' hn23
  rw [← bv_append, ← List.length_append, ← HF.out] at ho24
  obtain ⟨ao24, cap24, rfl, _, _⟩ := ho24.sl.form
  have hF24 := hF22.ext hm24
  have hM24 := hM22.ext hm24
  clear hF22 ho23 hm23 hm24' hb24
  go_wp2_with (first | (with_reducible refine st_bslice ?_) | (go_at_call 21; refine (copy_any b _ w24 (hb.ext hM24) (by omega)).mono ?_; rintro e w25 ⟨v25, rfl, ho25, hn25, hm25⟩; obtain ⟨ao25, cap25, rfl, _, _⟩ := ho25.bs.form))
  refine StopOp.go rfl fun K hK => ?_
  refine wp_bslice stB [.int .u8 7] rfl (by decide) (by rfl) (by simp [Value.cells]) ?_
  intro p26 w26 hp1 hp2 hm26 hB26
  simp only [put_some, List.set_cons_succ, List.set_cons_zero]
  refine hK _ _ ?_
  clear hK K
  have hb26 : Bs w26 (.slice (some ⟨p26, 0, none⟩) 1 1) [7] := Bs.of_blk (l := [7]) (rest := []) hB26 (by simp) (by omega)
  go_wp2_with (with_reducible refine st_append ?_)
  refine StopOp.go rfl fun K hK => ?_
  refine wp_append_ow stB (by rfl) (by rfl) (ho25.ext hm26) hb26 (bv_one _) (by simp; omega) (by simp; omega) ?_
  intro v27 w27 ho27 hm27' hb27
  simp only [put_some, List.set_cons_succ, List.set_cons_zero]
  refine hK _ _ ?_
  clear hK K
  have hm27 : Mod [] w24 w27 := (hm25.ext hm26).fresh hm27' hn25
  have hn27 : New w24 v27 := fun k hk => (hb27 k hk).elim (hn25 k) fun h => by have := hm25.size; have := hm26.size; omega
  rw [← bv_append, List.length_singleton] at ho27
  obtain ⟨ao27, cap27, rfl, _, _⟩ := ho27.sl.form
  clear ho25 hm25 hn25 hm26 hm27' hb27 hb26 hB26
  go_wp2_with (with_reducible refine st_append ?_)
  refine StopOp.go rfl fun K hK => ?_
  refine wp_append_ow stB (by rfl) (by rfl) ho27 ((hmo.ext hM24).ext hm27) (bv_one _) (by omega) (by omega) ?_
  intro v28 w28 ho28 hm28' hb28
  simp only [put_some, List.set_cons_succ, List.set_cons_zero]
  refine hK _ _ ?_
  clear hK K
  have hm28 : Mod [] w24 w28 := hm27.fresh hm28' hn27
  have hn28 : New w24 v28 := fun k hk => (hb28 k hk).elim (hn27 k) fun h => by have := hm27.size; omega
  rw [← bv_append, ← HE.out, ← HEl.out] at ho28
  obtain ⟨ao28, cap28, rfl, _, _⟩ := ho28.sl.form
  clear ho27 hm27 hn27 hm28' hb28
  go_wp2_with (with_reducible refine st_bslice ?_)
  refine StopOp.go rfl fun K hK => ?_
  refine wp_bslice stB [.int .u8 1] rfl (by decide) (by rfl) (by simp [Value.cells]) ?_
  intro p29 w29 hp3 hp4 hm29 hB29
  simp only [put_some, List.set_cons_succ, List.set_cons_zero]
  refine hK _ _ ?_
  clear hK K
  have hb29 : Bs w29 (.slice (some ⟨p29, 0, none⟩) 1 1) [1] := Bs.of_blk (l := [1]) (rest := []) hB29 (by simp) (by omega)
  go_wp2_with (with_reducible refine st_append ?_)
  refine StopOp.go rfl fun K hK => ?_
  refine wp_append_ow stB (by rfl) (by rfl) (ho28.ext hm29) hb29 (bv_one _) (by have := HEl.out; simp; omega) (by have := HEl.out; simp; omega) ?_
  intro v30 w30 ho30 hm30' hb30
  simp only [put_some, List.set_cons_succ, List.set_cons_zero]
  refine hK _ _ ?_
  clear hK K
  have hm30 : Mod [] w24 w30 := (hm28.ext hm29).fresh hm30' hn28
  have hn30 : New w24 v30 := fun k hk => (hb30 k hk).elim (hn28 k) fun h => by have := hm28.size; have := hm29.size; omega
  rw [← bv_append, List.length_singleton] at ho30
  obtain ⟨ao30, cap30, rfl, hz1, hz2⟩ := ho30.sl.form
  have ho30' : Ob w30 (.slice ao30 (E.length + 1) cap30) (E ++ [1]) := by
    have h1 : (E ++ [(1 : UInt8)]).length = E.length + 1 := by simp
    unfold Ob
    rw [h1]
    exact ho30
  have sz24 : w15.heap.size ≤ w24.heap.size := Nat.le_trans sz22 hm24.size
  have hF30 := Fam.ins (A := [_, _, _, _, _]) (B := []) hF24 sz24 hm30 ho30' hn30
  have hM30 := hM24.ext hm30
  have hW30 := (hW22.ext hm24).ext hm30
  have hU30 := (hU22.ext hm24).ext hm30
  have hT30 := (hT22.ext hm24).ext hm30
  have hwant : Bs w30 (.slice ao24 F.length cap24) F := ho24.sl.ext hm30
  have n30 := (n22.ext hm24).ext hm30
  have hcut : Bs w30 (.slice ao30 E.length cap30) E := by
    have := HEl.out
    have := Sl.cut (lo := 0) (hi := E.length) (m := cap30) ho30.sl (by omega) (by omega) (by omega) (by omega)
    simp only [Nat.mul_one, Nat.zero_mul, List.drop_zero, Nat.sub_zero, Addr.add, if_true, Option.map_id'] at this
    have h2 : (bv (E ++ [1])).take E.length = bv E := by rw [bv_append, ← bv_length E, List.take_left]
    rw [h2] at this
    unfold Bs
    simpa using this
  clear ho28 hm28 hn28 hm29 hm30' hb30 hb29 hB29 ho30 hm24 hF24 hM24 hM22 hW22 hU22 hT22 ho24 n22 sz22
  go_wp2_with fail
  refine wp_region_T [⟨1, true, []⟩, ⟨0, false, []⟩, ⟨2, false, []⟩, ⟨3, true, []⟩, ⟨4, true, []⟩, ⟨6, true, []⟩, ⟨5, false, []⟩, ⟨7, false, []⟩, ⟨8, true, []⟩, ⟨9, true, []⟩, ⟨10, true, []⟩, ⟨12, true, []⟩, ⟨13, true, []⟩, ⟨14, true, []⟩, ⟨15, true, []⟩, ⟨16, true, []⟩, ⟨11, false, [14, 15]⟩, ⟨17, false, []⟩, ⟨18, true, []⟩, ⟨19, true, []⟩, ⟨20, true, []⟩, ⟨21, true, []⟩, ⟨23, true, []⟩, ⟨25, true, []⟩, ⟨22, false, []⟩, ⟨24, false, []⟩, ⟨26, false, []⟩, ⟨27, true, []⟩, ⟨28, true, []⟩, ⟨29, true, []⟩, ⟨30, true, []⟩, ⟨31, true, []⟩, ⟨32, false, []⟩, ⟨33, true, []⟩, ⟨34, true, []⟩, ⟨35, true, []⟩, ⟨36, true, []⟩, ⟨37, true, []⟩, ⟨38, false, []⟩, ⟨39, true, []⟩, ⟨40, true, []⟩] (by kernel_rfl) (by kernel_rfl) ?_
  refine wpT_n rfl rfl (fun K hK => ?_)
  go_wp2_with fail
  have hx30 : Ob w30 (.slice ax X.length cx) X := (hF30.ob (_, _) (by simp)).1
  have hz30 : Ob w30 (.slice az R.length cz) R := (hF30.ob (_, _) (by simp)).1
  have hy30 : Ob w30 (.slice ay X.length cy) X := (hF30.ob (_, _) (by simp)).1
  have hu30 : Ob w30 (.slice au R.length cu) R := (hF30.ob (_, _) (by simp)).1
  have hE1 := HEl.out
  have hF1 := HFl.out
  have hE2 : E.length ≤ 1048580 := by omega
  have hF2 : F.length ≤ 1048580 := by omega
  have hEE : (E ++ [(1 : UInt8)]).length ≤ 140737488355328 := by simp; omega
  clear hE1 hF1
  refine wpT_call rfl rfl (fun K hK => ?_)
  go_wp2_with (go_at_call 18; refine (out_any gt F _ (hT30.ext (Mod.drew [] _)) (by omega)).mono ?_; rintro e w31 ⟨v31, rfl, ho31, _, hm31'⟩; obtain ⟨ao31, cap31, rfl, _, _⟩ := ho31.bs.form)
  have hm31 : Mod [] w30 w31 := (Mod.drew [] w30).ext hm31'
  refine wpT_call rfl rfl (fun K hK => ?_)
  go_wp2_with (go_at_call 27; refine (same_yes F F _ _ _ ho31.bs (hwant.ext hm31) rfl).mono ?_; rintro e w32 ⟨rfl, hm32'⟩)
  have hm32 := hm31.ext hm32'
  clear ho31 hm31' hm31 hm32'
  iterate 2 (refine wpT_n rfl rfl (fun K hK => ?_); go_wp2_with fail)
  refine wpT_gq (gi := 4) rfl rfl rfl rfl rfl (fun K hK => ?_)
  go_wp2_with fail
  refine wpT_gcall (gi := 4) rfl rfl rfl rfl (fun K hK => ?_)
  go_wp2_with (go_at_call 18; refine (out_any g (E ++ [1]) _ (hW30.ext hm32) hEE).mono ?_; rintro e w33 ⟨v33, rfl, ho33, _, hm33'⟩; obtain ⟨ao33, cap33, rfl, _, _⟩ := ho33.n (n := E.length + 1) (by simp))
  have hm33 := hm32.ext hm33'
  refine wpT_gcall (gi := 4) rfl rfl rfl rfl (fun K hK => ?_)
  go_wp2_with (go_at_call 27; refine (same_yes (E ++ [1]) (E ++ [1]) _ _ _ ho33.bs (ho30'.bs.ext hm33) rfl).mono ?_; rintro e w34 ⟨rfl, hm34'⟩)
  have hm34 := hm33.ext hm34'
  clear ho33 hm33' hm33 hm34' hm32
  refine wpT_gq (gi := 4) rfl rfl rfl rfl rfl (fun K hK => ?_)
  go_wp2_with fail
  iterate 2 (refine wpT_n rfl rfl (fun K hK => ?_); go_wp2_with fail)
  iterate 5 (refine wpT_gq (gi := 10) rfl rfl rfl rfl rfl (fun K hK => ?_); go_wp2_with fail)
  refine wpT_gcallh (gi := 10) rfl rfl rfl rfl (fun K hK => ?_)
  go_wp2_with (go_at_call 18; refine (out_any g3 E _ (hU30.ext hm34) (by omega)).mono ?_; rintro e w35 ⟨v35, rfl, ho35, _, hm35'⟩; obtain ⟨ao35, cap35, rfl, _, _⟩ := ho35.bs.form)
  refine ⟨agains_cons rfl (again_const (v := .int .i64 ((E.length : Int) + 1)) (fun _ => by go_simp)) (agains_cons rfl (again_const (v := .int .i64 E.length) (fun _ => by go_simp; exact IntWalk.i64_in _ (by omega))) agains_nil), ?_⟩
  have hm35 := hm34.ext hm35'
  refine wpT_gcall (gi := 10) rfl rfl rfl rfl (fun K hK => ?_)
  go_wp2_with (go_at_call 27; refine (same_yes E E _ _ _ ho35.bs (hcut.ext hm35) rfl).mono ?_; rintro e w36 ⟨rfl, hm36'⟩)
  have hm36 := hm35.ext hm36'
  clear ho35 hm35' hm35 hm36' hm34
  refine wpT_gq (gi := 10) rfl rfl rfl rfl rfl (fun K hK => ?_)
  go_wp2_with fail
  iterate 2 (refine wpT_n rfl rfl (fun K hK => ?_); go_wp2_with fail)
  iterate 3 (refine wpT_gq (gi := 20) rfl rfl rfl rfl rfl (fun K hK => ?_); go_wp2_with fail)
  refine wpT_gcall (gi := 20) rfl rfl rfl rfl (fun K hK => ?_)
  go_wp2_with (go_at_call 21; refine (copy_any X _ _ (hx30.bs.ext hm36) (by omega)).mono ?_; rintro e w37 ⟨v37, rfl, ho37, hn37, hm37'⟩; obtain ⟨ao37, cap37, rfl, _, _⟩ := ho37.bs.form)
  have hm37 := hm36.ext hm37'
  refine wpT_ge0 (gi := 20) rfl rfl rfl rfl rfl (fun K hK => ?_)
  refine wp_append_ow stB (by rfl) (by rfl) ho37 (hz30.bs.ext hm37) (bv_one _) (by omega) (by omega) ?_
  intro v38 w38 ho38 hm38' hb38
  simp only [put_some, List.set_cons_succ, List.set_cons_zero]
  refine hK _ _ ?_
  clear hK K
  have hm38 : Mod [] w30 w38 := hm36.ext (hm37'.fresh hm38' hn37)
  rw [← bv_append, ← List.length_append, HXR.out] at ho38
  obtain ⟨ao38, cap38, rfl, _, _⟩ := ho38.sl.form
  clear ho37 hn37 hm37' hm37 hm38' hb38 hm36
  refine wpT_gcall (gi := 20) rfl rfl rfl rfl (fun K hK => ?_)
  go_wp2_with (go_at_call 27; refine (same_yes b b _ _ _ ho38.sl ((hb.ext hM30).ext hm38) rfl).mono ?_; rintro e w39 ⟨rfl, hm39'⟩)
  have hm39 := hm38.ext hm39'
  clear ho38 hm38 hm39'
  refine wpT_gq (gi := 20) rfl rfl rfl rfl rfl (fun K hK => ?_)
  go_wp2_with fail
  iterate 2 (refine wpT_n rfl rfl (fun K hK => ?_); go_wp2_with fail)
  iterate 2 (refine wpT_gq (gi := 29) rfl rfl rfl rfl rfl (fun K hK => ?_); go_wp2_with fail)
  refine wpT_gcall (gi := 29) rfl rfl rfl rfl (fun K hK => ?_)
  go_wp2_with (go_at_call 27; refine (same_yes X X _ _ _ (hy30.bs.ext hm39) (hx30.bs.ext hm39) rfl).mono ?_; rintro e w40 ⟨rfl, hm40'⟩)
  have hm40 := hm39.ext hm40'
  refine wpT_gq (gi := 29) rfl rfl rfl rfl rfl (fun K hK => ?_)
  go_wp2_with fail
  iterate 2 (refine wpT_n rfl rfl (fun K hK => ?_); go_wp2_with fail)
  iterate 2 (refine wpT_gq (gi := 35) rfl rfl rfl rfl rfl (fun K hK => ?_); go_wp2_with fail)
  refine wpT_gcall (gi := 35) rfl rfl rfl rfl (fun K hK => ?_)
  go_wp2_with (go_at_call 27; refine (same_yes R R _ _ _ (hu30.bs.ext hm40) (hz30.bs.ext hm40) rfl).mono ?_; rintro e w41 ⟨rfl, hm41'⟩)
  have hm41 := hm40.ext hm41'
  clear hm39 hm40 hm40' hm41'
  refine wpT_gq (gi := 35) rfl rfl rfl rfl rfl (fun K hK => ?_)
  go_wp2_with fail
  refine wpT_n rfl rfl (fun K hK => ?_)
  go_wp2_with fail
  refine wpT_nil ?_
  have hF41 := hF30.ext hm41
  have hM41 := hM30.ext hm41
  have hW41 := hW30.ext hm41
  have n41 := n30.ext hm41
  clear hx30 hy30 hz30 hu30 hcut hwant hU30 hT30 hW30 hF30 hM30 ho30'
  go_wp2_with (first | (with_reducible refine st_bslice ?_) | (go_at_call 18; first | (refine (out_any g (E ++ [1]) w41 hW41 hEE).mono ?_; rintro e w42 ⟨v42, rfl, ho42, hn42, hm42⟩; obtain ⟨ao42, cap42, rfl, _, _⟩ := ho42.n (n := E.length + 1) (by simp)) | (refine (out_any g (E ++ [1]) w42 (hW41.ext hm42) hEE).mono ?_; rintro e w43 ⟨v43, rfl, ho43, hn43, hm43⟩; obtain ⟨ao43, cap43, rfl, _, _⟩ := ho43.n (n := E.length + 1) (by simp))))
  have sz41 := n41.size
  have hF42 := Fam.ins (A := [_, _, _, _]) (B := [_, _]) hF41 sz41 hm42 ho42 hn42
  have hF43 := Fam.ins (A := [_, _, _, _, _]) (B := [_, _]) hF42 (Nat.le_trans sz41 hm42.size) hm43 ho43 hn43
  refine StopOp.go rfl fun K hK => ?_
  refine wp_bslice stRow [.slice ax X.length cx, .slice az R.length cz, .slice ay X.length cy, .slice au R.length cu, .slice ao42 (E.length + 1) cap42, .slice ao43 (E.length + 1) cap43, .slice ao16 b.length cap16] rfl (by decide) (by rfl) (by simp [Value.cells]) ?_
  intro p44 w44 hp5 hp6 hm44 hB44
  simp only [put_some, List.set_cons_succ, List.set_cons_zero]
  refine hK _ _ ?_
  clear hK K
  have hF44 := hF43.ext hm44
  have n44 := ((n41.ext hm42).ext hm43).ext hm44
  have hW44 := ((hW41.ext hm42).ext hm43).ext hm44
  have hFs := Fam.sub (A := [_, _, _, _, _, _, _]) (B := [_]) hF44
  have hrows : Sl w44 1 (.slice (some ⟨p44, 0, none⟩) 7 7) 7 (([(.slice ax X.length cx, X), (.slice az R.length cz, R), (.slice ay X.length cy, X), (.slice au R.length cu, R), (.slice ao42 (E.length + 1) cap42, E ++ [1]), (.slice ao43 (E.length + 1) cap43, E ++ [1]), (.slice ao16 b.length cap16, b)] : List (Value × List UInt8)).map (·.1)) :=
    (Ow.of_blk (rest := []) hB44 (Nat.le_refl _) (by omega) rfl rfl : Ow w44 23 1 (.slice (some ⟨p44, 0, none⟩) 7 7) 7 [.slice ax X.length cx, .slice az R.length cz, .slice ay X.length cy, .slice au R.length cu, .slice ao42 (E.length + 1) cap42, .slice ao43 (E.length + 1) cap43, .slice ao16 b.length cap16]).sl
  have hlens : ∀ p ∈ ([(.slice ax X.length cx, X), (.slice az R.length cz, R), (.slice ay X.length cy, X), (.slice au R.length cu, R), (.slice ao42 (E.length + 1) cap42, E ++ [1]), (.slice ao43 (E.length + 1) cap43, E ++ [1]), (.slice ao16 b.length cap16, b)] : List (Value × List UInt8)), p.2.length ≤ 140737488355000 := by
    simp
    omega
  have hA := apart_fam _ w15.heap.size 7 _ w44 rfl hrows hFs (by omega) hlens
  clear hlens hrows
  go_wp2_with (go_at_call 28; refine hA.mono ?_; rintro e w45 ⟨rfl, M, hm45, hMM⟩)
  have hMge : ∀ y ∈ M, w15.heap.size ≤ y := fun y hy => by
    obtain ⟨p, hp, hyp⟩ := hMM y hy
    exact (hFs.ob p hp).2 y hyp
  have hW45 : Wr w45 g (E ++ [1]) := ⟨vw, (hBw.ext n44).mod hm45 (fun h => by have := hMge g h; have := hBw.lt; omega), Sl.mod (hvw.ext n44) hm45 (fun y hy hyM => by
    have h1 := hMge y hyM
    have h2 := Bs.lt hvw (by simp) y hy
    omega)⟩
  have hlast : Ob w45 (.slice ao30 (E.length + 1) cap30) (E ++ [1]) := Ow.mod (hF44.ob (_, _) (by simp)).1 hm45 fun y hy hyM => by
    obtain ⟨p, hp, hyp⟩ := hMM y hyM
    exact ((List.pairwise_append (l₁ := [_, _, _, _, _, _, _]) (l₂ := [_])).1 hF44.dj).2.2 p hp _ (List.mem_singleton.2 rfl) y hyp hy
  have hM45 : Mod [] w w45 := ((((hM41.ext hm42).ext hm43).ext hm44)).fresh hm45 (fun y hy => Nat.le_trans hM15.size (hMge y hy))
  clear hF41 hF42 hF43 hF44 hFs hA
  go_wp2_with (first | (go_at_call 18; refine (out_any g (E ++ [1]) w45 hW45 hEE).mono ?_; rintro e w46 ⟨v46, rfl, ho46, hn46, hm46⟩; obtain ⟨ao46, cap46, rfl, _, _⟩ := ho46.n (n := E.length + 1) (by simp)) | (go_at_call 27; refine (same_yes (E ++ [1]) (E ++ [1]) _ _ _ ho46.bs (hlast.bs.ext hm46) rfl).mono ?_; rintro e w47 ⟨rfl, hm47⟩) | (go_at_call 19; refine (awake_any _).mono ?_; rintro e w48 ⟨rfl, hm48⟩))
  go_ret
  exact ⟨rfl, ((hM45.ext hm46).ext hm47).ext hm48⟩
end Go.Proofs.Ytkedbphdflhhlaa
