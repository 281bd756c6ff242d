import Derived.Test.YtkedbphdflhhlaaDkQ
import Derived.Test.YtkedbphdflhhlaaRowE
import Derived.Deep.DeepCutAuto
/-! DiskPlays. -/
set_option linter.unusedVariables false
set_option linter.unusedSimpArgs false
set_option maxRecDepth 100000
namespace Go.Proofs.Ytkedbphdflhhlaa
open Go.RowKit Gw

theorem Dops.elem {w : World} {ao : Option Addr} {n cap : Nat} {os : List Dop} (h : Sl w 6 (.slice ao n cap) os.length (os.flatMap Dop.cells)) {i : Nat} (hi : i < os.length) :
    ∃ b o, ao = some ⟨b, o, none⟩ ∧ w.rangeAt b (o + i * 6) os[i].cells := by
  obtain ⟨b, o, c, hv, _, _, hc⟩ := h.at (fun h0 => by
    have := flat_at6 os i 0 hi (by omega)
    rw [h0] at this
    simp [Dop.cells] at this)
  injection hv with e1
  refine ⟨b, o, e1, fun j u hu => ?_⟩
  have hj : j < 6 := by have := (List.getElem?_eq_some_iff.1 hu).1; simpa [Dop.cells] using this
  have := hc (i * 6 + j) u (by rw [flat_at6 os i j hi hj]; exact hu)
  rwa [← Nat.add_assoc] at this
theorem stPD : ST Try.prog 99 57 (.pointer none) 1 8 := ⟨Try.underlying99, by kernel_rfl, rfl, by decide⟩
theorem stPR : ST Try.prog 100 96 (.pointer none) 1 8 := ⟨Try.underlying100, by kernel_rfl, rfl, by decide⟩
theorem bool_neq (w : World) : (binOp .neq 4 (.bool false) (.bool false)).run Try.prog w = .ok (.bool false) w ∧ (binOp .neq 4 (.bool true) (.bool true)).run Try.prog w = .ok (.bool false) w := ⟨by rfl, by rfl⟩
theorem small_any (s z : Int) (b : Bool) (w : World) (hb : b = (decide (s ≤ 64) && decide (z ≤ 512))) : Calls Try.prog 60 #[.int .i64 s, .int .i64 z] w fun e w' => e = .returned (.bool b) ∧ w = w' := by
  by_cases h1 : s ≤ 64
  · rw [decide_eq_true h1, Bool.true_and] at hb
    by_cases h2 : z ≤ 512
    · rw [decide_eq_true h2] at hb
      subst hb
      go_enter Try.func60, Try.ntmps60
      go_wp2_with fail
      go_ret
      exact ⟨rfl, rfl⟩
    · rw [decide_eq_false h2] at hb
      subst hb
      go_enter Try.func60, Try.ntmps60
      go_wp2_with fail
      go_ret
      exact ⟨rfl, rfl⟩
  · rw [decide_eq_false h1, Bool.false_and] at hb
    subst hb
    go_enter Try.func60, Try.ntmps60
    go_wp2_with fail
    go_ret
    exact ⟨rfl, rfl⟩
theorem diskPlays_big (s z : Int) (sv : Value) (W : World) (hone : sv.cells = #[sv] ∧ sv.oneCell' = true) (hmay : mayD s z = true) (hsm : (decide (s ≤ 64) && decide (z ≤ 512)) = false) :
    Calls Try.prog 12 #[.int .i64 s, .int .i64 z, sv] W fun e w' => e = .returned (.bool true) ∧ Mod [] W w' := by
  have AW := fun w => dkawake_any w
  have MY := fun w => rmay_any s z true w hmay
  have SM := fun w => small_any s z false w hsm.symm
  clear hmay hsm
  go_enter Try.func12, Try.ntmps12
  go_wp2_with (first
                | (go_at_call 34; (with_reducible refine (AW _).mono ?_); rintro e w1 ⟨rfl, hm1⟩)
                | (go_at_call 59; (with_reducible refine (MY _).mono ?_); rintro e w2 ⟨rfl, rfl⟩)
                | (go_at_call 60; (with_reducible refine (SM _).mono ?_); rintro e w2 ⟨rfl, rfl⟩))
  go_ret
  exact ⟨rfl, hm1⟩
theorem two_rows {V U : Nat → Value} {W w : World} {x y k j : Nat} {M : Nat → Option Dm} {Lf Kf : Nat → List Nat} {M' : Option Dm} (hB : Brd W w x y V U M Lf Kf) (hr : ∀ i < 2, oRows (M i) ≤ j) (h : oRows M' ≤ j + 1) : ∀ i < 2, oRows (updf M k M' i) ≤ j + 1 := fun i hi => by
  unfold updf
  split
  · exact h
  · exact Nat.le_succ_of_le (hr i hi)
set_option maxRecDepth 1000000 in
set_option maxHeartbeats 8000000 in
theorem diskPlays_no (s z : Int) (sv : Value) (os : List Dop) (W : World) (hs : Dops W sv os) (hF : ∀ o ∈ os, o.F.length ≤ 1048576) (hmay : mayD s z = false) :
    Calls Try.prog 12 #[.int .i64 s, .int .i64 z, sv] W fun e w' => e = .returned (.bool true) ∧ Mod [] W w' := by
  have MY := fun w => rmay_any s z false w hmay
  have DN := fun w => dnew_no s z w hmay
  have RN := fun w => rnew_no s z w hmay
  obtain ⟨hs1, hs2⟩ := hs
  obtain ⟨aos, caps, rfl, hcs, hcs2⟩ := hs1.form
  have AW := fun w => dkawake_any w
  have bneq := fun w => (bool_neq w).1
  have nneq := nil_neq
  clear hmay
  go_enter Try.func12, Try.ntmps12
  go_upto_region 8 with (first
                | (go_at_call 34; (with_reducible refine (AW _).mono ?_); rintro e w1 ⟨rfl, hm1⟩)
                | (go_at_call 59; (with_reducible refine (MY _).mono ?_); rintro e w2 ⟨rfl, rfl⟩)
                | (go_at_call 35; (with_reducible refine (DN _).mono ?_); rintro e w2 ⟨rfl, rfl⟩)
                | (go_at_call 61; (with_reducible refine (RN _).mono ?_); rintro e w4 ⟨ra, rfl, hRa, hka, hmc⟩))
  go_upto_region 9 with (go_at_call 61; (with_reducible refine (RN _).mono ?_); rintro e w5 ⟨rb, rfl, hRb, hkb, hmd⟩)
  have hTa : Two w5 (.pointer none) (.pointer (some ⟨ra, 0, none⟩)) none [] [ra] := ⟨⟨.inl rfl, by simp [blks]⟩, ⟨⟨ra, rfl, hRa.ext hmd⟩, by simp [blks]⟩, by simp⟩
  have hTb : Two w5 (.pointer none) (.pointer (some ⟨rb, 0, none⟩)) none [] [rb] := ⟨⟨.inl rfl, by simp [blks]⟩, ⟨⟨rb, rfl, hRb⟩, by simp [blks]⟩, by simp⟩
  have hap : ∀ b ∈ [] ++ [ra], b ∉ ([] : List Nat) ++ [rb] := fun b hb hb2 => by
    have h1 : b = ra := by simpa using hb
    have h2 : b = rb := by simpa using hb2
    have := hRa.lt
    omega
  have hlo : (∀ b ∈ [] ++ [ra], W.heap.size ≤ b) ∧ ∀ b ∈ ([] : List Nat) ++ [rb], W.heap.size ≤ b := by
    have s0 := hm1.size
    have s3 := hmc.size
    exact ⟨fun b hb => by have h1 : b = ra := (by simpa using hb); omega, fun b hb => by have h1 : b = rb := (by simpa using hb); omega⟩
  have hMM := (hm1.ext hmc).ext hmd
  clear hRa hka hmc hRb hkb hmd hm1 AW MY DN RN
  go_wp2_with (with_reducible refine st_bslice ?_)
  refine StopOp.go rfl fun K hK => ?_
  refine wp_bslice stPD [.pointer none, .pointer none] rfl (by decide) (by rfl) (by simp [Value.cells]) ?_
  intro x w6 hx1 hx2 hmx hBx
  simp only [put_some, List.set_cons_succ, List.set_cons_zero]
  refine hK _ _ ?_
  clear hK K
  go_wp2_with (with_reducible refine st_bslice ?_)
  refine StopOp.go rfl fun K hK => ?_
  refine wp_bslice stPR [.pointer (some ⟨ra, 0, none⟩), .pointer (some ⟨rb, 0, none⟩)] rfl (by decide) (by rfl) (by simp [Value.cells]) ?_
  intro y w7 hy1 hy2 hmy hBy
  simp only [put_some, List.set_cons_succ, List.set_cons_zero]
  refine hK _ _ ?_
  clear hK K
  have hB7 : Brd W w7 x y (fun i => if i = 0 then .pointer none else .pointer none) (fun i => if i = 0 then .pointer (some ⟨ra, 0, none⟩) else .pointer (some ⟨rb, 0, none⟩)) (fun _ => none) (fun i => if i = 0 then [] else []) (fun i => if i = 0 then [ra] else [rb]) := by
    have hl1 := hTa.lt
    have hl2 := hTb.lt
    have sz := hMM.size
    refine ⟨(hMM.ext hmx).ext hmy, Blk.ext hBx hmy, hBy, fun i hi => ?_, fun i hi j hj hij => ?_, fun i hi => ?_, by omega, by omega, by omega, fun i hi => ?_⟩
    · obtain rfl | rfl : i = 0 ∨ i = 1 := by omega
      · exact (hTa.ext hmx).ext hmy
      · exact (hTb.ext hmx).ext hmy
    · obtain rfl | rfl : i = 0 ∨ i = 1 := by omega
      · obtain rfl : j = 1 := by omega
        exact hap
      · obtain rfl : j = 0 := by omega
        exact fun b hb hb2 => hap b hb2 hb
    · obtain rfl | rfl : i = 0 ∨ i = 1 := by omega
      · exact ⟨fun hh => by have := hl1 _ hh; omega, fun hh => by have := hl1 _ hh; omega⟩
      · exact ⟨fun hh => by have := hl2 _ hh; omega, fun hh => by have := hl2 _ hh; omega⟩
    · obtain rfl | rfl : i = 0 ∨ i = 1 := by omega
      · exact hlo.1
      · exact hlo.2
  clear hTa hTb hap hlo hMM hBx hBy hmx hmy hx1 hx2 hy1 hy2
  obtain ⟨N, hN⟩ : ∃ N, N = min os.length 200 := ⟨_, rfl⟩
  have HN := Lib.hid hN
  clear hN
  go_wp2_with fail
  go_loopw [17] (fun i wr => ∃ (j : Nat) (V U : Nat → Value) (M : Nat → Option Dm) (Lf Kf : Nat → List Nat), j ≤ N ∧ i = .int .i64 j ∧ Brd W wr x y V U M Lf Kf ∧ ∀ i < 2, oRows (M i) ≤ j) (fun i _ => N - (intOf i).toNat)
  case atStart => exact ⟨0, _, _, _, _, _, Nat.zero_le _, rfl, hB7, fun i _ => Nat.le_of_eq rfl⟩
  case round =>
    obtain ⟨j, V, U, M, Lf, Kf, hj, rfl, hB, hrow⟩ := hrel
    clear hB7
    obtain ⟨c, hc⟩ : ∃ c, c = decide (j < N) := ⟨_, rfl⟩
    have HC := Lib.hid hc
    clear hc
    go_upto_region 14 with fail
    go_cut [89] (fun u wx => u = .bool c ∧ wr = wx)
    case first =>
      by_cases h1 : j < os.length
      · have y1 : (j : Int) < os.length := by omega
        by_cases h2 : j < 200
        · have y2 : (j : Int) < 200 := by omega
          go_wp2_with fail
          go_meet
          exact ⟨by rw [HC.out, decide_eq_true (show j < N by have := HN.out; omega)]; try (simp; omega), rfl⟩
        · have y2 : (200 : Int) ≤ j := by omega
          go_wp2_with fail
          go_meet
          exact ⟨by rw [HC.out, decide_eq_false (show ¬ j < N by have := HN.out; omega)]; try (simp; omega), rfl⟩
      · have y1 : (os.length : Int) ≤ j := by omega
        go_wp2_with fail
        go_meet
        exact ⟨by rw [HC.out, decide_eq_false (show ¬ j < N by have := HN.out; omega)]; try (simp; omega), rfl⟩
    case rest =>
    obtain ⟨rfl, rfl⟩ := hcut
    cases c with
    | true =>
      have hlt : j < N := of_decide_eq_true HC.out.symm
      have hjo : j < os.length := by have := HN.out; omega
      have hj2 : j < 200 := by have := HN.out; omega
      have y1 : (j : Int) < os.length := by omega
      have y2 : (j : Int) < 200 := by omega
      clear HC
      obtain ⟨b, o, rfl, hcr⟩ := Dops.elem (Sl.ext hs1 hB.m0) hjo
      have hop := hs2 _ (List.getElem_mem hjo)
      have hFo := hF _ (List.getElem_mem hjo)
      have hel : ∀ w', Mod [] W w' → w'.rangeAt b (o + j * 6) os[j].cells := fun w' hm => by
        obtain ⟨b', o', he, hcr'⟩ := Dops.elem (Sl.ext hs1 hm) hjo
        injection he with he
        injection he with e1 e2
        subst e1 e2
        exact hcr'
      obtain ⟨op, hop'⟩ : ∃ op, op = os[j] := ⟨_, rfl⟩
      rw [← hop'] at hcr hop hFo hel
      clear hop'
      obtain ⟨d, n, at_, q, le, fv, F⟩ := op
      obtain ⟨hFs, hold, hd, hn, _, _, hle⟩ := hop
      dsimp only [Dop.cells] at hcr hFs hold hd hn hle hFo hel
      have P2 := fun w => pick_any n 2 w hn.1 hn.2 (by omega) (by omega)
      have P7 := fun w => pick_any d 7 w hd.1 hd.2 (by omega) (by omega)
      have pg := pick_ge n 2
      have pl := pick_lt n 2 (by omega)
      obtain ⟨k, hk⟩ : ∃ k, k = pick n 2 := ⟨_, rfl⟩
      rw [← hk] at P2 pg pl
      clear hk
      obtain ⟨k7, hk7⟩ : ∃ k, k = pick d 7 := ⟨_, rfl⟩
      rw [← hk7] at P7
      clear hk7
      have c1 := hcr 1 _ rfl
      obtain rfl | rfl : k = 0 ∨ k = 1 := by omega
      · have HO := fun w hT hF' hFL hFK => one_any (V 0) (U 0) (M 0) (Lf 0) (Kf 0) d n at_ q le fv F w hT (by have := hrow 0 (by omega); omega) hF' (by omega) hFL hFK hd.1 hd.2 hle.1 hle.2
        have hro := oOne_rows d at_ q le F (M 0)
        obtain ⟨M', hM'⟩ : ∃ m, m = oOne d at_ q le F (M 0) := ⟨_, rfl⟩
        rw [← hM'] at HO hro
        clear hM'
        go_wp2_with (go_at_call 24; (with_reducible refine (P2 _).mono ?_); rintro e w2 ⟨rfl, rfl⟩)
        refine wp_region_T [⟨0, true, []⟩, ⟨1, true, []⟩, ⟨2, true, []⟩, ⟨3, true, []⟩, ⟨4, true, []⟩, ⟨5, true, []⟩, ⟨6, true, []⟩, ⟨7, true, []⟩, ⟨8, true, []⟩, ⟨9, true, []⟩, ⟨10, true, []⟩, ⟨11, true, []⟩, ⟨12, false, []⟩, ⟨13, true, []⟩] (by kernel_rfl) (by kernel_rfl) ?_
        have hB0 := hB.ext (Mod.drew [] _)
        obtain ⟨w0, hw0⟩ : ∃ w, w = wr.drew := ⟨_, rfl⟩
        rw [← hw0] at hB0 ⊢
        clear hw0 c1 hcr
        have hc0 := hel w0 hB0.m0
        have cx := hB0.bx.cell' (i := 0) rfl
        have cy := hB0.by_.cell' (i := 0) rfl
        have HO1 := HO w0 (hB0.two 0 (by omega)) (Sl.ext hFs hB0.m0) (fun hne b hb hh => by have := hold hne b hb; have := hB0.lo 0 (by omega) b (List.mem_append_left _ hh); omega) (fun hne b hb hh => by have := hold hne b hb; have := hB0.lo 0 (by omega) b (List.mem_append_right _ hh); omega)
        iterate 11 (refine wpT_n rfl rfl (fun K hK => ?_); go_wp2_with fail)
        refine wpT_n rfl rfl (fun K hK => ?_)
        refine wp_load_mid 89 _ rfl b (o + j * 6) (by rfl) [.int .i64 d, .int .i64 n, .int .i64 at_, .int .i64 q, .int .i64 le, fv] _ hc0 Try.underlying89 rfl (by kernel_rfl) ?_
        simp only [put_some, List.set_cons_succ, List.set_cons_zero]
        refine hK _ ?_
        clear hK K
        refine wpT_call rfl rfl (fun K hK => ?_)
        go_wp2_with (go_at_call 62; (with_reducible refine HO1.mono ?_); rintro e w3 ⟨rfl, htp⟩)
        obtain ⟨Lf3, Kf3, hB3⟩ := hB0.turn (by omega) htp
        have hrow3 := two_rows (k := 0) hB0 hrow (Nat.le_trans hro (Nat.succ_le_succ (hrow 0 (by omega))))
        clear hc0 cx cy HO HO1 hB hB0 htp hrow hro P2
        have hc3 := hel w3 hB3.m0
        have c0 : w3.cell? ⟨b, o + j * 6, none⟩ = some (.int .i64 d) := hc3 0 _ rfl
        clear hc3
        refine wpT_n rfl rfl (fun K hK => ?_)
        go_wp2_with fail
        refine wpT_nil ?_
        go_wp2_with fail
        by_cases h6 : k7 = 6
        · subst h6
          go_wp2_with (go_at_call 24; (with_reducible refine (P7 _).mono ?_); rintro e w4 ⟨rfl, rfl⟩)
          go_roundw
          case rel => exact ⟨j + 1, _, _, _, _, _, by omega, by go_num, hB3, hrow3⟩
          case measure => simp [intOf]; omega
        · have e6 : (k7 == 6) = false := by simpa using h6
          go_wp2_with (go_at_call 24; (with_reducible refine (P7 _).mono ?_); rintro e w4 ⟨rfl, rfl⟩)
          go_roundw
          case rel => exact ⟨j + 1, _, _, _, _, _, by omega, by go_num, hB3, hrow3⟩
          case measure => simp [intOf]; omega
      · have HO := fun w hT hF' hFL hFK => one_any (V 1) (U 1) (M 1) (Lf 1) (Kf 1) d n at_ q le fv F w hT (by have := hrow 1 (by omega); omega) hF' (by omega) hFL hFK hd.1 hd.2 hle.1 hle.2
        have hro := oOne_rows d at_ q le F (M 1)
        obtain ⟨M', hM'⟩ : ∃ m, m = oOne d at_ q le F (M 1) := ⟨_, rfl⟩
        rw [← hM'] at HO hro
        clear hM'
        go_wp2_with (go_at_call 24; (with_reducible refine (P2 _).mono ?_); rintro e w2 ⟨rfl, rfl⟩)
        refine wp_region_T [⟨0, true, []⟩, ⟨1, true, []⟩, ⟨2, true, []⟩, ⟨3, true, []⟩, ⟨4, true, []⟩, ⟨5, true, []⟩, ⟨6, true, []⟩, ⟨7, true, []⟩, ⟨8, true, []⟩, ⟨9, true, []⟩, ⟨10, true, []⟩, ⟨11, true, []⟩, ⟨12, false, []⟩, ⟨13, true, []⟩] (by kernel_rfl) (by kernel_rfl) ?_
        have hB0 := hB.ext (Mod.drew [] _)
        obtain ⟨w0, hw0⟩ : ∃ w, w = wr.drew := ⟨_, rfl⟩
        rw [← hw0] at hB0 ⊢
        clear hw0 c1 hcr
        have hc0 := hel w0 hB0.m0
        have cx := hB0.bx.cell' (i := 1) rfl
        have cy := hB0.by_.cell' (i := 1) rfl
        have HO1 := HO w0 (hB0.two 1 (by omega)) (Sl.ext hFs hB0.m0) (fun hne b hb hh => by have := hold hne b hb; have := hB0.lo 1 (by omega) b (List.mem_append_left _ hh); omega) (fun hne b hb hh => by have := hold hne b hb; have := hB0.lo 1 (by omega) b (List.mem_append_right _ hh); omega)
        iterate 11 (refine wpT_n rfl rfl (fun K hK => ?_); go_wp2_with fail)
        refine wpT_n rfl rfl (fun K hK => ?_)
        refine wp_load_mid 89 _ rfl b (o + j * 6) (by rfl) [.int .i64 d, .int .i64 n, .int .i64 at_, .int .i64 q, .int .i64 le, fv] _ hc0 Try.underlying89 rfl (by kernel_rfl) ?_
        simp only [put_some, List.set_cons_succ, List.set_cons_zero]
        refine hK _ ?_
        clear hK K
        refine wpT_call rfl rfl (fun K hK => ?_)
        go_wp2_with (go_at_call 62; (with_reducible refine HO1.mono ?_); rintro e w3 ⟨rfl, htp⟩)
        obtain ⟨Lf3, Kf3, hB3⟩ := hB0.turn (by omega) htp
        have hrow3 := two_rows (k := 1) hB0 hrow (Nat.le_trans hro (Nat.succ_le_succ (hrow 1 (by omega))))
        clear hc0 cx cy HO HO1 hB hB0 htp hrow hro P2
        have hc3 := hel w3 hB3.m0
        have c0 : w3.cell? ⟨b, o + j * 6, none⟩ = some (.int .i64 d) := hc3 0 _ rfl
        clear hc3
        refine wpT_n rfl rfl (fun K hK => ?_)
        go_wp2_with fail
        refine wpT_nil ?_
        go_wp2_with fail
        by_cases h6 : k7 = 6
        · subst h6
          go_wp2_with (go_at_call 24; (with_reducible refine (P7 _).mono ?_); rintro e w4 ⟨rfl, rfl⟩)
          go_roundw
          case rel => exact ⟨j + 1, _, _, _, _, _, by omega, by go_num, hB3, hrow3⟩
          case measure => simp [intOf]; omega
        · have e6 : (k7 == 6) = false := by simpa using h6
          go_wp2_with (go_at_call 24; (with_reducible refine (P7 _).mono ?_); rintro e w4 ⟨rfl, rfl⟩)
          go_roundw
          case rel => exact ⟨j + 1, _, _, _, _, _, by omega, by go_num, hB3, hrow3⟩
          case measure => simp [intOf]; omega
    | false =>
      clear HC
      have ID := fun v M L w h => dI_any v M L w h
      have IR := fun v M L w h => rI_any v M L w h
      unfold ImgPost at ID IR
      go_wp2_with fail
      refine wp_region_T [⟨0, true, []⟩, ⟨1, true, []⟩, ⟨2, true, []⟩, ⟨4, true, []⟩, ⟨5, true, []⟩, ⟨6, true, []⟩, ⟨3, false, [6]⟩, ⟨7, false, []⟩, ⟨8, false, []⟩, ⟨9, true, []⟩, ⟨10, true, []⟩, ⟨11, true, []⟩, ⟨12, true, []⟩, ⟨14, true, []⟩, ⟨15, true, []⟩, ⟨16, true, []⟩, ⟨13, false, [16]⟩, ⟨17, false, []⟩, ⟨18, false, []⟩, ⟨19, true, []⟩, ⟨20, true, []⟩] (by kernel_rfl) (by kernel_rfl) ?_
      have hB0 := hB.ext (Mod.drew [] _)
      obtain ⟨w0, hw0⟩ : ∃ w, w = wr.drew := ⟨_, rfl⟩
      rw [← hw0] at hB0 ⊢
      clear hw0
      have cx := hB0.bx.cell' (i := 0) rfl
      have cy := hB0.by_.cell' (i := 0) rfl
      have hd0 := (hB0.two 0 (by omega)).d
      have hr0 := (hB0.two 0 (by omega)).r
      iterate 6 (refine wpT_n rfl rfl (fun K hK => ?_); go_wp2_with fail)
      refine wpT_callh rfl rfl (fun K hK => ?_)
      go_wp2_with (go_at_call 54; (with_reducible refine (ID _ _ _ _ hd0).mono ?_); rintro e w1 ⟨v1, dq1, rfl, hR1, hq1, hm1⟩)
      refine ⟨agains_cons rfl (again_load rfl rfl (hm1.block y hB0.by_.lt (by simp)) hB0.by_.kinds) agains_nil, ?_⟩
      have hr1 := hr0.ext hm1
      refine wpT_call rfl rfl (fun K hK => ?_)
      go_wp2_with (go_at_call 64; (with_reducible refine (IR _ _ _ _ hr1).mono ?_); rintro e w2 ⟨v2, dq2, rfl, hR2, hq2, hm2⟩)
      refine wpT_call rfl rfl (fun K hK => ?_)
      go_wp2_with (go_at_call 56; refine (sameRows_yes dq1 dq2 _ _ _ (hR1.ext hm2).r hR2.r (hq1.trans hq2.symm)).mono ?_; rintro e w5 ⟨rfl, hm3⟩)
      have hB5 := ((hB0.ext hm1).ext hm2).ext hm3
      clear cx cy hd0 hr0 hR1 hq1 hm1 hr1 hR2 hq2 hm2 hm3 hB0 hB
      have cx := hB5.bx.cell' (i := 1) rfl
      have cy := hB5.by_.cell' (i := 1) rfl
      have hd0 := (hB5.two 1 (by omega)).d
      have hr0 := (hB5.two 1 (by omega)).r
      refine wpT_n rfl rfl (fun K hK => ?_)
      go_wp2_with fail
      iterate 6 (refine wpT_gq (gi := 9) rfl rfl rfl rfl rfl (fun K hK => ?_); go_wp2_with fail)
      refine wpT_gcallh (gi := 9) rfl rfl rfl rfl (fun K hK => ?_)
      go_wp2_with (go_at_call 54; (with_reducible refine (ID _ _ _ _ hd0).mono ?_); rintro e w1 ⟨v1, dq1, rfl, hR1, hq1, hm1⟩)
      refine ⟨agains_cons rfl (again_load rfl rfl (hm1.block y hB5.by_.lt (by simp)) hB5.by_.kinds) agains_nil, ?_⟩
      have hr1 := hr0.ext hm1
      refine wpT_gcall (gi := 9) rfl rfl rfl rfl (fun K hK => ?_)
      go_wp2_with (go_at_call 64; (with_reducible refine (IR _ _ _ _ hr1).mono ?_); rintro e w2 ⟨v2, dq2, rfl, hR2, hq2, hm2⟩)
      refine wpT_gcall (gi := 9) rfl rfl rfl rfl (fun K hK => ?_)
      go_wp2_with (go_at_call 56; refine (sameRows_yes dq1 dq2 _ _ _ (hR1.ext hm2).r hR2.r (hq1.trans hq2.symm)).mono ?_; rintro e w6 ⟨rfl, hm3⟩)
      iterate 2 (refine wpT_n rfl rfl (fun K hK => ?_); go_wp2_with fail)
      refine wpT_nil ?_
      go_wp2_with fail
      go_ret
      exact ⟨rfl, ((hB5.m0.ext hm1).ext hm2).ext hm3⟩
set_option maxRecDepth 1000000 in
set_option maxHeartbeats 8000000 in
theorem diskPlays_yes (s z : Nat) (sv : Value) (os : List Dop) (W : World) (hs : Dops W sv os) (hF : ∀ o ∈ os, o.F.length ≤ 1048576) (hmay : mayD s z = true) (hsm : (decide ((s : Int) ≤ 64) && decide ((z : Int) ≤ 512)) = true) :
    Calls Try.prog 12 #[.int .i64 (s : Nat), .int .i64 (z : Nat), sv] W fun e w' => e = .returned (.bool true) ∧ Mod [] W w' := by
  have hok := mkD_ok hmay
  have MY := fun w => rmay_any s z true w hmay
  have SM := fun w => small_any s z true w hsm.symm
  have DN := fun w => dnew_yes s z w hmay
  have RN := fun w => rnew_yes s z w hmay
  unfold NewD at DN
  unfold NewR OwnR at RN
  obtain ⟨hs1, hs2⟩ := hs
  obtain ⟨aos, caps, rfl, hcs, hcs2⟩ := hs1.form
  have AW := fun w => dkawake_any w
  have bneq := fun w => (bool_neq w).2
  clear hmay hsm
  go_enter Try.func12, Try.ntmps12
  go_upto_region 6 with (first
                | (go_at_call 34; (with_reducible refine (AW _).mono ?_); rintro e w1 ⟨rfl, hm1⟩)
                | (go_at_call 59; (with_reducible refine (MY _).mono ?_); rintro e w2 ⟨rfl, rfl⟩)
                | (go_at_call 60; (with_reducible refine (SM _).mono ?_); rintro e w2 ⟨rfl, rfl⟩)
                | (go_at_call 35; (with_reducible refine (DN _).mono ?_); rintro e w2 ⟨pa, La, rfl, hDa, hna, hma⟩))
  go_upto_region 7 with (go_at_call 35; (with_reducible refine (DN _).mono ?_); rintro e w3 ⟨pb, Lb, rfl, hDb, hnb, hmb⟩)
  go_upto_region 8 with (go_at_call 61; (with_reducible refine (RN _).mono ?_); rintro e w4 ⟨ra, Ka, rfl, ⟨hRa, hka⟩, hmc⟩)
  go_upto_region 9 with (go_at_call 61; (with_reducible refine (RN _).mono ?_); rintro e w5 ⟨rb, Kb, rfl, ⟨hRb, hkb⟩, hmd⟩)
  have hTa : Two w5 (.pointer (some ⟨pa, 0, none⟩)) (.pointer (some ⟨ra, 0, none⟩)) (some (mkD s z)) La Ka := ⟨⟨pa, rfl, ((hDa.ext hmb).ext hmc).ext hmd, hok⟩, ⟨ra, rfl, hRa.ext hmd, hok⟩, fun b hb hk => by have := hka b hk; have := hDa.lt b hb; have := hmb.size; omega⟩
  have hTb : Two w5 (.pointer (some ⟨pb, 0, none⟩)) (.pointer (some ⟨rb, 0, none⟩)) (some (mkD s z)) Lb Kb := ⟨⟨pb, rfl, (hDb.ext hmc).ext hmd, hok⟩, ⟨rb, rfl, hRb, hok⟩, fun b hb hk => by have := hkb b hk; have := hDb.lt b hb; have := hmc.size; omega⟩
  have hap : ∀ b ∈ La ++ Ka, b ∉ Lb ++ Kb := fun b hb hb2 => by
    have s1 := hmb.size
    have s2 := hmc.size
    rcases List.mem_append.1 hb with h1 | h1 <;> rcases List.mem_append.1 hb2 with h2 | h2
    · have := hDa.lt b h1; have := hnb b h2; omega
    · have := hDa.lt b h1; have := hkb b h2; omega
    · have := hDb.lt b h2; have := hka b h1; omega
    · have := hRa.lt b h1; have := hkb b h2; omega
  have hlo : (∀ b ∈ La ++ Ka, W.heap.size ≤ b) ∧ ∀ b ∈ Lb ++ Kb, W.heap.size ≤ b := by
    have s0 := hm1.size
    have s1 := hma.size
    have s2 := hmb.size
    have s3 := hmc.size
    refine ⟨fun b hb => ?_, fun b hb => ?_⟩
    · rcases List.mem_append.1 hb with h1 | h1
      · have := hna b h1; omega
      · have := hka b h1; omega
    · rcases List.mem_append.1 hb with h1 | h1
      · have := hnb b h1; omega
      · have := hkb b h1; omega
  have hMM := (((hm1.ext hma).ext hmb).ext hmc).ext hmd
  clear hDa hna hma hDb hnb hmb hRa hka hmc hRb hkb hmd hm1 AW MY SM DN RN
  go_wp2_with (with_reducible refine st_bslice ?_)
  refine StopOp.go rfl fun K hK => ?_
  refine wp_bslice stPD [.pointer (some ⟨pa, 0, none⟩), .pointer (some ⟨pb, 0, none⟩)] rfl (by decide) (by rfl) (by simp [Value.cells]) ?_
  intro x w6 hx1 hx2 hmx hBx
  simp only [put_some, List.set_cons_succ, List.set_cons_zero]
  refine hK _ _ ?_
  clear hK K
  go_wp2_with (with_reducible refine st_bslice ?_)
  refine StopOp.go rfl fun K hK => ?_
  refine wp_bslice stPR [.pointer (some ⟨ra, 0, none⟩), .pointer (some ⟨rb, 0, none⟩)] rfl (by decide) (by rfl) (by simp [Value.cells]) ?_
  intro y w7 hy1 hy2 hmy hBy
  simp only [put_some, List.set_cons_succ, List.set_cons_zero]
  refine hK _ _ ?_
  clear hK K
  have hB7 : Brd W w7 x y (fun i => if i = 0 then .pointer (some ⟨pa, 0, none⟩) else .pointer (some ⟨pb, 0, none⟩)) (fun i => if i = 0 then .pointer (some ⟨ra, 0, none⟩) else .pointer (some ⟨rb, 0, none⟩)) (fun _ => some (mkD s z)) (fun i => if i = 0 then La else Lb) (fun i => if i = 0 then Ka else Kb) := by
    have hl1 := hTa.lt
    have hl2 := hTb.lt
    have sz := hMM.size
    refine ⟨(hMM.ext hmx).ext hmy, Blk.ext hBx hmy, hBy, fun i hi => ?_, fun i hi j hj hij => ?_, fun i hi => ?_, by omega, by omega, by omega, fun i hi => ?_⟩
    · obtain rfl | rfl : i = 0 ∨ i = 1 := by omega
      · exact (hTa.ext hmx).ext hmy
      · exact (hTb.ext hmx).ext hmy
    · obtain rfl | rfl : i = 0 ∨ i = 1 := by omega
      · obtain rfl : j = 1 := by omega
        exact hap
      · obtain rfl : j = 0 := by omega
        exact fun b hb hb2 => hap b hb2 hb
    · obtain rfl | rfl : i = 0 ∨ i = 1 := by omega
      · exact ⟨fun hh => by have := hl1 _ hh; omega, fun hh => by have := hl1 _ hh; omega⟩
      · exact ⟨fun hh => by have := hl2 _ hh; omega, fun hh => by have := hl2 _ hh; omega⟩
    · obtain rfl | rfl : i = 0 ∨ i = 1 := by omega
      · exact hlo.1
      · exact hlo.2
  clear hTa hTb hap hlo hMM hBx hBy hmx hmy hx1 hx2 hy1 hy2
  obtain ⟨N, hN⟩ : ∃ N, N = min os.length 200 := ⟨_, rfl⟩
  have HN := Lib.hid hN
  clear hN
  go_wp2_with fail
  go_loopw [17] (fun i wr => ∃ (j : Nat) (V U : Nat → Value) (M : Nat → Option Dm) (Lf Kf : Nat → List Nat), j ≤ N ∧ i = .int .i64 j ∧ Brd W wr x y V U M Lf Kf ∧ ∀ i < 2, oRows (M i) ≤ j) (fun i _ => N - (intOf i).toNat)
  case atStart => exact ⟨0, _, _, _, _, _, Nat.zero_le _, rfl, hB7, fun i _ => Nat.le_of_eq rfl⟩
  case round =>
    obtain ⟨j, V, U, M, Lf, Kf, hj, rfl, hB, hrow⟩ := hrel
    clear hB7
    obtain ⟨c, hc⟩ : ∃ c, c = decide (j < N) := ⟨_, rfl⟩
    have HC := Lib.hid hc
    clear hc
    go_upto_region 14 with fail
    go_cut [89] (fun u wx => u = .bool c ∧ wr = wx)
    case first =>
      by_cases h1 : j < os.length
      · have y1 : (j : Int) < os.length := by omega
        by_cases h2 : j < 200
        · have y2 : (j : Int) < 200 := by omega
          go_wp2_with fail
          go_meet
          exact ⟨by rw [HC.out, decide_eq_true (show j < N by have := HN.out; omega)]; try (simp; omega), rfl⟩
        · have y2 : (200 : Int) ≤ j := by omega
          go_wp2_with fail
          go_meet
          exact ⟨by rw [HC.out, decide_eq_false (show ¬ j < N by have := HN.out; omega)]; try (simp; omega), rfl⟩
      · have y1 : (os.length : Int) ≤ j := by omega
        go_wp2_with fail
        go_meet
        exact ⟨by rw [HC.out, decide_eq_false (show ¬ j < N by have := HN.out; omega)]; try (simp; omega), rfl⟩
    case rest =>
    obtain ⟨rfl, rfl⟩ := hcut
    cases c with
    | true =>
      have hlt : j < N := of_decide_eq_true HC.out.symm
      have hjo : j < os.length := by have := HN.out; omega
      have hj2 : j < 200 := by have := HN.out; omega
      have y1 : (j : Int) < os.length := by omega
      have y2 : (j : Int) < 200 := by omega
      clear HC
      obtain ⟨b, o, rfl, hcr⟩ := Dops.elem (Sl.ext hs1 hB.m0) hjo
      have hop := hs2 _ (List.getElem_mem hjo)
      have hFo := hF _ (List.getElem_mem hjo)
      have hel : ∀ w', Mod [] W w' → w'.rangeAt b (o + j * 6) os[j].cells := fun w' hm => by
        obtain ⟨b', o', he, hcr'⟩ := Dops.elem (Sl.ext hs1 hm) hjo
        injection he with he
        injection he with e1 e2
        subst e1 e2
        exact hcr'
      obtain ⟨op, hop'⟩ : ∃ op, op = os[j] := ⟨_, rfl⟩
      rw [← hop'] at hcr hop hFo hel
      clear hop'
      obtain ⟨d, n, at_, q, le, fv, F⟩ := op
      obtain ⟨hFs, hold, hd, hn, _, _, hle⟩ := hop
      dsimp only [Dop.cells] at hcr hFs hold hd hn hle hFo hel
      have P2 := fun w => pick_any n 2 w hn.1 hn.2 (by omega) (by omega)
      have P7 := fun w => pick_any d 7 w hd.1 hd.2 (by omega) (by omega)
      have pg := pick_ge n 2
      have pl := pick_lt n 2 (by omega)
      obtain ⟨k, hk⟩ : ∃ k, k = pick n 2 := ⟨_, rfl⟩
      rw [← hk] at P2 pg pl
      clear hk
      obtain ⟨k7, hk7⟩ : ∃ k, k = pick d 7 := ⟨_, rfl⟩
      rw [← hk7] at P7
      clear hk7
      have c1 := hcr 1 _ rfl
      obtain rfl | rfl : k = 0 ∨ k = 1 := by omega
      · have HO := fun w hT hF' hFL hFK => one_any (V 0) (U 0) (M 0) (Lf 0) (Kf 0) d n at_ q le fv F w hT (by have := hrow 0 (by omega); omega) hF' (by omega) hFL hFK hd.1 hd.2 hle.1 hle.2
        have hro := oOne_rows d at_ q le F (M 0)
        obtain ⟨M', hM'⟩ : ∃ m, m = oOne d at_ q le F (M 0) := ⟨_, rfl⟩
        rw [← hM'] at HO hro
        clear hM'
        go_wp2_with (go_at_call 24; (with_reducible refine (P2 _).mono ?_); rintro e w2 ⟨rfl, rfl⟩)
        refine wp_region_T [⟨0, true, []⟩, ⟨1, true, []⟩, ⟨2, true, []⟩, ⟨3, true, []⟩, ⟨4, true, []⟩, ⟨5, true, []⟩, ⟨6, true, []⟩, ⟨7, true, []⟩, ⟨8, true, []⟩, ⟨9, true, []⟩, ⟨10, true, []⟩, ⟨11, true, []⟩, ⟨12, false, []⟩, ⟨13, true, []⟩] (by kernel_rfl) (by kernel_rfl) ?_
        have hB0 := hB.ext (Mod.drew [] _)
        obtain ⟨w0, hw0⟩ : ∃ w, w = wr.drew := ⟨_, rfl⟩
        rw [← hw0] at hB0 ⊢
        clear hw0 c1 hcr
        have hc0 := hel w0 hB0.m0
        have cx := hB0.bx.cell' (i := 0) rfl
        have cy := hB0.by_.cell' (i := 0) rfl
        have HO1 := HO w0 (hB0.two 0 (by omega)) (Sl.ext hFs hB0.m0) (fun hne b hb hh => by have := hold hne b hb; have := hB0.lo 0 (by omega) b (List.mem_append_left _ hh); omega) (fun hne b hb hh => by have := hold hne b hb; have := hB0.lo 0 (by omega) b (List.mem_append_right _ hh); omega)
        iterate 11 (refine wpT_n rfl rfl (fun K hK => ?_); go_wp2_with fail)
        refine wpT_n rfl rfl (fun K hK => ?_)
        refine wp_load_mid 89 _ rfl b (o + j * 6) (by rfl) [.int .i64 d, .int .i64 n, .int .i64 at_, .int .i64 q, .int .i64 le, fv] _ hc0 Try.underlying89 rfl (by kernel_rfl) ?_
        simp only [put_some, List.set_cons_succ, List.set_cons_zero]
        refine hK _ ?_
        clear hK K
        refine wpT_call rfl rfl (fun K hK => ?_)
        go_wp2_with (go_at_call 62; (with_reducible refine HO1.mono ?_); rintro e w3 ⟨rfl, htp⟩)
        obtain ⟨Lf3, Kf3, hB3⟩ := hB0.turn (by omega) htp
        have hrow3 := two_rows (k := 0) hB0 hrow (Nat.le_trans hro (Nat.succ_le_succ (hrow 0 (by omega))))
        clear hc0 cx cy HO HO1 hB hB0 htp hrow hro P2
        have hc3 := hel w3 hB3.m0
        have c0 : w3.cell? ⟨b, o + j * 6, none⟩ = some (.int .i64 d) := hc3 0 _ rfl
        clear hc3
        refine wpT_n rfl rfl (fun K hK => ?_)
        go_wp2_with fail
        refine wpT_nil ?_
        go_wp2_with fail
        by_cases h6 : k7 = 6
        · subst h6
          have hm3 : oRows (updf M 0 M' 0) ≤ 1000000 := Nat.le_trans (hrow3 0 (by omega)) (by omega)
          have CD := fun w La h => dCp_any (V 0) (updf M 0 M' 0) La w h hm3
          have CR := fun w Ka h => rCp_any (U 0) (updf M 0 M' 0) Ka w h hm3
          go_wp2_with (go_at_call 24; (with_reducible refine (P7 _).mono ?_); rintro e w4 ⟨rfl, rfl⟩)
          refine wp_region_T [⟨0, true, []⟩, ⟨1, true, []⟩, ⟨2, true, []⟩, ⟨3, true, []⟩, ⟨4, true, []⟩, ⟨5, true, []⟩, ⟨6, true, []⟩, ⟨7, true, []⟩, ⟨8, true, []⟩, ⟨9, true, []⟩, ⟨11, true, []⟩, ⟨12, true, []⟩, ⟨13, true, []⟩, ⟨14, true, []⟩, ⟨10, false, [2, 5, 14]⟩, ⟨15, false, [2, 5]⟩, ⟨16, true, []⟩, ⟨17, false, [5]⟩, ⟨18, true, []⟩, ⟨19, false, []⟩] (by kernel_rfl) (by kernel_rfl) ?_
          have hB5 := hB3.ext (Mod.drew [] _)
          obtain ⟨w5, hw5⟩ : ∃ w, w = w3.drew := ⟨_, rfl⟩
          rw [← hw5] at hB5 ⊢
          clear hw5 c0 hB3
          have cx := hB5.bx.cell' (i := 0) rfl
          have cy := hB5.by_.cell' (i := 0) rfl
          have hd5 := (hB5.two 0 (by omega)).d
          have hr5 := (hB5.two 0 (by omega)).r
          iterate 14 (refine wpT_n rfl rfl (fun K hK => ?_); go_wp2_with fail)
          refine wpT_callh rfl rfl (fun K hK => ?_)
          go_wp2_with (go_at_call 57; (with_reducible refine (CD _ _ hd5).mono ?_); rintro e w6 ⟨a6, L6, rfl, hD6, hn6, hm6, _⟩)
          refine ⟨agains_cons rfl (again_const (fun _ => rfl)) (agains_cons rfl (again_const (fun _ => rfl)) (agains_cons rfl (again_load rfl rfl (hm6.block y hB5.by_.lt (by simp)) hB5.by_.kinds) agains_nil)), ?_⟩
          have hr6 := hr5.ext hm6
          refine wpT_callh rfl rfl (fun K hK => ?_)
          go_wp2_with (go_at_call 63; (with_reducible refine (CR _ _ hr6).mono ?_); rintro e w7 ⟨a7, K7, rfl, hR7, hn7, hm7, _⟩)
          refine ⟨agains_cons rfl (again_const (fun _ => rfl)) (agains_cons rfl (again_const (fun _ => rfl)) agains_nil), ?_⟩
          refine wpT_n rfl rfl (fun K hK => ?_)
          go_wp2_with fail
          have hx7 := (hB5.bx.ext hm6).ext hm7
          have hy7 := (hB5.by_.ext hm6).ext hm7
          refine wpT_e rfl rfl (fun K hK => ?_)
          refine wp_store1 (u := .pointer a6) (by kernel_rfl) (by rfl) (by rfl) ⟨rfl, rfl⟩ hx7 (by simp) ?_
          intro w8 hm8 hx8
          refine hK _ _ ⟨agains_cons rfl (again_const (fun _ => rfl)) agains_nil, ?_⟩
          clear hK K
          refine wpT_n rfl rfl (fun K hK => ?_)
          go_wp2_with fail
          have hy8 := hy7.mod hm8 (by simpa using hB5.xy.symm)
          refine wpT_e0 rfl rfl (fun K hK => ?_)
          refine wp_store1 (u := .pointer a7) (by kernel_rfl) (by rfl) (by rfl) ⟨rfl, rfl⟩ hy8 (by simp) ?_
          intro w9 hm9 hy9
          refine hK _ _ ?_
          clear hK K
          have hx9 := hx8.mod hm9 (by simpa using hB5.xy)
          obtain ⟨Lf9, Kf9, hB9⟩ := hB5.copy (k := 0) (m := 1) (by omega) (by omega) hm6 hD6 hn6 hm7 hR7 hn7 ((hm8.weak (M := [x, y]) (by simp)).then hm9 (by simp)) (by simpa [updf] using hx9) (by simpa [updf] using hy9)
          have hrow9 : ∀ i < 2, oRows (updf (updf M 0 M') 1 (updf M 0 M' 0) i) ≤ j + 1 := fun i hi => by
            by_cases hi2 : i = 1
            · subst hi2; rw [updf_same]; exact hrow3 0 (by omega)
            · rw [updf_ne _ _ hi2]; exact hrow3 i hi
          refine wpT_nil ?_
          go_wp2_with fail
          go_roundw
          case rel => exact ⟨j + 1, _, _, _, _, _, by omega, by go_num, hB9, hrow9⟩
          case measure => simp [intOf]; omega
        · have e6 : (k7 == 6) = false := by simpa using h6
          go_wp2_with (go_at_call 24; (with_reducible refine (P7 _).mono ?_); rintro e w4 ⟨rfl, rfl⟩)
          go_roundw
          case rel => exact ⟨j + 1, _, _, _, _, _, by omega, by go_num, hB3, hrow3⟩
          case measure => simp [intOf]; omega
      · have HO := fun w hT hF' hFL hFK => one_any (V 1) (U 1) (M 1) (Lf 1) (Kf 1) d n at_ q le fv F w hT (by have := hrow 1 (by omega); omega) hF' (by omega) hFL hFK hd.1 hd.2 hle.1 hle.2
        have hro := oOne_rows d at_ q le F (M 1)
        obtain ⟨M', hM'⟩ : ∃ m, m = oOne d at_ q le F (M 1) := ⟨_, rfl⟩
        rw [← hM'] at HO hro
        clear hM'
        go_wp2_with (go_at_call 24; (with_reducible refine (P2 _).mono ?_); rintro e w2 ⟨rfl, rfl⟩)
        refine wp_region_T [⟨0, true, []⟩, ⟨1, true, []⟩, ⟨2, true, []⟩, ⟨3, true, []⟩, ⟨4, true, []⟩, ⟨5, true, []⟩, ⟨6, true, []⟩, ⟨7, true, []⟩, ⟨8, true, []⟩, ⟨9, true, []⟩, ⟨10, true, []⟩, ⟨11, true, []⟩, ⟨12, false, []⟩, ⟨13, true, []⟩] (by kernel_rfl) (by kernel_rfl) ?_
        have hB0 := hB.ext (Mod.drew [] _)
        obtain ⟨w0, hw0⟩ : ∃ w, w = wr.drew := ⟨_, rfl⟩
        rw [← hw0] at hB0 ⊢
        clear hw0 c1 hcr
        have hc0 := hel w0 hB0.m0
        have cx := hB0.bx.cell' (i := 1) rfl
        have cy := hB0.by_.cell' (i := 1) rfl
        have HO1 := HO w0 (hB0.two 1 (by omega)) (Sl.ext hFs hB0.m0) (fun hne b hb hh => by have := hold hne b hb; have := hB0.lo 1 (by omega) b (List.mem_append_left _ hh); omega) (fun hne b hb hh => by have := hold hne b hb; have := hB0.lo 1 (by omega) b (List.mem_append_right _ hh); omega)
        iterate 11 (refine wpT_n rfl rfl (fun K hK => ?_); go_wp2_with fail)
        refine wpT_n rfl rfl (fun K hK => ?_)
        refine wp_load_mid 89 _ rfl b (o + j * 6) (by rfl) [.int .i64 d, .int .i64 n, .int .i64 at_, .int .i64 q, .int .i64 le, fv] _ hc0 Try.underlying89 rfl (by kernel_rfl) ?_
        simp only [put_some, List.set_cons_succ, List.set_cons_zero]
        refine hK _ ?_
        clear hK K
        refine wpT_call rfl rfl (fun K hK => ?_)
        go_wp2_with (go_at_call 62; (with_reducible refine HO1.mono ?_); rintro e w3 ⟨rfl, htp⟩)
        obtain ⟨Lf3, Kf3, hB3⟩ := hB0.turn (by omega) htp
        have hrow3 := two_rows (k := 1) hB0 hrow (Nat.le_trans hro (Nat.succ_le_succ (hrow 1 (by omega))))
        clear hc0 cx cy HO HO1 hB hB0 htp hrow hro P2
        have hc3 := hel w3 hB3.m0
        have c0 : w3.cell? ⟨b, o + j * 6, none⟩ = some (.int .i64 d) := hc3 0 _ rfl
        clear hc3
        refine wpT_n rfl rfl (fun K hK => ?_)
        go_wp2_with fail
        refine wpT_nil ?_
        go_wp2_with fail
        by_cases h6 : k7 = 6
        · subst h6
          have hm3 : oRows (updf M 1 M' 1) ≤ 1000000 := Nat.le_trans (hrow3 1 (by omega)) (by omega)
          have CD := fun w La h => dCp_any (V 1) (updf M 1 M' 1) La w h hm3
          have CR := fun w Ka h => rCp_any (U 1) (updf M 1 M' 1) Ka w h hm3
          go_wp2_with (go_at_call 24; (with_reducible refine (P7 _).mono ?_); rintro e w4 ⟨rfl, rfl⟩)
          refine wp_region_T [⟨0, true, []⟩, ⟨1, true, []⟩, ⟨2, true, []⟩, ⟨3, true, []⟩, ⟨4, true, []⟩, ⟨5, true, []⟩, ⟨6, true, []⟩, ⟨7, true, []⟩, ⟨8, true, []⟩, ⟨9, true, []⟩, ⟨11, true, []⟩, ⟨12, true, []⟩, ⟨13, true, []⟩, ⟨14, true, []⟩, ⟨10, false, [2, 5, 14]⟩, ⟨15, false, [2, 5]⟩, ⟨16, true, []⟩, ⟨17, false, [5]⟩, ⟨18, true, []⟩, ⟨19, false, []⟩] (by kernel_rfl) (by kernel_rfl) ?_
          have hB5 := hB3.ext (Mod.drew [] _)
          obtain ⟨w5, hw5⟩ : ∃ w, w = w3.drew := ⟨_, rfl⟩
          rw [← hw5] at hB5 ⊢
          clear hw5 c0 hB3
          have cx := hB5.bx.cell' (i := 1) rfl
          have cy := hB5.by_.cell' (i := 1) rfl
          have hd5 := (hB5.two 1 (by omega)).d
          have hr5 := (hB5.two 1 (by omega)).r
          iterate 14 (refine wpT_n rfl rfl (fun K hK => ?_); go_wp2_with fail)
          refine wpT_callh rfl rfl (fun K hK => ?_)
          go_wp2_with (go_at_call 57; (with_reducible refine (CD _ _ hd5).mono ?_); rintro e w6 ⟨a6, L6, rfl, hD6, hn6, hm6, _⟩)
          refine ⟨agains_cons rfl (again_const (fun _ => rfl)) (agains_cons rfl (again_const (fun _ => rfl)) (agains_cons rfl (again_load rfl rfl (hm6.block y hB5.by_.lt (by simp)) hB5.by_.kinds) agains_nil)), ?_⟩
          have hr6 := hr5.ext hm6
          refine wpT_callh rfl rfl (fun K hK => ?_)
          go_wp2_with (go_at_call 63; (with_reducible refine (CR _ _ hr6).mono ?_); rintro e w7 ⟨a7, K7, rfl, hR7, hn7, hm7, _⟩)
          refine ⟨agains_cons rfl (again_const (fun _ => rfl)) (agains_cons rfl (again_const (fun _ => rfl)) agains_nil), ?_⟩
          refine wpT_n rfl rfl (fun K hK => ?_)
          go_wp2_with fail
          have hx7 := (hB5.bx.ext hm6).ext hm7
          have hy7 := (hB5.by_.ext hm6).ext hm7
          refine wpT_e rfl rfl (fun K hK => ?_)
          refine wp_store1 (u := .pointer a6) (by kernel_rfl) (by rfl) (by rfl) ⟨rfl, rfl⟩ hx7 (by simp) ?_
          intro w8 hm8 hx8
          refine hK _ _ ⟨agains_cons rfl (again_const (fun _ => rfl)) agains_nil, ?_⟩
          clear hK K
          refine wpT_n rfl rfl (fun K hK => ?_)
          go_wp2_with fail
          have hy8 := hy7.mod hm8 (by simpa using hB5.xy.symm)
          refine wpT_e0 rfl rfl (fun K hK => ?_)
          refine wp_store1 (u := .pointer a7) (by kernel_rfl) (by rfl) (by rfl) ⟨rfl, rfl⟩ hy8 (by simp) ?_
          intro w9 hm9 hy9
          refine hK _ _ ?_
          clear hK K
          have hx9 := hx8.mod hm9 (by simpa using hB5.xy)
          obtain ⟨Lf9, Kf9, hB9⟩ := hB5.copy (k := 1) (m := 0) (by omega) (by omega) hm6 hD6 hn6 hm7 hR7 hn7 ((hm8.weak (M := [x, y]) (by simp)).then hm9 (by simp)) (by simpa [updf] using hx9) (by simpa [updf] using hy9)
          have hrow9 : ∀ i < 2, oRows (updf (updf M 1 M') 0 (updf M 1 M' 1) i) ≤ j + 1 := fun i hi => by
            by_cases hi2 : i = 0
            · subst hi2; rw [updf_same]; exact hrow3 1 (by omega)
            · rw [updf_ne _ _ hi2]; exact hrow3 i hi
          refine wpT_nil ?_
          go_wp2_with fail
          go_roundw
          case rel => exact ⟨j + 1, _, _, _, _, _, by omega, by go_num, hB9, hrow9⟩
          case measure => simp [intOf]; omega
        · have e6 : (k7 == 6) = false := by simpa using h6
          go_wp2_with (go_at_call 24; (with_reducible refine (P7 _).mono ?_); rintro e w4 ⟨rfl, rfl⟩)
          go_roundw
          case rel => exact ⟨j + 1, _, _, _, _, _, by omega, by go_num, hB3, hrow3⟩
          case measure => simp [intOf]; omega
    | false =>
      clear HC
      have ID := fun v M L w h => dI_any v M L w h
      have IR := fun v M L w h => rI_any v M L w h
      unfold ImgPost at ID IR
      go_wp2_with fail
      refine wp_region_T [⟨0, true, []⟩, ⟨1, true, []⟩, ⟨2, true, []⟩, ⟨4, true, []⟩, ⟨5, true, []⟩, ⟨6, true, []⟩, ⟨3, false, [6]⟩, ⟨7, false, []⟩, ⟨8, false, []⟩, ⟨9, true, []⟩, ⟨10, true, []⟩, ⟨11, true, []⟩, ⟨12, true, []⟩, ⟨14, true, []⟩, ⟨15, true, []⟩, ⟨16, true, []⟩, ⟨13, false, [16]⟩, ⟨17, false, []⟩, ⟨18, false, []⟩, ⟨19, true, []⟩, ⟨20, true, []⟩] (by kernel_rfl) (by kernel_rfl) ?_
      have hB0 := hB.ext (Mod.drew [] _)
      obtain ⟨w0, hw0⟩ : ∃ w, w = wr.drew := ⟨_, rfl⟩
      rw [← hw0] at hB0 ⊢
      clear hw0
      have cx := hB0.bx.cell' (i := 0) rfl
      have cy := hB0.by_.cell' (i := 0) rfl
      have hd0 := (hB0.two 0 (by omega)).d
      have hr0 := (hB0.two 0 (by omega)).r
      iterate 6 (refine wpT_n rfl rfl (fun K hK => ?_); go_wp2_with fail)
      refine wpT_callh rfl rfl (fun K hK => ?_)
      go_wp2_with (go_at_call 54; (with_reducible refine (ID _ _ _ _ hd0).mono ?_); rintro e w1 ⟨v1, dq1, rfl, hR1, hq1, hm1⟩)
      refine ⟨agains_cons rfl (again_load rfl rfl (hm1.block y hB0.by_.lt (by simp)) hB0.by_.kinds) agains_nil, ?_⟩
      have hr1 := hr0.ext hm1
      refine wpT_call rfl rfl (fun K hK => ?_)
      go_wp2_with (go_at_call 64; (with_reducible refine (IR _ _ _ _ hr1).mono ?_); rintro e w2 ⟨v2, dq2, rfl, hR2, hq2, hm2⟩)
      refine wpT_call rfl rfl (fun K hK => ?_)
      go_wp2_with (go_at_call 56; refine (sameRows_yes dq1 dq2 _ _ _ (hR1.ext hm2).r hR2.r (hq1.trans hq2.symm)).mono ?_; rintro e w5 ⟨rfl, hm3⟩)
      have hB5 := ((hB0.ext hm1).ext hm2).ext hm3
      clear cx cy hd0 hr0 hR1 hq1 hm1 hr1 hR2 hq2 hm2 hm3 hB0 hB
      have cx := hB5.bx.cell' (i := 1) rfl
      have cy := hB5.by_.cell' (i := 1) rfl
      have hd0 := (hB5.two 1 (by omega)).d
      have hr0 := (hB5.two 1 (by omega)).r
      refine wpT_n rfl rfl (fun K hK => ?_)
      go_wp2_with fail
      iterate 6 (refine wpT_gq (gi := 9) rfl rfl rfl rfl rfl (fun K hK => ?_); go_wp2_with fail)
      refine wpT_gcallh (gi := 9) rfl rfl rfl rfl (fun K hK => ?_)
      go_wp2_with (go_at_call 54; (with_reducible refine (ID _ _ _ _ hd0).mono ?_); rintro e w1 ⟨v1, dq1, rfl, hR1, hq1, hm1⟩)
      refine ⟨agains_cons rfl (again_load rfl rfl (hm1.block y hB5.by_.lt (by simp)) hB5.by_.kinds) agains_nil, ?_⟩
      have hr1 := hr0.ext hm1
      refine wpT_gcall (gi := 9) rfl rfl rfl rfl (fun K hK => ?_)
      go_wp2_with (go_at_call 64; (with_reducible refine (IR _ _ _ _ hr1).mono ?_); rintro e w2 ⟨v2, dq2, rfl, hR2, hq2, hm2⟩)
      refine wpT_gcall (gi := 9) rfl rfl rfl rfl (fun K hK => ?_)
      go_wp2_with (go_at_call 56; refine (sameRows_yes dq1 dq2 _ _ _ (hR1.ext hm2).r hR2.r (hq1.trans hq2.symm)).mono ?_; rintro e w6 ⟨rfl, hm3⟩)
      iterate 2 (refine wpT_n rfl rfl (fun K hK => ?_); go_wp2_with fail)
      refine wpT_nil ?_
      go_wp2_with fail
      go_ret
      exact ⟨rfl, ((hB5.m0.ext hm1).ext hm2).ext hm3⟩
theorem diskPlays_core (s z : Int) (sv : Value) (os : List Dop) (W : World) (hs : Dops W sv os) (hF : ∀ o ∈ os, o.F.length ≤ 1048576) :
    Calls Try.prog 12 #[.int .i64 s, .int .i64 z, sv] W fun e w' => e = .returned (.bool true) ∧ Mod [] W w' := by
  cases hmay : mayD s z with
  | false => exact diskPlays_no s z sv os W hs hF hmay
  | true =>
    cases hsm : (decide (s ≤ 64) && decide (z ≤ 512)) with
    | false => exact diskPlays_big s z sv W (Sl.one hs.1) hmay hsm
    | true =>
      obtain ⟨h1, _, h2, _⟩ := mayD_parts hmay
      obtain ⟨s', rfl⟩ := Int.eq_ofNat_of_zero_le (show 0 ≤ s by omega)
      obtain ⟨z', rfl⟩ := Int.eq_ofNat_of_zero_le (show 0 ≤ z by omega)
      exact diskPlays_yes s' z' sv os W hs hF hmay hsm
end Go.Proofs.Ytkedbphdflhhlaa
