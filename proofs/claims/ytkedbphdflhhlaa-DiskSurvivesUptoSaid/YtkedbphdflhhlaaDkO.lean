import Derived.Test.YtkedbphdflhhlaaDkL
/-! A call of a disk and of the reference's: they tell the same. -/
set_option linter.unusedVariables false
set_option linter.unusedSimpArgs false
set_option maxRecDepth 100000
namespace Go.Proofs.Ytkedbphdflhhlaa
open Go.RowKit Gw

theorem nil_neq (w : World) : (binOp .neq 57 (.pointer none) (.pointer none)).run Try.prog w = .ok (.bool false) w := by rfl
theorem bool_eql (w : World) : (binOp .eql 4 (.bool false) (.bool false)).run Try.prog w = .ok (.bool true) w ∧ (binOp .eql 4 (.bool true) (.bool true)).run Try.prog w = .ok (.bool true) w := ⟨by rfl, by rfl⟩
/-- how many bytes an operation writes -/
def opN (le : Int) (sz : Nat) : Nat := if pick le 16 = 15 then (pick le 200).toNat else sz
theorem opN_le {le : Int} {sz : Nat} (h : sz ≤ 4096) : opN le sz ≤ 4096 := by
  unfold opN
  split
  · have := pick_lt le 200 (by omega)
    omega
  · exact h
set_option maxHeartbeats 1000000 in
theorem opbytes_any (d n a x le : Int) (fv : Value) (sz : Nat) (w : World) (hsz : sz ≤ 4096) (h1 : -9223372036854775808 ≤ le) (h2 : le ≤ 9223372036854775807) (hf1 : fv.cells = #[fv] ∧ fv.oneCell' = true) :
    Calls Try.prog 86 #[.agg #[.int .i64 d, .int .i64 n, .int .i64 a, .int .i64 x, .int .i64 le, fv], .int .i64 (sz : Nat)] w fun e w' => ∃ v, e = .returned v ∧ Ob w' v (fillL x (opN le sz)) ∧ New w v ∧ Mod [] w w' := by
  have P1 := fun w => pick_any le 16 w h1 h2 (by omega) (by omega)
  have P2 := fun w => pick_any le 200 w h1 h2 (by omega) (by omega)
  have hg := pick_ge le 200
  have hl := opN_le (le := le) hsz
  have F := fun w => fill_any x (opN le sz) w (by omega)
  obtain ⟨N, hN⟩ : ∃ N, N = opN le sz := ⟨_, rfl⟩
  rw [← hN] at F ⊢
  unfold opN at hN
  obtain ⟨k, hk⟩ : ∃ k, k = pick le 16 := ⟨_, rfl⟩
  obtain ⟨j, hj⟩ : ∃ k, k = pick le 200 := ⟨_, rfl⟩
  rw [← hk] at P1 hN
  rw [← hj] at P2 hN hg
  clear hk hj hl
  go_enter Try.func86, Try.ntmps86
  go_wp2_with (with_reducible refine st_box ?_)
  refine StopOp.go rfl fun K hK => ?_
  refine wp_box (v := .agg #[.int .i64 d, .int .i64 n, .int .i64 a, .int .i64 x, .int .i64 le, fv]) (by rfl) ?_
  intro q w1 hq1 hq2 hm1 hQ
  simp only [put_some, List.set_cons_succ, List.set_cons_zero]
  refine hK _ _ ?_
  clear hK K
  have hQ1 : Blk w1 q 89 [.int .i64 d, .int .i64 n, .int .i64 a, .int .i64 x, .int .i64 le, fv] := hQ
  have q4 := hQ1.cell' (i := 4) rfl
  have q3 := hQ1.cell' (i := 3) rfl
  clear hQ hQ1
  by_cases hk : k = 15
  · subst hk
    rw [if_pos rfl] at hN
    have hN' : (N : Int) = j := by omega
    subst hN'
    clear hN
    go_wp2_with (first
                  | (go_at_call 24; (with_reducible refine (P1 _).mono ?_); rintro e w2 ⟨rfl, rfl⟩)
                  | (go_at_call 24; (with_reducible refine (P2 _).mono ?_); rintro e w3 ⟨rfl, rfl⟩)
                  | (go_at_call 36; (with_reducible refine (F _).mono ?_); rintro e w4 ⟨v, rfl, ho, hn, hm⟩))
    go_ret
    exact ⟨v, rfl, ho, fun k hk => Nat.le_trans hm1.size (hn k hk), hm1.ext hm⟩
  · rw [if_neg hk] at hN
    subst hN
    have e1 : (k == 15) = false := by simpa using hk
    clear hk
    go_wp2_with (first
                  | (go_at_call 24; (with_reducible refine (P1 _).mono ?_); rintro e w2 ⟨rfl, rfl⟩)
                  | (go_at_call 36; (with_reducible refine (F _).mono ?_); rintro e w4 ⟨v, rfl, ho, hn, hm⟩))
    go_ret
    exact ⟨v, rfl, ho, fun k hk => Nat.le_trans hm1.size (hn k hk), hm1.ext hm⟩
/-- what a call makes of the disk -/
def oOne (d a x le : Int) (F : List (Int × Int)) (M : Option Dm) : Option Dm :=
  if pick d 7 = 0 then oW a (fillL x (opN le (oSz M))) M else if pick d 7 = 2 then oS M else if pick d 7 = 4 then oC F M else M
theorem oOne_rows (d a x le : Int) (F : List (Int × Int)) (M : Option Dm) : oRows (oOne d a x le F M) ≤ oRows M + 1 := by
  unfold oOne
  split
  · exact oW_rows _ _ _
  · split
    · rw [oS_rows]; omega
    · split
      · rw [oC_rows]; omega
      · omega
/-- two disks that tell the same -/
structure Two (w : World) (v u : Value) (M : Option Dm) (L K : List Nat) : Prop where
  d : Ld w v M L
  r : Lr w u M K
  dj : ∀ b ∈ L, b ∉ K
def TwoP (w : World) (v u : Value) (M : Option Dm) (L K : List Nat) (w' : World) : Prop := ∃ L' K', Two w' v u M L' K' ∧ Mod (L ++ K) w w' ∧ (∀ k ∈ L', k ∈ L ∨ w.heap.size ≤ k) ∧ ∀ k ∈ K', k ∈ K ∨ w.heap.size ≤ k
section
variable {w w0 w1 w2 w' : World} {v u : Value} {M M' : Option Dm} {L K L2 : List Nat}
theorem Two.mod (h : Two w v u M L K) (hm : Mod L2 w w') (hL : ∀ b ∈ L, b ∉ L2) (hK : ∀ b ∈ K, b ∉ L2) : Two w' v u M L K := ⟨h.d.mod hm hL, h.r.mod hm hK, h.dj⟩
theorem Two.ext (h : Two w v u M L K) (hm : Mod [] w w') : Two w' v u M L K := h.mod hm (by simp) (by simp)
theorem Two.same (h : Two w v u M L K) (hm : Mod [] w w') : TwoP w v u M L K w' := ⟨L, K, h.ext hm, hm.weak (by simp), fun k hk => .inl hk, fun k hk => .inl hk⟩
/-- the program's disk has turned, behind it the reference's -/
theorem Two.turn {w1' : World} {L' K' G : List Nat} (h : Two w v u M L K) (hm0 : Mod [] w w0) (hd : Mod L w0 w1) (hL : ∀ k ∈ L', k ∈ L ∨ w0.heap.size ≤ k) (hmid : Mod G w1 w1') (hG : ∀ g ∈ G, w.heap.size ≤ g) (hD : Ld w2 v M' L') (hlt : ∀ k ∈ L', k < w1.heap.size) (hm1 : Mod K w1' w2) (hK : ∀ k ∈ K', k ∈ K ∨ w1'.heap.size ≤ k) (hR : Lr w2 u M' K') (hm2 : Mod [] w2 w') : TwoP w v u M' L K w' := by
  have s0 := hm0.size
  have s1 := hd.size
  have s2 := hmid.size
  refine ⟨L', K', Two.ext ⟨hD, hR, fun b hb hb2 => ?_⟩ hm2, ?_, fun k hk => (hL k hk).imp id fun h => Nat.le_trans s0 h, fun k hk => (hK k hk).imp id fun h => by omega⟩
  · rcases hK b hb2 with h2 | h2
    · rcases hL b hb with h1 | h1
      · exact h.dj b h1 h2
      · have := h.r.lt b h2; omega
    · have := hlt b hb; omega
  · exact ((((hm0.weak (by simp)).then hd (fun g hg => .inl (List.mem_append_left _ hg))).then hmid (fun g hg => .inr (hG g hg))).then hm1 (fun g hg => .inl (List.mem_append_right _ hg))).ext hm2
theorem RowsO.r {base : Nat} {X : List (Value × List UInt8)} (h : RowsO w base v X) : RowsR w v X := ⟨h.ow.sl, fun p hp => Ob.bs (h.fam.ob p hp).1⟩
end
set_option maxRecDepth 1000000 in
set_option maxHeartbeats 8000000 in
theorem one_any (v u : Value) (M : Option Dm) (L K : List Nat) (d n a x le : Int) (fv : Value) (F : List (Int × Int)) (w : World) (h : Two w v u M L K) (hr : oRows M ≤ 1000000)
    (hF : Fs w fv F) (hFl : F.length ≤ 8000000000) (hFL : F ≠ [] → ∀ b ∈ blks fv, b ∉ L) (hFK : F ≠ [] → ∀ b ∈ blks fv, b ∉ K) (d1 : -9223372036854775808 ≤ d) (d2 : d ≤ 9223372036854775807) (l1 : -9223372036854775808 ≤ le) (l2 : le ≤ 9223372036854775807) :
    Calls Try.prog 62 #[v, u, .agg #[.int .i64 d, .int .i64 n, .int .i64 a, .int .i64 x, .int .i64 le, fv]] w fun e w' => e = .returned (.bool true) ∧ TwoP w v u (oOne d a x le F M) L K w' := by
  have P7 := fun w => pick_any d 7 w d1 d2 (by omega) (by omega)
  have pg := pick_ge d 7
  have pl := pick_lt d 7 (by omega)
  have hsz := oSz_le h.d
  have hone := Sl.one hF
  have hfv : ∃ ao cap, fv = .slice ao F.length cap := by obtain ⟨ao, cap, h, _⟩ := hF.form; exact ⟨ao, cap, h⟩
  have hv : ∃ a, v = .pointer a := by
    have := h.d
    cases M with
    | some m => obtain ⟨p, h, _⟩ := this; exact ⟨_, h⟩
    | none => obtain ⟨h | ⟨p, h, _⟩, _⟩ := this <;> exact ⟨_, h⟩
  have hu : ∃ p, u = .pointer (some ⟨p, 0, none⟩) := by
    have := h.r
    cases M with
    | some m => obtain ⟨p, h, _⟩ := this; exact ⟨_, h⟩
    | none => obtain ⟨⟨p, h, _⟩, _⟩ := this; exact ⟨_, h⟩
  obtain ⟨aof, capf, rfl⟩ := hfv
  obtain ⟨av, rfl⟩ := hv
  obtain ⟨pu, rfl⟩ := hu
  obtain ⟨R, hR⟩ : ∃ R, R = oOne d a x le F M := ⟨_, rfl⟩
  rw [← hR]
  unfold oOne at hR
  obtain ⟨k, hk⟩ : ∃ k, k = pick d 7 := ⟨_, rfl⟩
  rw [← hk] at P7 pg pl hR
  clear hk d1 d2
  have HR := Lib.hid hR
  clear hR
  go_enter Try.func62, Try.ntmps62
  go_wp2_with (with_reducible refine st_box ?_)
  refine StopOp.go rfl fun K hK => ?_
  refine wp_box (v := .agg #[.int .i64 d, .int .i64 n, .int .i64 a, .int .i64 x, .int .i64 le, .slice aof F.length capf]) (by rfl) ?_
  intro q w1 hq1 hq2 hm1 hQ
  simp only [put_some, List.set_cons_succ, List.set_cons_zero]
  refine hK _ _ ?_
  clear hK K
  have hQ1 : Blk w1 q 89 [.int .i64 d, .int .i64 n, .int .i64 a, .int .i64 x, .int .i64 le, .slice aof F.length capf] := hQ
  have h1 := h.ext hm1
  have hqL : q ∉ L := fun hh => by have := h.d.lt q hh; omega
  have hqK : q ∉ K := fun hh => by have := h.r.lt q hh; omega
  have hF1 : Fs w1 _ F := Sl.ext hF hm1
  have q0 := hQ1.cell' (i := 0) rfl
  clear hQ
  have hcase : k = 0 ∨ k = 1 ∨ k = 2 ∨ k = 3 ∨ k = 4 ∨ k = 5 ∨ k = 6 := by omega
  have P7' := P7
  rcases hcase with rfl | rfl | rfl | rfl | rfl | rfl | rfl
  · -- Write
    have hRR : R = oW a (fillL x (opN le (oSz M))) M := by rw [HR.out, if_pos rfl]
    have SZ := fun w h => rSz_any (.pointer (some ⟨pu, 0, none⟩)) M K w h
    have OB := fun w => opbytes_any d n a x le (.slice aof F.length capf) (oSz M) w hsz l1 l2 hone
    have hNl := opN_le (le := le) hsz
    obtain ⟨B, hB⟩ : ∃ B, B = fillL x (opN le (oSz M)) := ⟨_, rfl⟩
    have hBl : B.length ≤ 4096 := by rw [hB, fillL_len]; exact hNl
    rw [← hB] at OB hRR
    obtain ⟨Z, hZ⟩ : ∃ Z, Z = oSz M := ⟨_, rfl⟩
    rw [← hZ] at SZ OB
    obtain ⟨E, hE⟩ : ∃ E, E = oWE a B.length M := ⟨_, rfl⟩
    have WD := fun w bv L h hb => dW_any (.pointer av) bv a B M L w h hb hr
    have WR := fun w bv K h hb => rW_any (.pointer (some ⟨pu, 0, none⟩)) bv a B M K w h hb hr
    rw [← hE, ← hRR] at WD WR
    clear hRR hB hZ hE hNl HR
    go_wp2_with (go_at_call 24; (with_reducible refine (P7 _).mono ?_); rintro e w2 ⟨rfl, rfl⟩)
    refine wp_region_T [⟨0, true, []⟩, ⟨1, true, []⟩, ⟨2, false, [0]⟩, ⟨3, false, []⟩, ⟨4, true, []⟩] (by kernel_rfl) (by kernel_rfl) ?_
    have hmA := hm1.ext (Mod.drew [] _)
    have h2 := h1.ext (Mod.drew [] _)
    have hQ2 := hQ1.ext (Mod.drew [] w1)
    obtain ⟨w2, hw2⟩ : ∃ x, x = w1.drew := ⟨_, rfl⟩
    rw [← hw2] at hmA h2 hQ2 ⊢
    clear hw2 q0
    have q0 := hQ2.cell' (i := 0) rfl
    have q1 := hQ2.cell' (i := 1) rfl
    have q2 := hQ2.cell' (i := 2) rfl
    have q3 := hQ2.cell' (i := 3) rfl
    have q4 := hQ2.cell' (i := 4) rfl
    have q5 := hQ2.cell' (i := 5) rfl
    iterate 2 (refine wpT_n rfl rfl (fun K hK => ?_); go_wp2_with fail)
    refine wpT_callh rfl rfl (fun K hK => ?_)
    have hr2 := h2.r
    go_wp2_with (go_at_call 87; (with_reducible refine (SZ _ hr2).mono ?_); rintro e w3 ⟨rfl, rfl⟩)
    refine ⟨agains_same, ?_⟩
    refine wpT_call rfl rfl (fun K hK => ?_)
    go_wp2_with (go_at_call 86; (with_reducible refine (OB _).mono ?_); rintro e w3 ⟨vb, rfl, hob, hnb, hm3⟩)
    obtain ⟨aob, capb, rfl, _, _⟩ := Bs.form (Ob.bs hob)
    have h3 := h2.ext hm3
    have hQ3 := hQ2.ext hm3
    clear q0 q1 q2 q3 q4 q5
    refine wpT_n rfl rfl (fun K hK => ?_)
    go_wp2_with fail
    refine wpT_nil ?_
    go_wp2_with fail
    have z2 := hQ3.cell' (i := 2) rfl
    go_wp2_with (first
                  | (go_at_call 30; refine (lent_any B _ _ (Ob.bs hob) (by omega)).mono ?_; rintro e w4 ⟨g, cap, rfl, hg, hlt, hm4⟩; have h4 := h3.ext hm4; have hQ4 := hQ3.ext hm4; have hob4 := hob.ext hm4; have hd4 := h4.d; have hbs4 := hlt.bs; have y2 := hQ4.cell' (i := 2) rfl; have hgL : g ∉ L := (fun hh => by have := h3.d.lt g hh; omega); have hgK : g ∉ K := (fun hh => by have := h3.r.lt g hh; omega); have hgq : g ≠ q := (fun hh => by have := hQ3.lt; omega); have hgb : ∀ b ∈ blks (.slice aob B.length capb), b ≠ g := (fun b hb hh => by have := Ow.lt hob b hb; omega); have hg4 : g < w4.heap.size := (by obtain ⟨_, hb, _⟩ := hlt; exact hb.lt))
                  | (go_at_call 37; (with_reducible refine (WD _ _ _ hd4 hbs4).mono ?_); rintro e w5 ⟨rfl, L5, hD5, hm5, hL5⟩; have hlt5 := hlt.mod hm5 hgL; have hob5 : Ob w5 _ B := Ow.mod hob4 hm5 (new_out hnb h2.d.lt); have hbs5 := Ob.bs hob5; have hQ5 := hQ4.mod hm5 hqL; have hR5 := h4.r.mod hm5 (fun b hb hb2 => h.dj b hb2 hb); have hgL5 : g ∉ L5 := (fun hh => (hL5 g hh).elim hgL (fun h => by omega)); have hqL5 : q ∉ L5 := (fun hh => (hL5 q hh).elim hqL (fun h => by have := hQ3.lt; have := hm4.size; omega)))
                  | (go_at_call 31; refine (kept_any g cap B _ _ hlt5 hbs5).mono ?_; rintro e w6 ⟨rfl, hm6⟩; have hlt6 := hlt5.ext hm6)
                  | (go_at_call 32; refine (over_any g cap B _ hlt6 (by omega)).mono ?_; rintro e w7 ⟨rfl, hm7⟩; have hR7 := (hR5.ext hm6).mod hm7 (fun b hb hh => hgK (by have e : b = g := (by simpa using hh); exact e ▸ hb)); have hob7 : Ob w7 _ B := Ow.mod (hob5.ext hm6) hm7 (fun b hb hh => hgb b hb (by simpa using hh)); have hbs7 := Ob.bs hob7; have hQ7 := (hQ5.ext hm6).mod hm7 (by simpa using hgq.symm); have y3 := hQ7.cell' (i := 2) rfl)
                  | (go_at_call 88; (with_reducible refine (WR _ _ _ hR7 hbs7).mono ?_); rintro e w8 ⟨rfl, K8, hR8, hm8, hK8⟩))
    go_ret
    have hD7 := (hD5.ext hm6).mod hm7 (fun b hb hh => hgL5 (by have e : b = g := (by simpa using hh); exact e ▸ hb))
    have hdj : ∀ b ∈ L5, b ∉ K := fun b hb hk => (hL5 b hb).elim (fun h1 => h.dj b h1 hk) (fun h1 => by have := h4.r.lt b hk; omega)
    refine ⟨rfl, h.turn ((hmA.ext hm3).ext hm4) hm5 hL5 ((hm6.weak (by simp)).trans hm7) (by simp; have := ((hmA.ext hm3)).size; omega) (hD7.mod hm8 hdj) hD5.lt hm8 (fun k hk => hK8 k hk) hR8 (Mod.refl _ _)⟩
  · -- Read
    have hRR : R = M := by rw [HR.out, if_neg (by omega), if_neg (by omega), if_neg (by omega)]
    have RD := fun w L h => dR_any (.pointer av) a M L w h
    have RR := fun w K h => rR_any (.pointer (some ⟨pu, 0, none⟩)) a M K w h
    obtain ⟨E, hE⟩ : ∃ E, E = oRE a M := ⟨_, rfl⟩
    obtain ⟨B, hB⟩ : ∃ E, E = oR a M := ⟨_, rfl⟩
    rw [← hE, ← hB] at RD RR
    have hd1 := h1.d
    have q2 := hQ1.cell' (i := 2) rfl
    clear hE hB HR
    go_wp2_with (first
                  | (go_at_call 24; (with_reducible refine (P7 _).mono ?_); rintro e w2 ⟨rfl, rfl⟩)
                  | (go_at_call 40; (with_reducible refine (RD _ _ hd1).mono ?_); rintro e w3 ⟨v3, rfl, ho3, hn3, hm3⟩; have hr3 := (h1.ext hm3).r; have hQ3 := hQ1.ext hm3; have y2 := hQ3.cell' (i := 2) rfl; obtain ⟨ao3, cap3, rfl, _, _⟩ := Bs.form (Ob.bs ho3))
                  | (go_at_call 89; (with_reducible refine (RR _ _ hr3).mono ?_); rintro e w4 ⟨v4, rfl, ho4, hn4, hm4⟩; obtain ⟨ao4, cap4, rfl, _, _⟩ := Bs.form (Ob.bs ho4); have hs3 := Ob.bs (ho3.ext hm4); have hs4 := Ob.bs ho4)
                  | (go_at_call 27; refine (same_yes _ _ _ _ _ hs3 hs4 rfl).mono ?_; rintro e w5 ⟨rfl, hm5⟩))
    go_ret
    exact ⟨rfl, hRR ▸ h.same (((hm1.ext hm3).ext hm4).ext hm5)⟩
  · -- Sync
    have hRR : R = oS M := by rw [HR.out, if_neg (by omega), if_pos rfl]
    have SD := fun w L h => dS_any (.pointer av) M L w h hr
    have SR := fun w K h => rS_any (.pointer (some ⟨pu, 0, none⟩)) M K w h hr
    obtain ⟨E, hE⟩ : ∃ E, E = oSE M := ⟨_, rfl⟩
    rw [← hE, ← hRR] at SD SR
    have hd1 := h1.d
    clear hE HR hRR
    go_wp2_with (first
                  | (go_at_call 24; (with_reducible refine (P7 _).mono ?_); rintro e w2 ⟨rfl, rfl⟩)
                  | (go_at_call 38; (with_reducible refine (SD _ _ hd1).mono ?_); rintro e w3 ⟨rfl, L3, hD3, hm3, hL3⟩; have hr3 := h1.r.mod hm3 (fun b hb hb2 => h.dj b hb2 hb))
                  | (go_at_call 90; (with_reducible refine (SR _ _ hr3).mono ?_); rintro e w4 ⟨rfl, K4, hR4, hm4, hK4⟩))
    go_ret
    have hdj : ∀ b ∈ L3, b ∉ K := fun b hb hk => (hL3 b hb).elim (fun h2 => h.dj b h2 hk) (fun h2 => by have := h1.r.lt b hk; omega)
    exact ⟨rfl, h.turn hm1 hm3 hL3 (Mod.refl [] _) (by simp) (hD3.mod hm4 hdj) hD3.lt hm4 hK4 hR4 (Mod.refl _ _)⟩
  · -- Waiting, Sectors, Size
    have hRR : R = M := by rw [HR.out, if_neg (by omega), if_neg (by omega), if_neg (by omega)]
    have A1 := fun w L h => dWt_any (.pointer av) M L w h
    have A2 := fun w L h => dSec_any (.pointer av) M L w h
    have A3 := fun w L h => dSz_any (.pointer av) M L w h
    have B1 := fun w L h => rWt_any (.pointer (some ⟨pu, 0, none⟩)) M L w h
    have B2 := fun w L h => rSec_any (.pointer (some ⟨pu, 0, none⟩)) M L w h
    have B3 := fun w L h => rSz_any (.pointer (some ⟨pu, 0, none⟩)) M L w h
    have hd1 := h1.d
    have hr1 := h1.r
    clear HR
    go_wp2_with (first
                  | (go_at_call 24; (with_reducible refine (P7 _).mono ?_); rintro e w2 ⟨rfl, rfl⟩)
                  | (go_at_call 55; (with_reducible refine (A1 _ _ hd1).mono ?_); rintro e w3 ⟨rfl, rfl⟩)
                  | (go_at_call 65; (with_reducible refine (A2 _ _ hd1).mono ?_); rintro e w3 ⟨rfl, rfl⟩)
                  | (go_at_call 66; (with_reducible refine (A3 _ _ hd1).mono ?_); rintro e w3 ⟨rfl, rfl⟩)
                  | (go_at_call 91; (with_reducible refine (B1 _ _ hr1).mono ?_); rintro e w3 ⟨rfl, rfl⟩)
                  | (go_at_call 92; (with_reducible refine (B2 _ _ hr1).mono ?_); rintro e w3 ⟨rfl, rfl⟩)
                  | (go_at_call 87; (with_reducible refine (B3 _ _ hr1).mono ?_); rintro e w3 ⟨rfl, rfl⟩))
    go_ret
    exact ⟨rfl, hRR ▸ h.same hm1⟩
  · -- Crash
    have hRR : R = oC F M := by rw [HR.out, if_neg (by omega), if_neg (by omega), if_pos rfl]
    have CD := fun w fv L h hF hFL => dC_any (.pointer av) fv F M L w h hr hF hFL
    have CR := fun w fv K h hF hFK => rC_any (.pointer (some ⟨pu, 0, none⟩)) fv F M K w h hr hF hFK
    obtain ⟨E, hE⟩ : ∃ E, E = oSE M := ⟨_, rfl⟩
    rw [← hE, ← hRR] at CD CR
    have q5 := hQ1.cell' (i := 5) rfl
    clear hE HR hRR
    go_wp2_with (first
                  | (go_at_call 24; (with_reducible refine (P7 _).mono ?_); rintro e w2 ⟨rfl, rfl⟩)
                  | (go_at_call 93; refine (lentF_any F _ _ hF1 hFl).mono ?_; rintro e w3 ⟨g, cap, rfl, hg, hlt, hm3⟩; have h3 := h1.ext hm3; have hd3 := h3.d; have hF3 := hlt.fs; have hg3 : ∀ b ∈ blks (.slice (some ⟨g, 0, none⟩) F.length cap), b ∉ L := (fun b hb hh => by have := h1.d.lt b hh; simp [blks] at hb; omega); have hgL : g ∉ L := hg3 g (by simp [blks]); have hgK : g ∉ K := (fun hh => by have := h1.r.lt g hh; omega); have hQ3 := hQ1.ext hm3)
                  | (go_at_call 39; (with_reducible refine (CD _ _ _ hd3 hF3 (fun _ => hg3)).mono ?_); rintro e w4 ⟨rfl, L4, hD4, hm4, hL4⟩; have hr4 := h3.r.mod hm4 (fun b hb hb2 => h.dj b hb2 hb); have hF4 : Fs w4 _ F := Fs.far (Sl.ext hF1 hm3) hm4 hFL; have hQ4 := hQ3.mod hm4 hqL; have y5 := hQ4.cell' (i := 5) rfl; have hlt4 := hlt.mod hm4 hgL)
                  | (go_at_call 94; (with_reducible refine (CR _ _ _ hr4 hF4 hFK).mono ?_); rintro e w5 ⟨rfl, K5, hR5, hm5, hK5⟩; have hlt5 := hlt4.mod hm5 hgK; have hF5 : Fs w5 _ F := Fs.far hF4 hm5 hFK; have hQ5 := hQ4.mod hm5 hqK; have x5 := hQ5.cell' (i := 5) rfl)
                  | (go_at_call 95; refine (keptF_any g cap F _ _ hlt5 hF5).mono ?_; rintro e w6 ⟨rfl, hm6⟩))
    go_ret
    have hdj : ∀ b ∈ L4, b ∉ K := fun b hb hk => (hL4 b hb).elim (fun h2 => h.dj b h2 hk) (fun h2 => by have := h3.r.lt b hk; omega)
    exact ⟨rfl, h.turn (hm1.ext hm3) hm4 hL4 (Mod.refl [] _) (by simp) (hD4.mod hm5 hdj) hD4.lt hm5 hK5 hR5 hm6⟩
  · -- Image
    have hRR : R = M := by rw [HR.out, if_neg (by omega), if_neg (by omega), if_neg (by omega)]
    have ID := fun w L h => dI_any (.pointer av) M L w h
    have IR := fun w L h => rI_any (.pointer (some ⟨pu, 0, none⟩)) M L w h
    unfold ImgPost at ID IR
    have hd1 := h1.d
    clear HR
    go_wp2_with (first
                  | (go_at_call 24; (with_reducible refine (P7 _).mono ?_); rintro e w2 ⟨rfl, rfl⟩)
                  | (go_at_call 54; (with_reducible refine (ID _ _ hd1).mono ?_); rintro e w3 ⟨v3, dq3, rfl, hR3, hq3, hm3⟩; have hr3 := (h1.ext hm3).r)
                  | (go_at_call 64; (with_reducible refine (IR _ _ hr3).mono ?_); rintro e w4 ⟨v4, dq4, rfl, hR4, hq4, hm4⟩)
                  | (go_at_call 56; refine (sameRows_yes dq3 dq4 _ _ _ (hR3.ext hm4).r hR4.r (hq3.trans hq4.symm)).mono ?_; rintro e w5 ⟨rfl, hm5⟩))
    go_ret
    exact ⟨rfl, hRR ▸ h.same (((hm1.ext hm3).ext hm4).ext hm5)⟩
  · -- Copy
    have hRR : R = M := by rw [HR.out, if_neg (by omega), if_neg (by omega), if_neg (by omega)]
    have CD := fun w L h => dCp_any (.pointer av) M L w h hr
    have SR := fun w L h => rSec_any (.pointer (some ⟨pu, 0, none⟩)) M L w h
    have hd1 := h1.d
    have hsec : (M = none ∧ oSecs M = 0) ∨ (M ≠ none ∧ 0 < oSecs M) := by
      cases M with
      | none => exact .inl ⟨rfl, rfl⟩
      | some m => obtain ⟨_, _, _, hok⟩ := hd1; exact .inr ⟨by simp, hok.n1⟩
    obtain ⟨S, hS⟩ : ∃ S, S = oSecs M := ⟨_, rfl⟩
    rw [← hS] at hsec SR
    clear hS HR
    rcases hsec with ⟨hM, rfl⟩ | ⟨hM, hS0⟩
    · have HM := Lib.hid hM
      have SR0 : ∀ w L, Lr w (.pointer (some ⟨pu, 0, none⟩)) M L → Calls Try.prog 92 #[.pointer (some ⟨pu, 0, none⟩)] w fun e w' => e = .returned (.int .i64 0) ∧ w = w' := SR
      clear hM SR
      have hnn := nil_neq
      have hbe := fun w => (bool_eql w).1
      go_wp2_with (first
                    | (go_at_call 24; (with_reducible refine (P7 _).mono ?_); rintro e w2 ⟨rfl, rfl⟩)
                    | (go_at_call 57; (with_reducible refine (CD _ _ hd1).mono ?_); rintro e w3 ⟨b, L3, rfl, hD3, hL3, hm3, hb⟩; obtain rfl : b = none := hb.2 HM.out; have hr3 := (h1.ext hm3).r)
                    | (go_at_call 92; (with_reducible refine (SR0 _ _ hr3).mono ?_); rintro e w4 ⟨rfl, rfl⟩))
      go_ret
      exact ⟨rfl, hRR ▸ h.same (hm1.ext hm3)⟩
    · have HM := Lib.hid hM
      clear hM
      have hS1 : (0 : Int) < S := by omega
      have hbe := fun w => (bool_eql w).2
      go_wp2_with (first
                    | (go_at_call 24; (with_reducible refine (P7 _).mono ?_); rintro e w2 ⟨rfl, rfl⟩)
                    | (go_at_call 57; (with_reducible refine (CD _ _ hd1).mono ?_); rintro e w3 ⟨b, L3, rfl, hD3, hL3, hm3, hb⟩; obtain ⟨b, rfl⟩ := Option.ne_none_iff_exists'.1 (fun hh => HM.out (hb.1 hh)); have hr3 := (h1.ext hm3).r)
                    | (go_at_call 92; (with_reducible refine (SR _ _ hr3).mono ?_); rintro e w4 ⟨rfl, rfl⟩))
      go_ret
      exact ⟨rfl, hRR ▸ h.same (hm1.ext hm3)⟩
end Go.Proofs.Ytkedbphdflhhlaa
