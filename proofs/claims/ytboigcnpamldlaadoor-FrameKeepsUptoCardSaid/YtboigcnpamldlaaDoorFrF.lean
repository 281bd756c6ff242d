import Derived.Test.YtboigcnpamldlaaDoorFrB
import Derived.Test.YtboigcnpamldlaaDoorWrA
import Derived.Deep.DeepCutAuto
/-! Frames: the reference's Put. -/
set_option linter.unusedVariables false
set_option linter.unusedSimpArgs false
set_option maxRecDepth 100000
namespace Go.Proofs.YtboigcnpamldlaaDoor
open Go.RowKit Gw

theorem Ob.onx {w : World} {v : Value} {l : List UInt8} {n : Nat} (h : Ob w v l) (hn : l.length = n) : Ow w 5 1 v n (bv l) := by
  subst hn
  exact h
theorem Bs.onx {w : World} {v : Value} {l : List UInt8} {n : Nat} (h : Bs w v l) (hn : l.length = n) : Sl w 1 v n (bv l) := by
  subst hn
  exact h
theorem Ob.of_onx {w : World} {v : Value} {l : List UInt8} {n : Nat} (h : Ow w 5 1 v n (bv l)) (hn : l.length = n) : Ob w v l := by
  subst hn
  exact h
set_option maxRecDepth 1000000 in
set_option maxHeartbeats 4000000 in
theorem rfput_any (e s : Nat) (l : List UInt8) (v : Value) (w : World) (hv : Bs w v l) (he : e < 18446744073709551616) (hs : s < 18446744073709551616) :
    Calls Tryd.prog 13 #[.agg #[.int .u64 (e : Nat), .int .u64 (s : Nat), v]] w (PutF e s l w) := by
  obtain ⟨ao, cap, rfl, hc1, hc2⟩ := hv.form
  unfold PutF
  by_cases h32 : 32 < l.length
  · rw [if_pos h32, if_pos h32]
    have y1 : (32 : Int) < l.length := by omega
    go_enter Tryd.func13, Tryd.ntmps13
    go_wp2_with (with_reducible refine st_box ?_)
    refine StopOp.go rfl fun K hK => ?_
    refine wp_box (v := .agg #[.int .u64 (e : Nat), .int .u64 (s : Nat), .slice ao l.length cap]) (by rfl) ?_
    intro g w1 hg1 hg2 hm1 hB1
    simp only [put_some, List.set_cons_succ, List.set_cons_zero]
    refine hK _ _ ?_
    clear hK K
    have hB : Blk w1 g 25 [.int .u64 (e : Nat), .int .u64 (s : Nat), .slice ao l.length cap] := hB1
    have b2 := hB.cell' (i := 2) rfl
    go_wp2_with fail
    go_ret2
    exact ⟨_, rfl, Ob.nil _, by simp [New, blks], hm1⟩
  · rw [if_neg h32, if_neg h32]
    have y1 : (l.length : Int) ≤ 32 := by omega
    have z1 : IntKind.u64.wrap (l.length : Int) = l.length := IntWalk.u64_in _ (by omega)
    have hF : frame e s l = frB e s l ++ low (crcS (frB e s l)) 4 := rfl
    have hcl := crcS_lt (frB e s l)
    have hBl : (frB e s l).length = 18 + l.length := by unfold frB; simp only [List.length_append, low_length]; try omega
    obtain ⟨B, hBb⟩ : ∃ B, B = frB e s l := ⟨_, rfl⟩
    rw [← hBb] at hF hcl hBl
    unfold frB at hBb
    have HBB := Lib.hid hBb
    have HBL := Lib.hid hBl
    have HF := Lib.hid hF
    obtain ⟨FR, hFR⟩ : ∃ x, x = frame e s l := ⟨_, rfl⟩
    rw [← hFR] at HF ⊢
    clear hBb hF hFR hBl
    obtain ⟨cs, hcs⟩ : ∃ x, x = crcS B := ⟨_, rfl⟩
    rw [← hcs] at hcl HF
    have z2 : IntKind.u64.wrap (cs : Int) = cs := IntWalk.u64_in _ (by omega)
    have y2 : (cs : Int) ≤ 4294967295 := by omega
    have y3 : (0 : Int) ≤ cs := by omega
    have RS := fun w v h => rsum_any B v w h
    rw [← hcs] at RS
    clear hcs
    go_enter Tryd.func13, Tryd.ntmps13
    go_wp2_with (with_reducible refine st_box ?_)
    refine StopOp.go rfl fun K hK => ?_
    refine wp_box (v := .agg #[.int .u64 (e : Nat), .int .u64 (s : Nat), .slice ao l.length cap]) (by rfl) ?_
    intro g w1 hg1 hg2 hm1 hB1
    simp only [put_some, List.set_cons_succ, List.set_cons_zero]
    refine hK _ _ ?_
    clear hK K
    have hB : Blk w1 g 25 [.int .u64 (e : Nat), .int .u64 (s : Nat), .slice ao l.length cap] := hB1
    have b0 := hB.cell' (i := 0) rfl
    have b1 := hB.cell' (i := 1) rfl
    have b2 := hB.cell' (i := 2) rfl
    clear hB1
    go_wp2_with (first
                  | (with_reducible refine st_append ?_)
                  | (go_at_call 41; refine (refNumber_any l.length 2 _ (by omega) (by omega)).mono ?_; rintro e x5 ⟨y5, rfl, hy5, hny5, hmy5⟩; obtain ⟨ay5, cy5, rfl, _, _⟩ := Ob.nx hy5 (low_length _ _)))
    have hyx5 : Sl x5 1 _ 2 (bv (low l.length 2)) := Bs.onx hy5.bs (low_length _ _)
    refine StopOp.go rfl fun K hK => ?_
    refine wp_append_ow stB (by rfl) (by rfl) (Ow.nil x5 5 1) hyx5 (bv_one _) (by omega) (by omega) ?_
    intro v5 w5 hp5 hm5 hb5
    simp only [put_some, List.set_cons_succ, List.set_cons_zero]
    refine hK _ _ ?_
    clear hK K
    rw [List.nil_append, Nat.zero_add] at hp5
    have hM5 : Mod [] w w5 := (hm1.ext hmy5).fresh hm5 (by simp [blks])
    have hN5 : New w v5 := fun k hk => (hb5 k hk).elim (by simp [blks]) fun h => by have := hm1.size; have := hmy5.size; omega
    have ho5 : Ob w5 v5 (low l.length 2) := Ob.of_onx hp5 (low_length _ _)
    obtain ⟨ao5, cap5, rfl, _, _⟩ := Ob.nx ho5 (low_length _ _)
    have hB5 := (hB.ext hmy5).mod hm5 (by simp [blks])
    clear b0 b1 b2
    have d0 := hB5.cell' (i := 0) rfl
    have d1 := hB5.cell' (i := 1) rfl
    have d2 := hB5.cell' (i := 2) rfl
    clear hB hyx5 hy5 hny5 hmy5 hm5 hb5 hp5 hm1
    go_wp2_with (first
                  | (with_reducible refine st_append ?_)
                  | (go_at_call 41; refine (refNumber_any e 8 _ (by omega) (by omega)).mono ?_; rintro e x6 ⟨y6, rfl, hy6, hny6, hmy6⟩; obtain ⟨ay6, cy6, rfl, _, _⟩ := Ob.nx hy6 (low_length _ _)))
    have hpx6 := ho5.ext hmy6
    have hox6 : Ow x6 5 1 _ 2 (bv (low l.length 2)) := hpx6.onx (low_length _ _)
    have hyx6 : Sl x6 1 _ 8 (bv (low e 8)) := Bs.onx hy6.bs (low_length _ _)
    refine StopOp.go rfl fun K hK => ?_
    refine wp_append_ow stB (by rfl) (by rfl) hox6 hyx6 (bv_one _) (by omega) (by omega) ?_
    intro v6 w6 hp6 hm6 hb6
    simp only [put_some, List.set_cons_succ, List.set_cons_zero]
    refine hK _ _ ?_
    clear hK K
    rw [← bv_append] at hp6
    have hN6 : New w v6 := fun k hk => (hb6 k hk).elim (hN5 k) fun h => by have := hM5.size; have := hmy6.size; omega
    have hM6 : Mod [] w w6 := (hM5.ext hmy6).fresh hm6 hN5
    have ho6 : Ob w6 v6 (low l.length 2 ++ low e 8) := Ob.of_onx hp6 (by simp [low_length])
    obtain ⟨ao6, cap6, rfl, _, _⟩ := Ob.nx (n := 10) ho6 (by simp [low_length])
    have hB6 := (hB5.ext hmy6).mod hm6 (Ow.ne hpx6 (hB5.ext hmy6) (by decide))
    clear d0 d1 d2
    have f0 := hB6.cell' (i := 0) rfl
    have f1 := hB6.cell' (i := 1) rfl
    have f2 := hB6.cell' (i := 2) rfl
    clear hB5 hpx6 hox6 hyx6 hy6 hny6 hmy6 hm6 hb6 hp6 hN5 hM5 ho5
    go_wp2_with (first
                  | (with_reducible refine st_append ?_)
                  | (go_at_call 41; refine (refNumber_any s 8 _ (by omega) (by omega)).mono ?_; rintro e x7 ⟨y7, rfl, hy7, hny7, hmy7⟩; obtain ⟨ay7, cy7, rfl, _, _⟩ := Ob.nx hy7 (low_length _ _)))
    have hpx7 := ho6.ext hmy7
    have hox7 : Ow x7 5 1 _ 10 (bv (low l.length 2 ++ low e 8)) := hpx7.onx (by simp [low_length])
    have hyx7 : Sl x7 1 _ 8 (bv (low s 8)) := Bs.onx hy7.bs (low_length _ _)
    refine StopOp.go rfl fun K hK => ?_
    refine wp_append_ow stB (by rfl) (by rfl) hox7 hyx7 (bv_one _) (by omega) (by omega) ?_
    intro v7 w7 hp7 hm7 hb7
    simp only [put_some, List.set_cons_succ, List.set_cons_zero]
    refine hK _ _ ?_
    clear hK K
    rw [← bv_append] at hp7
    have hN7 : New w v7 := fun k hk => (hb7 k hk).elim (hN6 k) fun h => by have := hM6.size; have := hmy7.size; omega
    have hM7 : Mod [] w w7 := (hM6.ext hmy7).fresh hm7 hN6
    have ho7 : Ob w7 v7 (low l.length 2 ++ low e 8 ++ low s 8) := Ob.of_onx hp7 (by simp [low_length])
    obtain ⟨ao7, cap7, rfl, _, _⟩ := Ob.nx (n := 18) ho7 (by simp [low_length])
    have hB7 := (hB6.ext hmy7).mod hm7 (Ow.ne hpx7 (hB6.ext hmy7) (by decide))
    clear f0 f1 f2
    have h0 := hB7.cell' (i := 0) rfl
    have h1 := hB7.cell' (i := 1) rfl
    have h2 := hB7.cell' (i := 2) rfl
    clear hB6 hpx7 hox7 hyx7 hy7 hny7 hmy7 hm7 hb7 hp7 hN6 hM6 ho6
    go_wp2_with (with_reducible refine st_append ?_)
    have hv7 := hv.ext hM7
    have hox8 : Ow w7 5 1 _ 18 (bv (low l.length 2 ++ low e 8 ++ low s 8)) := ho7.onx (by simp [low_length])
    refine StopOp.go rfl fun K hK => ?_
    refine wp_append_ow stB (by rfl) (by rfl) hox8 hv7 (bv_one _) (by omega) (by omega) ?_
    intro v8 w8 hp8 hm8 hb8
    simp only [put_some, List.set_cons_succ, List.set_cons_zero]
    refine hK _ _ ?_
    clear hK K
    rw [← bv_append, ← HBB.out] at hp8
    have hN8 : New w v8 := fun k hk => (hb8 k hk).elim (hN7 k) fun h => by have := hM7.size; omega
    have hM8 : Mod [] w w8 := hM7.fresh hm8 hN7
    have ho8 : Ob w8 v8 B := Ob.of_onx hp8 HBL.out
    obtain ⟨ao8, cap8, rfl, _, _⟩ := Ob.nx ho8 HBL.out
    clear h0 h1 h2 hB7 hox8 hm8 hb8 hp8 hN7 hM7 ho7 hv7
    have hb8 := ho8.bs
    go_wp2_with (first
                  | (with_reducible refine st_append ?_)
                  | (go_at_call 42; refine (RS _ _ hb8).mono ?_; rintro e x9 ⟨rfl, rfl⟩)
                  | (go_at_call 41; refine (refNumber_any cs 4 _ (by omega) (by omega)).mono ?_; rintro e x9 ⟨y9, rfl, hy9, hny9, hmy9⟩; obtain ⟨ay9, cy9, rfl, _, _⟩ := Ob.nx hy9 (low_length _ _)))
    have hpx9 := ho8.ext hmy9
    have hox9 : Ow x9 5 1 _ (18 + l.length) (bv B) := hpx9.onx HBL.out
    have hyx9 : Sl x9 1 _ 4 (bv (low cs 4)) := Bs.onx hy9.bs (low_length _ _)
    refine StopOp.go rfl fun K hK => ?_
    refine wp_append_ow stB (by rfl) (by rfl) hox9 hyx9 (bv_one _) (by omega) (by omega) ?_
    intro v9 w9 hp9 hm9 hb9
    simp only [put_some, List.set_cons_succ, List.set_cons_zero]
    refine hK _ _ ?_
    clear hK K
    rw [← bv_append, ← HF.out] at hp9
    have hN9 : New w v9 := fun k hk => (hb9 k hk).elim (hN8 k) fun h => by have := hM8.size; have := hmy9.size; omega
    have hM9 : Mod [] w w9 := (hM8.ext hmy9).fresh hm9 hN8
    have hFl : FR.length = 18 + l.length + 4 := by rw [HF.out, List.length_append, HBL.out, low_length]
    have ho9 : Ob w9 v9 FR := Ob.of_onx hp9 hFl
    obtain ⟨ao9, cap9, rfl, _, _⟩ := Ob.nx ho9 hFl
    go_wp2_with fail
    go_ret2
    exact ⟨_, rfl, ho9, hN9, hM9⟩
end Go.Proofs.YtboigcnpamldlaaDoor
