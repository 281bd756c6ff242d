import Derived.Test.YtkedbphdflhhlaaWrA
import Derived.Test.YtkedbphdflhhlaaOctF
set_option linter.unusedVariables false
set_option linter.unusedSimpArgs false
set_option maxRecDepth 100000
namespace Go.Proofs.Ytkedbphdflhhlaa
open Go.RowKit Gw

theorem val_drop (l : List UInt8) (k : Nat) (hk : k < l.length) : val (l.drop k) = val (l.drop (k + 1)) * 256 + l[k].toNat := by
  rw [List.drop_eq_getElem_cons hk, val_cons]; omega
set_option maxHeartbeats 1000000 in
theorem refValue_any (l : List UInt8) (v : Value) (w : World) (hv : Bs w v l) (hl : l.length ≤ 8) :
    Calls Try.prog 84 #[v] w fun e w' => e = .returned (.int .u64 (val l)) ∧ w = w' := by
  obtain ⟨ao, cap, rfl, hc1, hc2⟩ := hv.form
  go_enter Try.func84, Try.ntmps84
  go_wp2_with fail
  go_loop [3, 4] (fun n i => ∃ k : Nat, k ≤ l.length ∧ n = .int .u64 (val (l.drop k)) ∧ i = .int .i64 ((k : Int) - 1)) (fun _ i => (intOf i + 1).toNat)
  case atStart => exact ⟨l.length, Nat.le_refl _, by rw [List.drop_length]; rfl, rfl⟩
  case round =>
    obtain ⟨k, hk, rfl, rfl⟩ := hrel
    by_cases hlt : 0 < k
    · obtain ⟨j, rfl⟩ : ∃ j, k = j + 1 := ⟨k - 1, by omega⟩
      obtain ⟨b, o, rfl, hc⟩ := hv.byte (show j < l.length by omega)
      have hd := val_drop l j (by omega)
      have hlt2 := val_lt (l.drop j)
      have hp : (256 : Nat) ^ (l.drop j).length ≤ 256 ^ 8 := Nat.pow_le_pow_right (by omega) (by rw [List.length_drop]; omega)
      have h8 : (256 : Nat) ^ 8 = 18446744073709551616 := by decide
      rw [hd] at hlt2
      have HD := Lib.hid hd
      clear hd
      obtain ⟨V, hV⟩ : ∃ V, V = val (l.drop (j + 1)) := ⟨_, rfl⟩
      rw [← hV] at hlt2 ⊢
      have HV := Lib.hid hV
      have ht := l[j].toNat_lt
      have y1 : (V : Int) * 256 + l[j].toNat ≤ 18446744073709551615 := by omega
      have y2 : (0 : Int) ≤ (V : Int) * 256 := by omega
      have y3 : (V : Int) * 256 ≤ 18446744073709551615 := by omega
      have y4 : (((j + 1 : Nat) : Int) - 1) = (j : Int) := by omega
      rw [y4]
      clear hV hp h8 hlt2 y4
      have y5 : (0 : Int) ≤ j := by omega
      go_wp2_with fail
      go_round
      case rel => exact ⟨j, by omega, by rw [HD.out, ← HV.out]; go_num, rfl⟩
      case measure => simp [intOf]
    · obtain rfl : k = 0 := by omega
      go_wp2_with fail
      go_ret
      exact ⟨rfl, rfl⟩

/-- the document's reader: l is left of b, and the error -/
def Rr (w : World) (d : Nat) (b l : List UInt8) (err : Int) : Prop :=
  ∃ (v : Value) (at_ : Nat), Blk w d 71 [v, .int .i64 at_, .int .i64 err] ∧ Bs w v b ∧ at_ ≤ b.length ∧ (err = 0 → l = b.drop at_) ∧ (err ≠ 0 → l = [])
theorem Rr.ext {w w' : World} {d : Nat} {b l : List UInt8} {err : Int} (h : Rr w d b l err) (hm : Mod [] w w') : Rr w' d b l err := by
  obtain ⟨v, at_, h1, h2, h3⟩ := h
  exact ⟨v, at_, h1.ext hm, h2.ext hm, h3⟩

set_option maxHeartbeats 4000000 in
theorem refTake_any (d : Nat) (b l : List UInt8) (err n : Int) (w : World) (h : Rr w d b l err) (hn1 : -9223372036854775808 ≤ n) (hn2 : n ≤ 9223372036854775807) (hbl : b.length ≤ 140737488355320) :
    Calls Try.prog 46 #[.pointer (some ⟨d, 0, none⟩), .int .i64 n] w fun e w' => ∃ v, e = .returned v ∧ Ob w' v (tkGot l err n) ∧ New w v ∧ Rr w' d b (tkRest l err n) (tkErr l err n) ∧ Mod [d] w w' := by
  obtain ⟨v, at_, hB, hv, hat, hl0, hl1⟩ := h
  obtain ⟨ao, cap, rfl, hc1, hc2⟩ := hv.form
  have c0 := hB.cell' (i := 0) rfl
  have c1 := hB.cell' (i := 1) rfl
  have c2 := hB.cell' (i := 2) rfl
  have a1 : (at_ : Int) ≤ b.length := by omega
  have a2 : (b.length : Int) ≤ 140737488355320 := by omega
  by_cases he : err = 0
  · subst he
    have Hl := Lib.hid (hl0 rfl)
    clear hl0 hl1
    have hll : l.length = b.length - at_ := by rw [Hl.out, List.length_drop]
    by_cases h1 : n < 0
    · have z1 : tkGot l 0 n = [] := by unfold tkGot; rw [if_neg (by omega)]
      have z2 : tkRest l 0 n = [] := by unfold tkRest; rw [if_pos rfl, if_neg (by omega)]
      have z3 : tkErr l 0 n = 2 := by unfold tkErr; rw [if_pos rfl, if_pos h1]
      rw [z1, z2, z3]
      clear z1 z2 z3
      go_enter Try.func46, Try.ntmps46
      go_wp2_with (with_reducible refine st_store ?_)
      refine StopOp.go rfl fun K hK => ?_
      refine wp_store1 (by kernel_rfl) (by rfl) (u := .int .i64 2) (by rfl) ⟨rfl, rfl⟩ hB (by simp) ?_
      intro w1 hm1 hB1
      refine hK _ _ ?_
      clear hK K
      have d0 := hB1.cell' (i := 0) rfl
      have d1 := hB1.cell' (i := 1) rfl
      have d2 := hB1.cell' (i := 2) rfl
      go_wp2_with fail
      refine wp_region_T [⟨0, true, []⟩, ⟨1, true, []⟩, ⟨2, true, []⟩, ⟨3, true, []⟩, ⟨4, true, []⟩, ⟨5, true, []⟩, ⟨6, true, []⟩, ⟨7, true, []⟩, ⟨8, true, []⟩, ⟨9, true, []⟩, ⟨10, true, []⟩, ⟨11, true, []⟩, ⟨12, true, []⟩, ⟨13, true, []⟩, ⟨14, true, []⟩, ⟨15, true, []⟩, ⟨16, true, []⟩, ⟨17, true, []⟩, ⟨18, true, []⟩] (by kernel_rfl) (by kernel_rfl) ?_
      iterate 6 (refine wpT_n rfl rfl (fun K hK => ?_); go_wp2_with fail)
      iterate 12 (refine wpT_gk (gi := 5) rfl rfl rfl rfl rfl rfl (fun K hK => ?_); go_wp2_with fail)
      refine wpT_n rfl rfl (fun K hK => ?_)
      go_wp2_with fail
      refine wpT_nil ?_
      go_wp2_with fail
      go_ret
      exact ⟨_, rfl, Ob.nil _, by simp [New, blks], ⟨_, at_, hB1.ext (Mod.drew [] _), (hv.keepAt hB (by simp) hm1).ext (Mod.drew [] _), hat, by simp, fun _ => rfl⟩, hm1.ext (Mod.drew [] _)⟩
    · by_cases h2 : (b.length : Int) - at_ < n
      · have z1 : tkGot l 0 n = [] := by unfold tkGot; rw [if_neg (by omega)]
        have z2 : tkRest l 0 n = [] := by unfold tkRest; rw [if_pos rfl, if_neg (by omega)]
        have z3 : tkErr l 0 n = 4 := by unfold tkErr; rw [if_pos rfl, if_neg h1, if_pos (by omega)]
        rw [z1, z2, z3]
        clear z1 z2 z3 hll
        go_enter Try.func46, Try.ntmps46
        go_wp2_with fail
        refine wp_region_T [⟨0, true, []⟩, ⟨1, true, []⟩, ⟨2, true, []⟩, ⟨3, true, []⟩, ⟨4, true, []⟩, ⟨5, true, []⟩, ⟨6, true, []⟩, ⟨7, true, []⟩, ⟨8, true, []⟩, ⟨9, true, []⟩, ⟨10, true, []⟩, ⟨11, true, []⟩, ⟨12, true, []⟩, ⟨13, true, []⟩, ⟨14, true, []⟩, ⟨15, true, []⟩, ⟨16, true, []⟩, ⟨17, true, []⟩, ⟨18, true, []⟩] (by kernel_rfl) (by kernel_rfl) ?_
        iterate 6 (refine wpT_n rfl rfl (fun K hK => ?_); go_wp2_with fail)
        iterate 12 (refine wpT_gq (gi := 5) rfl rfl rfl rfl rfl (fun K hK => ?_); go_wp2_with fail)
        refine wpT_n rfl rfl (fun K hK => ?_)
        go_wp2_with fail
        refine wpT_nil ?_
        go_wp2_with (with_reducible refine st_store ?_)
        refine StopOp.go rfl fun K hK => ?_
        have hB' := hB.ext (Mod.drew [] w)
        refine wp_store1 (by kernel_rfl) (by rfl) (u := .int .i64 4) (by rfl) ⟨rfl, rfl⟩ hB' (by simp) ?_
        intro w1 hm1 hB1
        refine hK _ _ ?_
        clear hK K
        have d2 := hB1.cell' (i := 2) rfl
        go_wp2_with fail
        go_ret
        exact ⟨_, rfl, Ob.nil _, by simp [New, blks], ⟨_, at_, hB1, (hv.ext (Mod.drew [] w)).keepAt hB' (by simp) hm1, hat, by simp, fun _ => rfl⟩, (Mod.drew [d] w).trans hm1⟩
      · obtain ⟨m, rfl⟩ := Int.eq_ofNat_of_zero_le (show 0 ≤ n by omega)
        have z1 : tkGot l 0 m = (b.drop at_).take m := by unfold tkGot; rw [if_pos ⟨rfl, by omega, by omega⟩, Hl.out]; rfl
        have z2 : tkRest l 0 m = b.drop (at_ + m) := by unfold tkRest; rw [if_pos rfl, if_pos ⟨by omega, by omega⟩, Hl.out, List.drop_drop]; rfl
        have z3 : tkErr l 0 m = 0 := by unfold tkErr; rw [if_pos rfl, if_neg h1, if_neg (by omega)]
        rw [z1, z2, z3]
        clear z1 z2 z3 hll
        have h3 : (at_ : Int) + m ≤ b.length := by omega
        have h4 : (at_ : Int) + m ≤ cap := by omega
        have h5 : (0 : Int) ≤ (m : Int) := by omega
        have h6 : (m : Int) ≤ (b.length : Int) - at_ := by omega
        clear h1 h2
        have hcut : Bs w (.slice (if cap = at_ then ao else ao.map (·.add at_)) m (cap - at_)) ((b.drop at_).take m) := by
          have := Sl.cut (lo := at_) (hi := at_ + m) (m := cap) hv (by omega) (by omega) (by omega) (by omega)
          unfold Bs
          rw [List.length_take, List.length_drop, Nat.min_eq_left (by omega)]
          have hb : bv ((b.drop at_).take m) = ((bv b).drop at_).take m := by simp [bv, List.map_drop, List.map_take]
          rw [hb]
          simpa using this
        have hlm : ((b.drop at_).take m).length = m := by rw [List.length_take, List.length_drop, Nat.min_eq_left (by omega)]
        have Hlm := Lib.hid hlm
        clear hlm
        rcases Decidable.em (cap = at_) with hce | hce
        all_goals
          first | (rw [if_pos hce, Nat.sub_eq_zero_of_le (Nat.le_of_eq hce)] at hcut; have hm0 : m = 0 := (by omega); replace hcut : Bs w (.slice ao 0 0) (List.take m (List.drop at_ b)) := (by rw [hm0] at hcut ⊢; exact hcut); clear hm0; have hce' : at_ = cap := hce.symm; subst hce') | (rw [if_neg hce] at hcut; replace hcut : Bs w (.slice (ao.map (·.add at_)) (at_ + m - at_) (cap - at_)) (List.take m (List.drop at_ b)) := (by rw [Nat.add_sub_cancel_left]; exact hcut))
          go_enter Try.func46, Try.ntmps46
          go_wp2_with fail
          refine wp_region_T [⟨0, true, []⟩, ⟨1, true, []⟩, ⟨2, true, []⟩, ⟨3, true, []⟩, ⟨4, true, []⟩, ⟨5, true, []⟩, ⟨6, true, []⟩, ⟨7, true, []⟩, ⟨8, true, []⟩, ⟨9, true, []⟩, ⟨10, true, []⟩, ⟨11, true, []⟩, ⟨12, true, []⟩, ⟨13, true, []⟩, ⟨14, true, []⟩, ⟨15, true, []⟩, ⟨16, true, []⟩, ⟨17, true, []⟩, ⟨18, true, []⟩] (by kernel_rfl) (by kernel_rfl) ?_
          iterate 6 (refine wpT_n rfl rfl (fun K hK => ?_); go_wp2_with fail)
          iterate 12 (refine wpT_gq (gi := 5) rfl rfl rfl rfl rfl (fun K hK => ?_); go_wp2_with fail)
          refine wpT_n rfl rfl (fun K hK => ?_)
          go_wp2_with fail
          refine wpT_nil ?_
          go_wp2_with fail
          refine wp_region_T [⟨0, true, []⟩, ⟨1, true, []⟩, ⟨2, true, []⟩, ⟨3, true, []⟩, ⟨4, true, []⟩, ⟨5, true, []⟩, ⟨6, true, []⟩, ⟨7, true, []⟩, ⟨8, true, []⟩, ⟨9, true, []⟩, ⟨10, true, []⟩, ⟨11, true, []⟩, ⟨12, true, []⟩, ⟨13, true, []⟩, ⟨14, true, []⟩, ⟨15, true, []⟩, ⟨16, false, []⟩, ⟨17, true, []⟩] (by kernel_rfl) (by kernel_rfl) ?_
          iterate 16 (refine wpT_n rfl rfl (fun K hK => ?_); go_wp2_with fail)
          refine wpT_e0 rfl rfl (fun K hK => ?_)
          refine wp_append_ow stB (by rfl) (by rfl) (Ow.nil _ _ 1) ((hcut.ext (Mod.drew [] w)).ext (Mod.drew [] _)) (bv_one _) (by rw [Hlm.out]; omega) (by rw [Hlm.out]; omega) ?_
          intro v' w1 ho1 hm1 hn1
          simp only [put_some, List.set_cons_succ, List.set_cons_zero]
          refine hK _ _ ?_
          clear hK K
          have hm1' : Mod [] w w1 := ((Mod.drew [] w).ext (Mod.drew [] _)).ext hm1
          have hB1 := hB.ext hm1'
          have d0 := hB1.cell' (i := 0) rfl
          have d1 := hB1.cell' (i := 1) rfl
          have d2 := hB1.cell' (i := 2) rfl
          refine wpT_n rfl rfl (fun K hK => ?_)
          go_wp2_with fail
          refine wpT_nil ?_
          go_wp2_with (with_reducible refine st_store ?_)
          refine StopOp.go rfl fun K hK => ?_
          refine wp_store1 (by kernel_rfl) (by rfl) (u := .int .i64 ((at_ : Int) + m)) (by rfl) ⟨rfl, rfl⟩ hB1 (by simp) ?_
          intro w2 hm2 hB2
          refine hK _ _ ?_
          clear hK K
          go_wp2_with fail
          go_ret
          have hd : d ∉ blks v' := fun hd => by
            have := hn1 d hd
            have := hB.lt
            simp [blks] at *
            omega
          rw [Nat.zero_add, List.nil_append] at ho1
          have hd2 : ∀ k ∈ blks v', k ∉ [d] := fun k hk hkd => by
            have : k = d := by simpa using hkd
            exact hd (this ▸ hk)
          exact ⟨_, rfl, Ow.mod ho1 hm2 hd2, fun k hk => (hn1 k hk).elim (fun h => by simp [blks] at h) (fun h => by simpa using h), ⟨_, at_ + m, hB2, (hv.ext hm1').keepAt hB1 (by simp) hm2, by omega, fun _ => rfl, fun h => absurd rfl h⟩, (hm1'.weak (by simp)).trans hm2⟩
  · have Hl := Lib.hid (hl1 he)
    obtain rfl := Hl.out
    have z1 : tkGot [] err n = [] := by unfold tkGot; rw [if_neg (by omega)]
    have z2 : tkRest [] err n = [] := by unfold tkRest; rw [if_neg he]
    have z3 : tkErr [] err n = err := by unfold tkErr; rw [if_neg he]
    rw [z1, z2, z3]
    have hz : (err == 0) = false := by simpa using he
    have hz' : (err != 0) = true := by simpa using he
    clear z1 z2 z3 hl0 hl1
    go_enter Try.func46, Try.ntmps46
    go_wp2_with fail
    refine wp_region_T [⟨0, true, []⟩, ⟨1, true, []⟩, ⟨2, true, []⟩, ⟨3, true, []⟩, ⟨4, true, []⟩, ⟨5, true, []⟩, ⟨6, true, []⟩, ⟨7, true, []⟩, ⟨8, true, []⟩, ⟨9, true, []⟩, ⟨10, true, []⟩, ⟨11, true, []⟩, ⟨12, true, []⟩, ⟨13, true, []⟩, ⟨14, true, []⟩, ⟨15, true, []⟩, ⟨16, true, []⟩, ⟨17, true, []⟩, ⟨18, true, []⟩] (by kernel_rfl) (by kernel_rfl) ?_
    iterate 6 (refine wpT_n rfl rfl (fun K hK => ?_); go_wp2_with fail)
    iterate 12 (refine wpT_gk (gi := 5) rfl rfl rfl rfl rfl rfl (fun K hK => ?_); go_wp2_with fail)
    refine wpT_n rfl rfl (fun K hK => ?_)
    go_wp2_with fail
    refine wpT_nil ?_
    go_wp2_with fail
    go_ret
    exact ⟨_, rfl, Ob.nil _, by simp [New, blks], ⟨_, at_, hB.ext (Mod.drew [] _), hv.ext (Mod.drew [] _), hat, fun h => absurd h he, fun _ => rfl⟩, Mod.drew [d] w⟩
end Go.Proofs.Ytkedbphdflhhlaa
