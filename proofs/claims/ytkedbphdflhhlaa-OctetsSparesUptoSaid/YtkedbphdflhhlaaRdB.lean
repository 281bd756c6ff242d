import Derived.Test.YtkedbphdflhhlaaRdA
set_option linter.unusedVariables false
set_option linter.unusedSimpArgs false
set_option maxRecDepth 100000
namespace Go.Proofs.Ytkedbphdflhhlaa
open Go.RowKit Gw

set_option maxHeartbeats 1000000 in
theorem refNum_any (d : Nat) (b l : List UInt8) (err n : Int) (k : Nat) (w : World) (h : Rr w d b l err) (hn : n = k) (hk : k ≤ 8) (hbl : b.length ≤ 140737488355320) :
    Calls Try.prog 42 #[.pointer (some ⟨d, 0, none⟩), .int .i64 n] w fun e w' => e = .returned (.int .u64 (got l err k)) ∧ Rr w' d b (tkRest l err k) (tkErr l err k) ∧ Mod [d] w w' := by
  subst hn
  have hg8 : (tkGot l err k).length ≤ 8 := by unfold tkGot; split <;> simp; omega
  go_enter Try.func42, Try.ntmps42
  go_wp2_with (first | (go_at_call 46; refine (refTake_any d b l err k _ h (by omega) (by omega) hbl).mono ?_; rintro e w1 ⟨v, rfl, hv, _, h1, hm1⟩) | (go_at_call 84; refine (refValue_any _ _ _ hv.bs hg8).mono ?_; rintro e w2 ⟨rfl, rfl⟩))
  go_ret
  exact ⟨rfl, h1, hm1⟩

set_option maxHeartbeats 1000000 in
theorem refLeft_any (d : Nat) (b l : List UInt8) (err : Int) (w : World) (h : Rr w d b l err) (hbl : b.length ≤ 140737488355320) :
    Calls Try.prog 47 #[.pointer (some ⟨d, 0, none⟩)] w fun e w' => e = .returned (.int .i64 l.length) ∧ Mod [] w w' := by
  obtain ⟨v, at_, hB, hv, hat, hl0, hl1⟩ := h
  obtain ⟨ao, cap, rfl, hc1, hc2⟩ := hv.form
  have c0 := hB.cell' (i := 0) rfl
  have c1 := hB.cell' (i := 1) rfl
  have c2 := hB.cell' (i := 2) rfl
  have a1 : (at_ : Int) ≤ b.length := by omega
  have a2 : (b.length : Int) ≤ 140737488355320 := by omega
  by_cases he : err = 0
  · subst he
    have hll : ((b.length : Int) - at_) = (l.length : Int) := by rw [hl0 rfl, List.length_drop]; omega
    have Hll := Lib.hid hll
    clear hll hl0 hl1
    go_enter Try.func47, Try.ntmps47
    go_wp2_with fail
    refine wp_region_T [⟨0, true, []⟩, ⟨1, true, []⟩, ⟨2, true, []⟩, ⟨3, true, []⟩, ⟨4, true, []⟩, ⟨5, true, []⟩, ⟨6, true, []⟩, ⟨7, true, []⟩, ⟨8, true, []⟩, ⟨9, true, []⟩, ⟨10, true, []⟩] (by kernel_rfl) (by kernel_rfl) ?_
    iterate 11 (refine wpT_n rfl rfl (fun K hK => ?_); go_wp2_with fail)
    refine wpT_nil ?_
    go_wp2_with fail
    go_ret
    exact ⟨ret_int Hll.out, Mod.drew [] w⟩
  · obtain rfl := hl1 he
    have hz' : (err != 0) = true := by simpa using he
    clear hl0 hl1
    go_enter Try.func47, Try.ntmps47
    go_wp2_with fail
    go_ret
    exact ⟨rfl, Mod.refl _ _⟩

set_option maxHeartbeats 1000000 in
theorem refEnd_any (d : Nat) (b l : List UInt8) (err : Int) (w : World) (h : Rr w d b l err) (hbl : b.length ≤ 140737488355320) :
    Calls Try.prog 50 #[.pointer (some ⟨d, 0, none⟩)] w fun e w' => e = .returned (.int .i64 (endOf l err)) ∧ Mod [] w w' := by
  obtain ⟨v, at_, hB, hv, hat, hl0, hl1⟩ := h
  obtain ⟨ao, cap, rfl, hc1, hc2⟩ := hv.form
  have c0 := hB.cell' (i := 0) rfl
  have c1 := hB.cell' (i := 1) rfl
  have c2 := hB.cell' (i := 2) rfl
  have a1 : (at_ : Int) ≤ b.length := by omega
  have a2 : (b.length : Int) ≤ 140737488355320 := by omega
  by_cases he : err = 0
  · subst he
    have hll : l.length = b.length - at_ := by rw [hl0 rfl, List.length_drop]
    by_cases h0 : at_ < b.length
    · have hE : endOf l 0 = 5 := by
        unfold endOf
        rw [if_pos rfl, if_neg (fun h => by rw [h] at hll; simp at hll; omega)]
      rw [hE]
      clear hl0 hl1 hll hE
      have y0 : (at_ : Int) < b.length := by omega
      go_enter Try.func50, Try.ntmps50
      go_wp2_with fail
      refine wp_region_T [⟨0, true, []⟩, ⟨1, true, []⟩, ⟨2, true, []⟩, ⟨3, true, []⟩, ⟨4, true, []⟩, ⟨5, true, []⟩, ⟨6, true, []⟩, ⟨7, true, []⟩, ⟨8, true, []⟩, ⟨9, true, []⟩, ⟨10, true, []⟩, ⟨11, true, []⟩, ⟨12, true, []⟩, ⟨13, true, []⟩, ⟨14, true, []⟩, ⟨15, true, []⟩, ⟨16, true, []⟩] (by kernel_rfl) (by kernel_rfl) ?_
      iterate 6 (refine wpT_n rfl rfl (fun K hK => ?_); go_wp2_with fail)
      iterate 10 (refine wpT_gq (gi := 5) rfl rfl rfl rfl rfl (fun K hK => ?_); go_wp2_with fail)
      refine wpT_n rfl rfl (fun K hK => ?_)
      go_wp2_with fail
      refine wpT_nil ?_
      go_wp2_with fail
      go_ret
      exact ⟨rfl, Mod.drew [] w⟩
    · have hE : endOf l 0 = 0 := by
        unfold endOf
        rw [if_pos rfl, if_pos (List.eq_nil_of_length_eq_zero (by omega))]
      rw [hE]
      clear hl0 hl1 hll hE
      go_enter Try.func50, Try.ntmps50
      go_wp2_with fail
      refine wp_region_T [⟨0, true, []⟩, ⟨1, true, []⟩, ⟨2, true, []⟩, ⟨3, true, []⟩, ⟨4, true, []⟩, ⟨5, true, []⟩, ⟨6, true, []⟩, ⟨7, true, []⟩, ⟨8, true, []⟩, ⟨9, true, []⟩, ⟨10, true, []⟩, ⟨11, true, []⟩, ⟨12, true, []⟩, ⟨13, true, []⟩, ⟨14, true, []⟩, ⟨15, true, []⟩, ⟨16, true, []⟩] (by kernel_rfl) (by kernel_rfl) ?_
      iterate 6 (refine wpT_n rfl rfl (fun K hK => ?_); go_wp2_with fail)
      iterate 10 (refine wpT_gq (gi := 5) rfl rfl rfl rfl rfl (fun K hK => ?_); go_wp2_with fail)
      refine wpT_n rfl rfl (fun K hK => ?_)
      go_wp2_with fail
      refine wpT_nil ?_
      go_wp2_with fail
      go_ret
      exact ⟨rfl, Mod.drew [] w⟩
  · have hE : endOf l err = err := by unfold endOf; rw [if_neg he]
    rw [hE]
    have hz' : (err == 0) = false := by simpa using he
    clear hl0 hl1 hE
    go_enter Try.func50, Try.ntmps50
    go_wp2_with fail
    refine wp_region_T [⟨0, true, []⟩, ⟨1, true, []⟩, ⟨2, true, []⟩, ⟨3, true, []⟩, ⟨4, true, []⟩, ⟨5, true, []⟩, ⟨6, true, []⟩, ⟨7, true, []⟩, ⟨8, true, []⟩, ⟨9, true, []⟩, ⟨10, true, []⟩, ⟨11, true, []⟩, ⟨12, true, []⟩, ⟨13, true, []⟩, ⟨14, true, []⟩, ⟨15, true, []⟩, ⟨16, true, []⟩] (by kernel_rfl) (by kernel_rfl) ?_
    iterate 6 (refine wpT_n rfl rfl (fun K hK => ?_); go_wp2_with fail)
    iterate 10 (refine wpT_gk (gi := 5) rfl rfl rfl rfl rfl rfl (fun K hK => ?_); go_wp2_with fail)
    refine wpT_n rfl rfl (fun K hK => ?_)
    go_wp2_with fail
    refine wpT_nil ?_
    go_wp2_with fail
    go_ret
    exact ⟨rfl, Mod.drew [] w⟩
end Go.Proofs.Ytkedbphdflhhlaa
