import Derived.Test.YtkedbphdflhhlaaOctG
set_option linter.unusedVariables false
set_option linter.unusedSimpArgs false
set_option maxRecDepth 100000
namespace Go.Proofs.Ytkedbphdflhhlaa
open Go.RowKit Gw

theorem val_low (m : Nat) : ∀ k, val (low m k) = m % 256 ^ k
  | 0 => by simp [low, val, Nat.mod_one]
  | k + 1 => by
    rw [low_succ, val_snoc, val_low m k, low_length, Nat.mod_pow_succ]
    simp [UInt8.toNat_ofNat']

theorem two_form (m : Nat) : ∃ a b : UInt8, low m 2 = [a, b] := ⟨_, _, rfl⟩
theorem four_form (m : Nat) : ∃ a b c d : UInt8, low m 4 = [a, b, c, d] := ⟨_, _, _, _, rfl⟩
theorem eight_form (m : Nat) : ∃ a b c d e f g h : UInt8, low m 8 = [a, b, c, d, e, f, g, h] := ⟨_, _, _, _, _, _, _, _, rfl⟩
theorem low_form (n : Nat) (hn : n < 18446744073709551616) : ∃ x0 x1 y0 y1 y2 y3 z0 z1 z2 z3 z4 z5 z6 z7 : UInt8,
    low ((n : Int) % 65536).toNat 2 ++ low ((n : Int) % 4294967296).toNat 4 ++ low (n : Int).toNat 8 = [x0, x1, y0, y1, y2, y3, z0, z1, z2, z3, z4, z5, z6, z7] ∧
    x0.toNat + 256 * x1.toNat = n % 65536 ∧ y0.toNat + 256 * (y1.toNat + 256 * (y2.toNat + 256 * y3.toNat)) = n % 4294967296 ∧ val [z0, z1, z2, z3, z4, z5, z6, z7] = n := by
  have e1 : ((n : Int) % 65536).toNat = n % 65536 := by omega
  have e2 : ((n : Int) % 4294967296).toNat = n % 4294967296 := by omega
  have e3 : (n : Int).toNat = n := by omega
  rw [e1, e2, e3]
  have v1 := val_low (n % 65536) 2
  have v2 := val_low (n % 4294967296) 4
  have v3 := val_low n 8
  obtain ⟨a, b, h1⟩ := two_form (n % 65536)
  obtain ⟨c0, c1, c2, c3, h2⟩ := four_form (n % 4294967296)
  obtain ⟨d0, d1, d2, d3, d4, d5, d6, d7, h3⟩ := eight_form n
  rw [h1] at v1 ⊢
  rw [h2] at v2 ⊢
  rw [h3] at v3 ⊢
  refine ⟨_, _, _, _, _, _, _, _, _, _, _, _, _, _, rfl, ?_, ?_, ?_⟩
  · simp only [val_cons] at v1; simp [val] at v1; omega
  · simp only [val_cons] at v2; simp [val] at v2; omega
  · rw [v3]; exact Nat.mod_eq_of_lt (by omega)

set_option maxHeartbeats 2000000 in
theorem octetsLow_any (n : Nat) (w : World) (hn : n < 18446744073709551616) :
    Calls Try.prog 3 #[.int .u64 n] w fun e w' => e = .returned (.bool true) ∧ Mod [] w w' := by
  have hn1 : (n : Int) ≤ 18446744073709551615 := by omega
  have hn0 : (0 : Int) ≤ (n : Int) := by omega
  have hf := low_form n hn
  go_enter Try.func3, Try.ntmps3
  go_wp2_with (with_reducible refine st_alloc ?_)
  refine StopOp.go rfl fun K hK => ?_
  refine wp_alloc zero_writer ?_
  intro g w1 hg1 hg2 hm1 hB1
  simp only [put_some, List.set_cons_succ, List.set_cons_zero]
  refine hK _ _ ?_
  clear hK K
  go_wp2_with (first
                | (go_at_call 15; refine (two_any g [] _ _ (Wr.new hB1) (by rw [IntKind.wrap_u16]; omega) (by rw [IntKind.wrap_u16]; omega) (by simp)).mono ?_; rintro e w2 ⟨rfl, hw2, hm2⟩)
                | (go_at_call 16; refine (four_any g _ _ _ hw2 (by omega) (by omega) (by simp [low_length])).mono ?_; rintro e w3 ⟨rfl, hw3, hm3⟩)
                | (go_at_call 17; refine (eight_any g _ _ _ hw3 (by omega) (by omega) (by simp [low_length])).mono ?_; rintro e w4 ⟨rfl, hw4, hm4⟩)
                | (go_at_call 18; refine (out_any g _ _ hw4 (by simp [low_length])).mono ?_; rintro e w5 ⟨v5, rfl, ho5, hn5, hm5⟩; rw [IntKind.wrap_u16, List.nil_append] at ho5; obtain ⟨x0, x1, y0, y1, y2, y3, z0, z1, z2, z3, z4, z5, z6, z7, hl, k1, k2, k3⟩ := hf; rw [hl] at ho5; obtain ⟨rfl, h0, _⟩ | ⟨b, cap, rest, rfl, hB5, hc1, hc2, _, _⟩ := ho5.blk; · simp at h0)
                | (go_at_call 19; refine (awake_any _).mono ?_; rintro e w6 ⟨rfl, hm6⟩))
  have hB := hB5.ext hm6
  have c0 : w6.cell? ⟨b, 0, none⟩ = some (.int .u8 (x0.toNat : Nat)) := hB.cell' (i := 0) rfl
  have c1 : w6.cell? ⟨b, 1, none⟩ = some (.int .u8 (x1.toNat : Nat)) := hB.cell' (i := 1) rfl
  have c2 : w6.cell? ⟨b, 2, none⟩ = some (.int .u8 (y0.toNat : Nat)) := hB.cell' (i := 2) rfl
  have c3 : w6.cell? ⟨b, 3, none⟩ = some (.int .u8 (y1.toNat : Nat)) := hB.cell' (i := 3) rfl
  have c4 : w6.cell? ⟨b, 4, none⟩ = some (.int .u8 (y2.toNat : Nat)) := hB.cell' (i := 4) rfl
  have c5 : w6.cell? ⟨b, 5, none⟩ = some (.int .u8 (y3.toNat : Nat)) := hB.cell' (i := 5) rfl
  have b0 := x0.toNat_lt
  have b1 := x1.toNat_lt
  have b2 := y0.toNat_lt
  have b3 := y1.toNat_lt
  have b4 := y2.toNat_lt
  have b5 := y3.toNat_lt
  have hm : Mod [] w w6 := ((((hm1.fresh hm2 (by simpa using hg1)).fresh hm3 (by simpa using hg1)).fresh hm4 (by simpa using hg1)).ext hm5).ext hm6
  clear hn5 ho5 hB5 hw2 hw3 hw4 hm1 hm2 hm3 hm4 hm5 hm6 hB1 hl
  simp only [List.length_cons, List.length_nil, Nat.zero_add, Nat.reduceAdd] at hc1
  refine wp_region_T [⟨0, true, []⟩, ⟨1, true, []⟩, ⟨2, true, []⟩, ⟨3, true, []⟩, ⟨4, true, []⟩, ⟨5, true, []⟩, ⟨6, true, []⟩, ⟨7, true, []⟩, ⟨8, true, []⟩, ⟨9, true, []⟩, ⟨10, true, []⟩] (by kernel_rfl) (by kernel_rfl) ?_
  go_wp2_with (first | (refine wpT_q rfl rfl (fun K hK => ?_)) | (refine wpT_nil ?_))
  clear c0 c1
  refine wp_region_T [⟨0, true, []⟩, ⟨1, true, []⟩, ⟨2, true, []⟩, ⟨3, true, []⟩, ⟨4, true, []⟩, ⟨5, true, []⟩, ⟨6, true, []⟩, ⟨7, true, []⟩, ⟨8, true, []⟩, ⟨9, true, []⟩, ⟨10, true, []⟩, ⟨11, true, []⟩, ⟨12, true, []⟩, ⟨13, true, []⟩, ⟨14, true, []⟩, ⟨15, true, []⟩, ⟨16, true, []⟩, ⟨17, true, []⟩, ⟨18, true, []⟩, ⟨19, true, []⟩, ⟨20, true, []⟩, ⟨21, true, []⟩, ⟨22, true, []⟩] (by kernel_rfl) (by kernel_rfl) ?_
  go_wp2_with (first | (refine wpT_q rfl rfl (fun K hK => ?_)) | (refine wpT_nil ?_))
  clear c2 c3 c4 c5
  obtain ⟨L, hL⟩ : ∃ L, L = [x0, x1, y0, y1, y2, y3, z0, z1, z2, z3, z4, z5, z6, z7] := ⟨_, rfl⟩
  rw [← hL] at hB
  have hLl : L.length = 14 := by rw [hL]; rfl
  have hd : val (L.drop 6) = n := by rw [hL]; exact k3
  have hd0 : val (L.drop 14) = 0 := by rw [hL]; rfl
  clear hL k3
  go_loop [7, 8] (fun e i => ∃ j : Nat, 5 ≤ j ∧ j ≤ 13 ∧ e = .int .u64 (val (L.drop (j + 1))) ∧ i = .int .i64 j) (fun _ i => (intOf i).toNat)
  case atStart => exact ⟨13, by omega, by omega, by rw [hd0]; rfl, rfl⟩
  case round =>
    obtain ⟨j, hj1, hj2, rfl, rfl⟩ := hrel
    by_cases hlt : 6 ≤ j
    · have hc : w6.cell? ⟨b, j, none⟩ = some (.int .u8 ((L[j]'(by omega)).toNat : Nat)) := hB.cell' (by rw [List.getElem?_append_left (by rw [bv_length]; omega)]; simp [bv, show j < L.length by omega])
      have hb := (L[j]'(by omega)).toNat_lt
      have hv : val (L.drop j) = (L[j]'(by omega)).toNat + 256 * val (L.drop (j + 1)) := by rw [List.drop_eq_getElem_cons (by omega), val_cons]
      have hs : val (L.drop (j + 1)) < 256 ^ 7 := by
        refine Nat.lt_of_lt_of_le (val_lt _) (Nat.pow_le_pow_right (by omega) ?_)
        rw [List.length_drop]; omega
      have h256 : (256 : Nat) ^ 7 = 72057594037927936 := by decide
      have hs' : (val (L.drop (j + 1)) : Int) ≤ 72057594037927935 := by omega
      have hs0 : (0 : Int) ≤ (val (L.drop (j + 1)) : Int) := by omega
      clear hs
      go_wp2_with fail
      go_round
      case rel => exact ⟨j - 1, by omega, by omega, by rw [show j - 1 + 1 = j by omega, hv]; go_num, by go_num⟩
      case measure => simp [intOf]; omega
    · obtain rfl : j = 5 := by omega
      rw [hd]
      have E1 : RowKit.Hid ((x0.toNat : Int) + 256 * x1.toNat = IntKind.u16.wrap n) := Lib.hid (by rw [IntKind.wrap_u16]; omega)
      have E2 : RowKit.Hid ((y0.toNat : Int) + 256 * (y1.toNat + 256 * (y2.toNat + 256 * y3.toNat)) = n % 4294967296) := Lib.hid (by omega)
      clear k1 k2 hd hd0
      go_wp2_with fail
      all_goals first | exact absurd E1.out (by assumption) | exact absurd E2.out (by assumption) | skip
      go_ret
      exact ⟨rfl, (hm.ext (Mod.drew [] _)).ext (Mod.drew [] _)⟩
end Go.Proofs.Ytkedbphdflhhlaa
