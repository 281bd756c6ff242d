import Derived.Test.YtboigcnpamldlaaDoorCrA
/-! Sums: the reference's. -/
set_option linter.unusedVariables false
set_option linter.unusedSimpArgs false
set_option maxRecDepth 100000
namespace Go.Proofs.YtboigcnpamldlaaDoor
open Go.RowKit Gw

theorem bits_xor_u32 (a b : Nat) (ha : a < 4294967296) (hb : b < 4294967296) : bits .xor .u32 (a : Int) (b : Int) = ((a ^^^ b : Nat) : Int) := by
  have ha' : a % 2 ^ IntKind.u32.bits = a := Nat.mod_eq_of_lt ha
  have hb' : b % 2 ^ IntKind.u32.bits = b := Nat.mod_eq_of_lt hb
  have hx := Nat.xor_lt_two_pow (n := 32) ha hb
  simp only [bits, BitVec.ofInt_natCast, BitVec.toNat_xor, BitVec.toNat_ofNat, ha', hb']
  rw [IntKind.wrap_u32]
  omega
theorem bits_and15_u32 (a : Nat) (ha : a < 4294967296) : bits .and .u32 (a : Int) 15 = ((a % 16 : Nat) : Int) := by
  have ha' : a % 2 ^ IntKind.u32.bits = a := Nat.mod_eq_of_lt ha
  have hb' : 15 % 2 ^ IntKind.u32.bits = 15 := rfl
  have h15 : (15 : Int) = ((15 : Nat) : Int) := rfl
  have e : a &&& 15 = a % 16 := Nat.and_two_pow_sub_one_eq_mod a 4
  rw [h15]
  simp only [bits, BitVec.ofInt_natCast, BitVec.toNat_and, BitVec.toNat_ofNat, ha', hb', e]
  rw [IntKind.wrap_u32]
  omega
set_option maxHeartbeats 1000000 in
theorem rstep_any (r : Nat) (w : World) (h : r < 4294967296) : Calls Tryd.prog 105 #[.int .u32 (r : Nat)] w fun e w' => e = .returned (.int .u32 (stp r : Nat)) ∧ w = w' := by
  have y1 : (r : Int) ≤ 4294967295 := by omega
  have hd : (r : Int) / 2 = ((r / 2 : Nat) : Int) := by omega
  by_cases h1 : r % 2 = 1
  · have e0 : (r : Int) % 2 = 1 := by omega
    have hx : bits .xor .u32 ((r : Int) / 2) 3988292384 = (stp r : Nat) := by
      rw [hd]
      unfold stp
      rw [if_pos h1]
      exact bits_xor_u32 (r / 2) 0xedb88320 (by omega) (by omega)
    clear hd
    go_enter Tryd.func105, Tryd.ntmps105
    go_wp2_with fail
    go_ret
    exact ⟨rfl, rfl⟩
  · have e0 : (r : Int) % 2 = 0 := by omega
    have hx : (r : Int) / 2 = (stp r : Nat) := by
      rw [hd]
      unfold stp
      rw [if_neg h1]
    clear hd
    go_enter Tryd.func105, Tryd.ntmps105
    go_wp2_with fail
    go_ret
    exact ⟨rfl, rfl⟩
def stpN : Nat → Nat → Nat | 0, r => r | j + 1, r => stp (stpN j r)
theorem stpN_lt : ∀ (j : Nat) {r : Nat}, r < 4294967296 → stpN j r < 4294967296
  | 0, _, h => h
  | j + 1, _, h => stp_lt (stpN_lt j h)
theorem stpN_8 (r : Nat) : stpN 8 r = stp4 (stp4 r) := rfl
set_option maxHeartbeats 1000000 in
theorem rbyte_any (r x : Nat) (w : World) (h : r < 4294967296) (hx : x ≤ 255) : Calls Tryd.prog 85 #[.int .u32 (r : Nat), .int .u8 (x : Nat)] w fun e w' => e = .returned (.int .u32 (byt r x : Nat)) ∧ w = w' := by
  have y1 : (r : Int) ≤ 4294967295 := by omega
  have y2 : (x : Int) ≤ 255 := by omega
  have y3 : (0 : Int) ≤ x := by omega
  have hr1 := Nat.xor_lt_two_pow (n := 32) h (show x < 2 ^ 32 by omega)
  have f1 := bits_xor_u32 r x h (by omega)
  have hB : byt r x = stpN 8 (r ^^^ x) := rfl
  obtain ⟨r1, hr⟩ : ∃ r1, r1 = r ^^^ x := ⟨_, rfl⟩
  obtain ⟨B, hBB⟩ : ∃ B, B = byt r x := ⟨_, rfl⟩
  rw [← hr] at f1 hr1 hB
  rw [← hBB] at hB ⊢
  have HB := Lib.hid hB
  clear hr hBB hB
  have ST := fun w j => rstep_any (stpN j r1) w (stpN_lt j hr1)
  have y5 : (r1 : Int) ≤ 4294967295 := by omega
  go_enter Tryd.func85, Tryd.ntmps85
  go_wp2_with fail
  go_loopw [0, 5] (fun u i wr => ∃ (j : Nat), j ≤ 8 ∧ i = .int .i64 j ∧ u = .int .u32 (stpN j r1 : Nat) ∧ w = wr) (fun _ i _ => 8 - (intOf i).toNat)
  case atStart => exact ⟨0, by omega, rfl, rfl, rfl⟩
  case round =>
    obtain ⟨j, hj, rfl, rfl, rfl⟩ := hrel
    by_cases hlt : j < 8
    · have z1 : (j : Int) < 8 := by omega
      go_wp2_with (go_at_call 105; (with_reducible refine (ST _ j).mono ?_); rintro e w2 ⟨rfl, rfl⟩)
      go_roundw
      case rel => exact ⟨j + 1, by omega, by go_num, rfl, trivial⟩
      case measure => simp [intOf]; omega
    · obtain rfl : j = 8 := by omega
      go_wp2_with fail
      go_ret
      exact ⟨by rw [HB.out]; rfl, by first | rfl | trivial⟩
set_option maxHeartbeats 1000000 in
theorem rmore_any (l : List UInt8) (v : Value) (w : World) (hv : Bs w v l) : Calls Tryd.prog 60 #[.int .u32 0, v] w fun e w' => e = .returned (.int .u32 (crcS l : Nat)) ∧ w = w' := by
  obtain ⟨ao, cap, rfl, _, _⟩ := hv.form
  have f0 : bits .xor .u32 0 4294967295 = 4294967295 := by decide
  have hlt : ∀ j, crcM 0xffffffff (l.take j) < 4294967296 := fun j => crcM_lt _ (by omega)
  have BY := fun w j (x : UInt8) => rbyte_any (crcM 0xffffffff (l.take j)) x.toNat w (hlt j) (by have := x.toNat_lt; omega)
  have hS : ∀ u : Nat, u = crcM 0xffffffff l → bits .xor .u32 (u : Int) 4294967295 = (crcS l : Nat) := fun u hu => by
    subst hu
    exact bits_xor_u32 _ 0xffffffff (crcM_lt _ (by omega)) (by omega)
  have hsu := fun j (hj : j < l.length) => crcM_succ l j hj 0xffffffff
  have h0 : crcM 0xffffffff (l.take 0) = 4294967295 := rfl
  obtain ⟨C, hC⟩ : ∃ C : Nat → Nat, C = fun j => crcM 0xffffffff (l.take j) := ⟨_, rfl⟩
  have hCj : ∀ j, C j = crcM 0xffffffff (l.take j) := fun j => by rw [hC]
  simp only [← hCj] at BY hsu h0 hlt
  have hend : bits .xor .u32 (C l.length : Int) 4294967295 = (crcS l : Nat) := hS _ (by rw [hCj, List.take_of_length_le (Nat.le_refl _)])
  clear hCj hC hS
  obtain ⟨S, hS⟩ : ∃ S, S = crcS l := ⟨_, rfl⟩
  rw [← hS] at hend ⊢
  clear hS
  have HS := Lib.hid hsu
  have HE := Lib.hid hend
  have H0 := Lib.hid h0
  clear hsu hend h0
  go_enter Tryd.func60, Tryd.ntmps60
  go_wp2_with fail
  go_loopw [5, 6] (fun u i wr => ∃ (j : Nat), j ≤ l.length ∧ i = .int .i64 j ∧ u = .int .u32 (C j : Nat) ∧ w = wr) (fun _ i _ => l.length - (intOf i).toNat)
  case atStart => exact ⟨0, by omega, rfl, by rw [H0.out]; rfl, rfl⟩
  case round =>
    obtain ⟨j, hj, rfl, rfl, rfl⟩ := hrel
    by_cases hjl : j < l.length
    · have z1 : (j : Int) < l.length := by omega
      obtain ⟨b, o, rfl, c1⟩ := hv.byte hjl
      have hs := HS.out j hjl
      obtain ⟨x, hx⟩ : ∃ x, x = l[j] := ⟨_, rfl⟩
      rw [← hx] at c1 hs
      clear hx
      have HSJ := Lib.hid hs
      clear hs
      go_wp2_with (go_at_call 85; (with_reducible refine (BY _ j x).mono ?_); rintro e w2 ⟨rfl, rfl⟩)
      go_roundw
      case rel => exact ⟨j + 1, by omega, by go_num, by rw [HSJ.out], trivial⟩
      case measure => simp [intOf]; omega
    · obtain rfl : j = l.length := by omega
      have he := HE.out
      go_wp2_with fail
      go_ret
      exact ⟨rfl, rfl⟩
theorem rsum_any (l : List UInt8) (v : Value) (w : World) (hv : Bs w v l) : Calls Tryd.prog 42 #[v] w fun e w' => e = .returned (.int .u32 (crcS l : Nat)) ∧ w = w' := by
  obtain ⟨ao, cap, rfl, _, _⟩ := hv.form
  have MO := fun w hv => rmore_any l (.slice ao l.length cap) w hv
  go_enter Tryd.func42, Tryd.ntmps42
  go_wp2_with (go_at_call 60; (with_reducible refine (MO _ hv).mono ?_); rintro e w2 ⟨rfl, rfl⟩)
  go_ret
  exact ⟨rfl, rfl⟩
/-- the table as it is laid -/
def TabC (w : World) : Prop := 0 < w.heap.size ∧ ∀ i, i < 16 → w.cell? ⟨0, i, none⟩ = some (.int .u32 (tab16.getD i 0 : Nat))
theorem TabC.ext {w w' : World} (h : TabC w) (hm : Mod [] w w') : TabC w' :=
  ⟨Nat.lt_of_lt_of_le h.1 hm.size, fun i hi => by
    rw [← h.2 i hi]
    simp [World.cell?, hm.block 0 h.1 (by simp)]⟩
theorem TabC.mod {w w' : World} {M : List Nat} (h : TabC w) (hm : Mod M w w') (h0 : 0 ∉ M) : TabC w' :=
  ⟨Nat.lt_of_lt_of_le h.1 hm.size, fun i hi => by
    rw [← h.2 i hi]
    simp [World.cell?, hm.block 0 h.1 h0]⟩
set_option maxHeartbeats 2000000 in
theorem more_any (l : List UInt8) (v : Value) (w : World) (hv : Bs w v l) (hT : TabC w) : Calls Tryd.prog 58 #[.int .u32 0, v] w fun e w' => e = .returned (.int .u32 (crcS l : Nat)) ∧ w = w' := by
  obtain ⟨ao, cap, rfl, _, _⟩ := hv.form
  have hsg : IntKind.u32.signed = false := rfl
  have f0 : bits .xor .u32 IntKind.u32.max 0 = 4294967295 := by decide
  have hlt : ∀ j, crcM 0xffffffff (l.take j) < 4294967296 := fun j => crcM_lt _ (by omega)
  have hS : ∀ u : Nat, u = crcM 0xffffffff l → bits .xor .u32 IntKind.u32.max (u : Int) = (crcS l : Nat) := fun u hu => by
    subst hu
    have h1 := bits_xor_u32 0xffffffff (crcM 0xffffffff l) (by omega) (crcM_lt _ (by omega))
    rw [Nat.xor_comm] at h1
    exact h1
  have hsu := fun j (hj : j < l.length) => crcM_succ l j hj 0xffffffff
  have h0 : crcM 0xffffffff (l.take 0) = 4294967295 := rfl
  obtain ⟨C, hC⟩ : ∃ C : Nat → Nat, C = fun j => crcM 0xffffffff (l.take j) := ⟨_, rfl⟩
  have hCj : ∀ j, C j = crcM 0xffffffff (l.take j) := fun j => by rw [hC]
  simp only [← hCj] at hsu h0 hlt
  have hend : bits .xor .u32 IntKind.u32.max (C l.length : Int) = (crcS l : Nat) := hS _ (by rw [hCj, List.take_of_length_le (Nat.le_refl _)])
  clear hCj hC hS
  obtain ⟨S, hS⟩ : ∃ S, S = crcS l := ⟨_, rfl⟩
  rw [← hS] at hend ⊢
  clear hS
  have HS := Lib.hid hsu
  have HE := Lib.hid hend
  have H0 := Lib.hid h0
  clear hsu hend h0
  go_enter Tryd.func58, Tryd.ntmps58
  go_wp2_with fail
  go_loopw [5, 12] (fun u i wr => ∃ (j : Nat), j ≤ l.length ∧ i = .int .i64 j ∧ u = .int .u32 (C j : Nat) ∧ w = wr) (fun _ i _ => l.length - (intOf i).toNat)
  case atStart => exact ⟨0, by omega, rfl, by rw [H0.out]; rfl, rfl⟩
  case round =>
    obtain ⟨j, hj, rfl, rfl, rfl⟩ := hrel
    by_cases hjl : j < l.length
    · have z1 : (j : Int) < l.length := by omega
      obtain ⟨b, o, rfl, c1⟩ := hv.byte hjl
      have hs := HS.out j hjl
      obtain ⟨x, hx⟩ : ∃ x, x = (l[j]).toNat := ⟨_, rfl⟩
      have hx2 : x ≤ 255 := by have := (l[j]).toNat_lt; omega
      rw [← hx] at c1 hs
      clear hx
      have hr := hlt j
      obtain ⟨r, hrr⟩ : ∃ r, r = C j := ⟨_, rfl⟩
      rw [← hrr] at hs hr ⊢
      have hs' : C (j + 1) = stp4 (stp4 (r ^^^ x)) := hs
      have hr1 := Nat.xor_lt_two_pow (n := 32) hr (show x < 2 ^ 32 by omega)
      have f1 := bits_xor_u32 r x hr (by omega)
      obtain ⟨r1, h1⟩ : ∃ r1, r1 = r ^^^ x := ⟨_, rfl⟩
      rw [← h1] at f1 hr1 hs'
      have g1 := bits_and15_u32 r1 hr1
      have t1 := hT.2 (r1 % 16) (Nat.mod_lt _ (by omega))
      have n1 := nib r1
      have l1 := stp4_lt hr1
      have lt1 : tab16.getD (r1 % 16) 0 < 4294967296 := by rw [tab16_at _ (Nat.mod_lt _ (by omega))]; exact stp4_lt (by omega)
      have f2 := bits_xor_u32 (tab16.getD (r1 % 16) 0) (r1 / 16) lt1 (by omega)
      rw [← n1] at f2
      obtain ⟨r2, h2⟩ : ∃ r2, r2 = stp4 r1 := ⟨_, rfl⟩
      rw [← h2] at f2 l1 hs'
      have g2 := bits_and15_u32 r2 l1
      have t2 := hT.2 (r2 % 16) (Nat.mod_lt _ (by omega))
      have n2 := nib r2
      have lt2 : tab16.getD (r2 % 16) 0 < 4294967296 := by rw [tab16_at _ (Nat.mod_lt _ (by omega))]; exact stp4_lt (by omega)
      have f3 := bits_xor_u32 (tab16.getD (r2 % 16) 0) (r2 / 16) lt2 (by omega)
      rw [← n2] at f3
      obtain ⟨r3, h3⟩ : ∃ r3, r3 = stp4 r2 := ⟨_, rfl⟩
      rw [← h3] at f3 hs'
      have d1 : ((r1 / 16 : Nat) : Int) = (r1 : Int) / 16 := by omega
      have d2 : ((r2 / 16 : Nat) : Int) = (r2 : Int) / 16 := by omega
      rw [d1] at f2
      rw [d2] at f3
      obtain ⟨i1, hi1⟩ : ∃ i, i = r1 % 16 := ⟨_, rfl⟩
      obtain ⟨i2, hi2⟩ : ∃ i, i = r2 % 16 := ⟨_, rfl⟩
      rw [← hi1] at g1 t1 f2
      rw [← hi2] at g2 t2 f3
      obtain ⟨u1, hu1⟩ : ∃ u, u = tab16.getD i1 0 := ⟨_, rfl⟩
      obtain ⟨u2, hu2⟩ : ∃ u, u = tab16.getD i2 0 := ⟨_, rfl⟩
      rw [← hu1] at t1 f2
      rw [← hu2] at t2 f3
      have k1 : (i1 : Int) < 16 := by omega
      have k2 : (i2 : Int) < 16 := by omega
      have k3 : (x : Int) ≤ 255 := by omega
      have k4 : (0 : Int) ≤ x := by omega
      have k5 : (r1 : Int) ≤ 4294967295 := by omega
      have k6 : (r2 : Int) ≤ 4294967295 := by omega
      have HSJ := Lib.hid hs'
      clear hu1 hu2 hi1 hi2 h1 h2 h3 hs hs' n1 n2 lt1 lt2 hrr d1 d2 l1 hr1 hr
      go_wp2_with fail
      go_roundw
      case rel => exact ⟨j + 1, by omega, by go_num, by rw [HSJ.out], trivial⟩
      case measure => simp [intOf]; omega
    · obtain rfl : j = l.length := by omega
      have he := HE.out
      go_wp2_with fail
      go_ret
      exact ⟨rfl, rfl⟩
theorem sum_any (l : List UInt8) (v : Value) (w : World) (hv : Bs w v l) (hT : TabC w) : Calls Tryd.prog 39 #[v] w fun e w' => e = .returned (.int .u32 (crcS l : Nat)) ∧ w = w' := by
  obtain ⟨ao, cap, rfl, _, _⟩ := hv.form
  have MO := fun w hv hT => more_any l (.slice ao l.length cap) w hv hT
  go_enter Tryd.func39, Tryd.ntmps39
  go_wp2_with (go_at_call 58; (with_reducible refine (MO _ hv hT).mono ?_); rintro e w2 ⟨rfl, rfl⟩)
  go_ret
  exact ⟨rfl, rfl⟩
end Go.Proofs.YtboigcnpamldlaaDoor
