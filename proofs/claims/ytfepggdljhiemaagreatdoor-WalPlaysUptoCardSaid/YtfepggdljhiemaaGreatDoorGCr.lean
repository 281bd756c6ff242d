import Derived.Test.YtfepggdljhiemaaGreatDoorGOe
import Derived.Test.YtfepggdljhiemaaGreatDoorGOct
/-! Bytes and their worth; what taking does to a list that is known. -/
set_option linter.unusedVariables false
set_option linter.unusedSimpArgs false
set_option maxRecDepth 100000
namespace Go.Proofs.YtfepggdljhiemaaGreatDoor
open Go.RowKit Gw

theorem low_cons (n k : Nat) : low n (k + 1) = UInt8.ofNat n :: low (n / 256) k := by
  unfold low
  rw [List.range_succ_eq_map, List.map_cons, List.map_map]
  congr 1
  · simp
  · apply List.map_congr_left
    intro i _
    simp [Function.comp, Nat.pow_succ, Nat.div_div_eq_div_mul, Nat.mul_comm]
theorem val_low' : ∀ (k n : Nat), n < 256 ^ k → val (low n k) = n
  | 0, n, h => by simp at h; subst h; rfl
  | k + 1, n, h => by
    rw [low_cons, val_cons, val_low' k (n / 256) (by rw [Nat.pow_succ] at h; omega), UInt8.toNat_ofNat']
    omega

end Go.Proofs.YtfepggdljhiemaaGreatDoor

/-! The number of some bytes. -/
namespace Go.Proofs.YtfepggdljhiemaaGreatDoor
open Go.RowKit Gw

/-- the number of some bytes from a place on; what lacks is 0 -/
def nb (b : List UInt8) (p k : Nat) : Nat := val ((b.drop p).take k)
theorem nb_lt (b : List UInt8) (p k : Nat) : nb b p k < 256 ^ k := by
  unfold nb
  have h := val_lt ((b.drop p).take k)
  have : ((b.drop p).take k).length ≤ k := by rw [List.length_take]; omega
  exact Nat.lt_of_lt_of_le h (Nat.pow_le_pow_right (by omega) this)
theorem nb_app (x y z : List UInt8) (p n : Nat) (hp : x.length = p) (hn : y.length = n) : nb (x ++ (y ++ z)) p n = val y := by
  subst hp hn
  unfold nb
  rw [List.drop_left, List.take_left]
theorem nb_take (b : List UInt8) (p k m : Nat) (h : p + k ≤ m) : nb (b.take m) p k = nb b p k := by
  unfold nb
  rw [List.drop_take, List.take_take, Nat.min_eq_left (by omega)]
end Go.Proofs.YtfepggdljhiemaaGreatDoor

/-! Sums of rows of bytes, in plain: bit by bit, and four bits at a time. -/
namespace Go.Proofs.YtfepggdljhiemaaGreatDoor
open Go.RowKit Gw

/-- a step of a number -/
def stp (r : Nat) : Nat := if r % 2 = 1 then (r / 2) ^^^ 0xedb88320 else r / 2
def stp4 (r : Nat) : Nat := stp (stp (stp (stp r)))
/-- a byte's step -/
def byt (r b : Nat) : Nat := stp4 (stp4 (r ^^^ b))
def crcM (r : Nat) (l : List UInt8) : Nat := l.foldl (fun r b => byt r b.toNat) r
def crcS (l : List UInt8) : Nat := crcM 0xffffffff l ^^^ 0xffffffff
def tab16 : List Nat := [0x00000000, 0x1db71064, 0x3b6e20c8, 0x26d930ac, 0x76dc4190, 0x6b6b51f4, 0x4db26158, 0x5005713c, 0xedb88320, 0xf00f9344, 0xd6d6a3e8, 0xcb61b38c, 0x9b64c2b0, 0x86d3d2d4, 0xa00ae278, 0xbdbdf21c]
theorem stp_lt {r : Nat} (h : r < 4294967296) : stp r < 4294967296 := by
  unfold stp
  split
  · exact Nat.xor_lt_two_pow (n := 32) (by omega) (by omega)
  · omega
theorem stp_xor (a b : Nat) : stp (a ^^^ b) = stp a ^^^ stp b := by
  unfold stp
  have hd : (a ^^^ b) / 2 = a / 2 ^^^ b / 2 := by
    have := Nat.shiftRight_xor_distrib (a := a) (b := b) (i := 1)
    simpa [Nat.shiftRight_eq_div_pow] using this
  have hm : (a ^^^ b) % 2 = (a % 2 + b % 2) % 2 := by
    have h := Nat.testBit_xor a b 0
    rw [Nat.testBit_zero, Nat.testBit_zero, Nat.testBit_zero] at h
    have h1 : a % 2 = 0 ∨ a % 2 = 1 := by omega
    have h2 : b % 2 = 0 ∨ b % 2 = 1 := by omega
    have h3 : (a ^^^ b) % 2 = 0 ∨ (a ^^^ b) % 2 = 1 := by omega
    rcases h1 with h1 | h1 <;> rcases h2 with h2 | h2 <;> rcases h3 with h3 | h3 <;> rw [h1, h2, h3] at h <;> rw [h1, h2, h3] <;> first | (exact absurd h (by decide)) | rfl
  rw [hd, hm]
  have h1 : a % 2 = 0 ∨ a % 2 = 1 := by omega
  have h2 : b % 2 = 0 ∨ b % 2 = 1 := by omega
  rcases h1 with h1 | h1 <;> rcases h2 with h2 | h2 <;> rw [h1, h2] <;> simp
  · rw [Nat.xor_assoc]
  · rw [Nat.xor_assoc, Nat.xor_assoc, Nat.xor_comm (b / 2)]
  · rw [Nat.xor_assoc, ← Nat.xor_assoc 0xedb88320, Nat.xor_comm 0xedb88320 (b / 2), Nat.xor_assoc (b / 2), Nat.xor_self, Nat.xor_zero]
theorem stp4_xor (a b : Nat) : stp4 (a ^^^ b) = stp4 a ^^^ stp4 b := by
  unfold stp4
  rw [stp_xor, stp_xor, stp_xor, stp_xor]
theorem stp_dbl (a : Nat) : stp (2 * a) = a := by
  unfold stp
  rw [if_neg (by omega)]
  omega
theorem split16 (r : Nat) : r = (16 * (r / 16)) ^^^ (r % 16) := by
  have h := Nat.div_add_mod r 16
  have e : 16 * (r / 16) + r % 16 = (16 * (r / 16)) ^^^ (r % 16) := by
    apply Nat.eq_of_testBit_eq
    intro i
    have h1 := Nat.testBit_two_pow_mul_add (i := 4) (r / 16) (b := r % 16) (Nat.mod_lt _ (by omega)) i
    have h2 := Nat.testBit_two_pow_mul (i := 4) (a := r / 16) (j := i)
    simp only [show (2 : Nat) ^ 4 = 16 from rfl] at h1 h2
    rw [h1, Nat.testBit_xor, h2]
    by_cases hi : i < 4
    · simp [hi, show ¬ 4 ≤ i by omega]
    · have : (r % 16).testBit i = false := Nat.testBit_lt_two_pow (Nat.lt_of_lt_of_le (Nat.mod_lt _ (by omega)) (show 2 ^ 4 ≤ 2 ^ i from Nat.pow_le_pow_right (by omega) (by omega)))
      simp [hi, show 4 ≤ i by omega, this]
  omega
theorem stp4_16 (a : Nat) : stp4 (16 * a) = a := by
  unfold stp4
  rw [show 16 * a = 2 * (2 * (2 * (2 * a))) by omega, stp_dbl, stp_dbl, stp_dbl, stp_dbl]
theorem tab16_at : ∀ i, i < 16 → tab16.getD i 0 = stp4 i := by decide
theorem nib (r : Nat) : stp4 r = tab16.getD (r % 16) 0 ^^^ r / 16 := by
  rw [tab16_at _ (Nat.mod_lt _ (by omega))]
  conv => lhs; rw [split16 r]
  rw [stp4_xor, stp4_16, Nat.xor_comm]
theorem stp4_lt {r : Nat} (h : r < 4294967296) : stp4 r < 4294967296 := stp_lt (stp_lt (stp_lt (stp_lt h)))
theorem byt_lt {r b : Nat} (h : r < 4294967296) (hb : b < 4294967296) : byt r b < 4294967296 := stp4_lt (stp4_lt (Nat.xor_lt_two_pow (n := 32) h hb))
theorem u8_lt32 (b : UInt8) : b.toNat < 4294967296 := by have := b.toNat_lt; omega
theorem crcM_lt : ∀ (l : List UInt8) {r : Nat}, r < 4294967296 → crcM r l < 4294967296
  | [], _, h => h
  | b :: l, _, h => crcM_lt l (byt_lt h (u8_lt32 b))
theorem crcS_lt (l : List UInt8) : crcS l < 4294967296 := Nat.xor_lt_two_pow (n := 32) (crcM_lt l (by omega)) (by omega)
theorem crcM_succ (l : List UInt8) (i : Nat) (h : i < l.length) (r : Nat) : crcM r (l.take (i + 1)) = byt (crcM r (l.take i)) l[i].toNat := by
  unfold crcM
  rw [List.take_add_one, List.getElem?_eq_getElem h, List.foldl_append]
  rfl
/-! ### Another byte, another sum -/
end Go.Proofs.YtfepggdljhiemaaGreatDoor

/-! Sums: the reference's. -/
namespace Go.Proofs.YtfepggdljhiemaaGreatDoor
open Go.RowKit Gw

theorem bits_xor_u32 (a b : Nat) (ha : a < 4294967296) (hb : b < 4294967296) : bits .xor .u32 (a : Int) (b : Int) = ((a ^^^ b : Nat) : Int) := by
  have ha' : a % 2 ^ IntKind.u32.bits = a := Nat.mod_eq_of_lt ha
  have hb' : b % 2 ^ IntKind.u32.bits = b := Nat.mod_eq_of_lt hb
  have hx := Nat.xor_lt_two_pow (n := 32) ha hb
  simp only [bits, BitVec.ofInt_natCast, BitVec.toNat_xor, BitVec.toNat_ofNat, ha', hb']
  rw [IntKind.wrap_u32]
  omega
theorem bits_and15_u32 (a : Nat) (ha : a < 4294967296) : bits .and .u32 (a : Int) 15 = ((a % 16 : Nat) : Int) := by
  have ha' : a % 2 ^ IntKind.u32.bits = a := Nat.mod_eq_of_lt ha
  have hb' : 15 % 2 ^ IntKind.u32.bits = 15 := rfl
  have h15 : (15 : Int) = ((15 : Nat) : Int) := rfl
  have e : a &&& 15 = a % 16 := Nat.and_two_pow_sub_one_eq_mod a 4
  rw [h15]
  simp only [bits, BitVec.ofInt_natCast, BitVec.toNat_and, BitVec.toNat_ofNat, ha', hb', e]
  rw [IntKind.wrap_u32]
  omega
set_option maxHeartbeats 1000000 in
theorem rstep_any (r : Nat) (w : World) (h : r < 4294967296) : Calls Tryz.prog 204 #[.int .u32 (r : Nat)] w fun e w' => e = .returned (.int .u32 (stp r : Nat)) ∧ w = w' := by
  have y1 : (r : Int) ≤ 4294967295 := by omega
  have hd : (r : Int) / 2 = ((r / 2 : Nat) : Int) := by omega
  by_cases h1 : r % 2 = 1
  · have e0 : (r : Int) % 2 = 1 := by omega
    have hx : bits .xor .u32 ((r : Int) / 2) 3988292384 = (stp r : Nat) := by
      rw [hd]
      unfold stp
      rw [if_pos h1]
      exact bits_xor_u32 (r / 2) 0xedb88320 (by omega) (by omega)
    clear hd
    go_enter Tryz.func204, Tryz.ntmps204
    go_wp2_with fail
    go_ret
    exact ⟨rfl, rfl⟩
  · have e0 : (r : Int) % 2 = 0 := by omega
    have hx : (r : Int) / 2 = (stp r : Nat) := by
      rw [hd]
      unfold stp
      rw [if_neg h1]
    clear hd
    go_enter Tryz.func204, Tryz.ntmps204
    go_wp2_with fail
    go_ret
    exact ⟨rfl, rfl⟩
def stpN : Nat → Nat → Nat | 0, r => r | j + 1, r => stp (stpN j r)
theorem stpN_lt : ∀ (j : Nat) {r : Nat}, r < 4294967296 → stpN j r < 4294967296
  | 0, _, h => h
  | j + 1, _, h => stp_lt (stpN_lt j h)
set_option maxHeartbeats 1000000 in
theorem rcbyte_any (r x : Nat) (w : World) (h : r < 4294967296) (hx : x ≤ 255) : Calls Tryz.prog 203 #[.int .u32 (r : Nat), .int .u8 (x : Nat)] w fun e w' => e = .returned (.int .u32 (byt r x : Nat)) ∧ w = w' := by
  have y1 : (r : Int) ≤ 4294967295 := by omega
  have y2 : (x : Int) ≤ 255 := by omega
  have y3 : (0 : Int) ≤ x := by omega
  have hr1 := Nat.xor_lt_two_pow (n := 32) h (show x < 2 ^ 32 by omega)
  have f1 := bits_xor_u32 r x h (by omega)
  have hB : byt r x = stpN 8 (r ^^^ x) := rfl
  obtain ⟨r1, hr⟩ : ∃ r1, r1 = r ^^^ x := ⟨_, rfl⟩
  obtain ⟨B, hBB⟩ : ∃ B, B = byt r x := ⟨_, rfl⟩
  rw [← hr] at f1 hr1 hB
  rw [← hBB] at hB ⊢
  have HB := Lib.hid hB
  clear hr hBB hB
  have ST := fun w j => rstep_any (stpN j r1) w (stpN_lt j hr1)
  have y5 : (r1 : Int) ≤ 4294967295 := by omega
  go_enter Tryz.func203, Tryz.ntmps203
  go_wp2_with fail
  go_loopw [0, 5] (fun u i wr => ∃ (j : Nat), j ≤ 8 ∧ i = .int .i64 j ∧ u = .int .u32 (stpN j r1 : Nat) ∧ w = wr) (fun _ i _ => 8 - (intOf i).toNat)
  case atStart => exact ⟨0, by omega, rfl, rfl, rfl⟩
  case round =>
    obtain ⟨j, hj, rfl, rfl, rfl⟩ := hrel
    by_cases hlt : j < 8
    · have z1 : (j : Int) < 8 := by omega
      go_wp2_with (go_at_call 204; (with_reducible refine (ST _ j).mono ?_); rintro e w2 ⟨rfl, rfl⟩)
      go_roundw
      case rel => exact ⟨j + 1, by omega, by go_num, rfl, trivial⟩
      case measure => simp [intOf]; omega
    · obtain rfl : j = 8 := by omega
      go_wp2_with fail
      go_ret
      exact ⟨by rw [HB.out]; rfl, by first | rfl | trivial⟩
set_option maxHeartbeats 1000000 in
theorem rmore_any (l : List UInt8) (v : Value) (w : World) (hv : Bs w v l) : Calls Tryz.prog 199 #[.int .u32 0, v] w fun e w' => e = .returned (.int .u32 (crcS l : Nat)) ∧ w = w' := by
  obtain ⟨ao, cap, rfl, _, _⟩ := hv.form
  have f0 : bits .xor .u32 0 4294967295 = 4294967295 := by decide
  have hlt : ∀ j, crcM 0xffffffff (l.take j) < 4294967296 := fun j => crcM_lt _ (by omega)
  have BY := fun w j (x : UInt8) => rcbyte_any (crcM 0xffffffff (l.take j)) x.toNat w (hlt j) (by have := x.toNat_lt; omega)
  have hS : ∀ u : Nat, u = crcM 0xffffffff l → bits .xor .u32 (u : Int) 4294967295 = (crcS l : Nat) := fun u hu => by
    subst hu
    exact bits_xor_u32 _ 0xffffffff (crcM_lt _ (by omega)) (by omega)
  have hsu := fun j (hj : j < l.length) => crcM_succ l j hj 0xffffffff
  have h0 : crcM 0xffffffff (l.take 0) = 4294967295 := rfl
  obtain ⟨C, hC⟩ : ∃ C : Nat → Nat, C = fun j => crcM 0xffffffff (l.take j) := ⟨_, rfl⟩
  have hCj : ∀ j, C j = crcM 0xffffffff (l.take j) := fun j => by rw [hC]
  simp only [← hCj] at BY hsu h0 hlt
  have hend : bits .xor .u32 (C l.length : Int) 4294967295 = (crcS l : Nat) := hS _ (by rw [hCj, List.take_of_length_le (Nat.le_refl _)])
  clear hCj hC hS
  obtain ⟨S, hS⟩ : ∃ S, S = crcS l := ⟨_, rfl⟩
  rw [← hS] at hend ⊢
  clear hS
  have HS := Lib.hid hsu
  have HE := Lib.hid hend
  have H0 := Lib.hid h0
  clear hsu hend h0
  go_enter Tryz.func199, Tryz.ntmps199
  go_wp2_with fail
  go_loopw [5, 6] (fun u i wr => ∃ (j : Nat), j ≤ l.length ∧ i = .int .i64 j ∧ u = .int .u32 (C j : Nat) ∧ w = wr) (fun _ i _ => l.length - (intOf i).toNat)
  case atStart => exact ⟨0, by omega, rfl, by rw [H0.out]; rfl, rfl⟩
  case round =>
    obtain ⟨j, hj, rfl, rfl, rfl⟩ := hrel
    by_cases hjl : j < l.length
    · have z1 : (j : Int) < l.length := by omega
      obtain ⟨b, o, rfl, c1⟩ := hv.byte hjl
      have hs := HS.out j hjl
      obtain ⟨x, hx⟩ : ∃ x, x = l[j] := ⟨_, rfl⟩
      rw [← hx] at c1 hs
      clear hx
      have HSJ := Lib.hid hs
      clear hs
      go_wp2_with (go_at_call 203; (with_reducible refine (BY _ j x).mono ?_); rintro e w2 ⟨rfl, rfl⟩)
      go_roundw
      case rel => exact ⟨j + 1, by omega, by go_num, by rw [HSJ.out], trivial⟩
      case measure => simp [intOf]; omega
    · obtain rfl : j = l.length := by omega
      have he := HE.out
      go_wp2_with fail
      go_ret
      exact ⟨rfl, rfl⟩
theorem rsum_any (l : List UInt8) (v : Value) (w : World) (hv : Bs w v l) : Calls Tryz.prog 192 #[v] w fun e w' => e = .returned (.int .u32 (crcS l : Nat)) ∧ w = w' := by
  obtain ⟨ao, cap, rfl, _, _⟩ := hv.form
  have MO := fun w hv => rmore_any l (.slice ao l.length cap) w hv
  go_enter Tryz.func192, Tryz.ntmps192
  go_wp2_with (go_at_call 199; (with_reducible refine (MO _ hv).mono ?_); rintro e w2 ⟨rfl, rfl⟩)
  go_ret
  exact ⟨rfl, rfl⟩
/-- the table as it is laid -/
def TabC (w : World) : Prop := 0 < w.heap.size ∧ ∀ i, i < 16 → w.cell? ⟨0, i, none⟩ = some (.int .u32 (tab16.getD i 0 : Nat))
theorem TabC.ext {w w' : World} (h : TabC w) (hm : Mod [] w w') : TabC w' :=
  ⟨Nat.lt_of_lt_of_le h.1 hm.size, fun i hi => by
    rw [← h.2 i hi]
    simp [World.cell?, hm.block 0 h.1 (by simp)]⟩
theorem TabC.mod {w w' : World} {M : List Nat} (h : TabC w) (hm : Mod M w w') (h0 : 0 ∉ M) : TabC w' :=
  ⟨Nat.lt_of_lt_of_le h.1 hm.size, fun i hi => by
    rw [← h.2 i hi]
    simp [World.cell?, hm.block 0 h.1 h0]⟩
set_option maxHeartbeats 2000000 in
theorem more_any (l : List UInt8) (v : Value) (w : World) (hv : Bs w v l) (hT : TabC w) : Calls Tryz.prog 141 #[.int .u32 0, v] w fun e w' => e = .returned (.int .u32 (crcS l : Nat)) ∧ w = w' := by
  obtain ⟨ao, cap, rfl, _, _⟩ := hv.form
  have hsg : IntKind.u32.signed = false := rfl
  have f0 : bits .xor .u32 IntKind.u32.max 0 = 4294967295 := by decide
  have hlt : ∀ j, crcM 0xffffffff (l.take j) < 4294967296 := fun j => crcM_lt _ (by omega)
  have hS : ∀ u : Nat, u = crcM 0xffffffff l → bits .xor .u32 IntKind.u32.max (u : Int) = (crcS l : Nat) := fun u hu => by
    subst hu
    have h1 := bits_xor_u32 0xffffffff (crcM 0xffffffff l) (by omega) (crcM_lt _ (by omega))
    rw [Nat.xor_comm] at h1
    exact h1
  have hsu := fun j (hj : j < l.length) => crcM_succ l j hj 0xffffffff
  have h0 : crcM 0xffffffff (l.take 0) = 4294967295 := rfl
  obtain ⟨C, hC⟩ : ∃ C : Nat → Nat, C = fun j => crcM 0xffffffff (l.take j) := ⟨_, rfl⟩
  have hCj : ∀ j, C j = crcM 0xffffffff (l.take j) := fun j => by rw [hC]
  simp only [← hCj] at hsu h0 hlt
  have hend : bits .xor .u32 IntKind.u32.max (C l.length : Int) = (crcS l : Nat) := hS _ (by rw [hCj, List.take_of_length_le (Nat.le_refl _)])
  clear hCj hC hS
  obtain ⟨S, hS⟩ : ∃ S, S = crcS l := ⟨_, rfl⟩
  rw [← hS] at hend ⊢
  clear hS
  have HS := Lib.hid hsu
  have HE := Lib.hid hend
  have H0 := Lib.hid h0
  clear hsu hend h0
  go_enter Tryz.func141, Tryz.ntmps141
  go_wp2_with fail
  go_loopw [5, 12] (fun u i wr => ∃ (j : Nat), j ≤ l.length ∧ i = .int .i64 j ∧ u = .int .u32 (C j : Nat) ∧ w = wr) (fun _ i _ => l.length - (intOf i).toNat)
  case atStart => exact ⟨0, by omega, rfl, by rw [H0.out]; rfl, rfl⟩
  case round =>
    obtain ⟨j, hj, rfl, rfl, rfl⟩ := hrel
    by_cases hjl : j < l.length
    · have z1 : (j : Int) < l.length := by omega
      obtain ⟨b, o, rfl, c1⟩ := hv.byte hjl
      have hs := HS.out j hjl
      obtain ⟨x, hx⟩ : ∃ x, x = (l[j]).toNat := ⟨_, rfl⟩
      have hx2 : x ≤ 255 := by have := (l[j]).toNat_lt; omega
      rw [← hx] at c1 hs
      clear hx
      have hr := hlt j
      obtain ⟨r, hrr⟩ : ∃ r, r = C j := ⟨_, rfl⟩
      rw [← hrr] at hs hr ⊢
      have hs' : C (j + 1) = stp4 (stp4 (r ^^^ x)) := hs
      have hr1 := Nat.xor_lt_two_pow (n := 32) hr (show x < 2 ^ 32 by omega)
      have f1 := bits_xor_u32 r x hr (by omega)
      obtain ⟨r1, h1⟩ : ∃ r1, r1 = r ^^^ x := ⟨_, rfl⟩
      rw [← h1] at f1 hr1 hs'
      have g1 := bits_and15_u32 r1 hr1
      have t1 := hT.2 (r1 % 16) (Nat.mod_lt _ (by omega))
      have n1 := nib r1
      have l1 := stp4_lt hr1
      have lt1 : tab16.getD (r1 % 16) 0 < 4294967296 := by rw [tab16_at _ (Nat.mod_lt _ (by omega))]; exact stp4_lt (by omega)
      have f2 := bits_xor_u32 (tab16.getD (r1 % 16) 0) (r1 / 16) lt1 (by omega)
      rw [← n1] at f2
      obtain ⟨r2, h2⟩ : ∃ r2, r2 = stp4 r1 := ⟨_, rfl⟩
      rw [← h2] at f2 l1 hs'
      have g2 := bits_and15_u32 r2 l1
      have t2 := hT.2 (r2 % 16) (Nat.mod_lt _ (by omega))
      have n2 := nib r2
      have lt2 : tab16.getD (r2 % 16) 0 < 4294967296 := by rw [tab16_at _ (Nat.mod_lt _ (by omega))]; exact stp4_lt (by omega)
      have f3 := bits_xor_u32 (tab16.getD (r2 % 16) 0) (r2 / 16) lt2 (by omega)
      rw [← n2] at f3
      obtain ⟨r3, h3⟩ : ∃ r3, r3 = stp4 r2 := ⟨_, rfl⟩
      rw [← h3] at f3 hs'
      have d1 : ((r1 / 16 : Nat) : Int) = (r1 : Int) / 16 := by omega
      have d2 : ((r2 / 16 : Nat) : Int) = (r2 : Int) / 16 := by omega
      rw [d1] at f2
      rw [d2] at f3
      obtain ⟨i1, hi1⟩ : ∃ i, i = r1 % 16 := ⟨_, rfl⟩
      obtain ⟨i2, hi2⟩ : ∃ i, i = r2 % 16 := ⟨_, rfl⟩
      rw [← hi1] at g1 t1 f2
      rw [← hi2] at g2 t2 f3
      obtain ⟨u1, hu1⟩ : ∃ u, u = tab16.getD i1 0 := ⟨_, rfl⟩
      obtain ⟨u2, hu2⟩ : ∃ u, u = tab16.getD i2 0 := ⟨_, rfl⟩
      rw [← hu1] at t1 f2
      rw [← hu2] at t2 f3
      have k1 : (i1 : Int) < 16 := by omega
      have k2 : (i2 : Int) < 16 := by omega
      have k3 : (x : Int) ≤ 255 := by omega
      have k4 : (0 : Int) ≤ x := by omega
      have k5 : (r1 : Int) ≤ 4294967295 := by omega
      have k6 : (r2 : Int) ≤ 4294967295 := by omega
      have HSJ := Lib.hid hs'
      clear hu1 hu2 hi1 hi2 h1 h2 h3 hs hs' n1 n2 lt1 lt2 hrr d1 d2 l1 hr1 hr
      go_wp2_with fail
      go_roundw
      case rel => exact ⟨j + 1, by omega, by go_num, by rw [HSJ.out], trivial⟩
      case measure => simp [intOf]; omega
    · obtain rfl : j = l.length := by omega
      have he := HE.out
      go_wp2_with fail
      go_ret
      exact ⟨rfl, rfl⟩
theorem sum_any (l : List UInt8) (v : Value) (w : World) (hv : Bs w v l) (hT : TabC w) : Calls Tryz.prog 91 #[v] w fun e w' => e = .returned (.int .u32 (crcS l : Nat)) ∧ w = w' := by
  obtain ⟨ao, cap, rfl, _, _⟩ := hv.form
  have MO := fun w hv hT => more_any l (.slice ao l.length cap) w hv hT
  go_enter Tryz.func91, Tryz.ntmps91
  go_wp2_with (go_at_call 141; (with_reducible refine (MO _ hv hT).mono ?_); rintro e w2 ⟨rfl, rfl⟩)
  go_ret
  exact ⟨rfl, rfl⟩
end Go.Proofs.YtfepggdljhiemaaGreatDoor

/-! Slots: the plain law of headers. -/
namespace Go.Proofs.YtfepggdljhiemaaGreatDoor
open Go.RowKit Gw

/-- a header -/
structure Hd where
  g : Nat
  c : Nat
  l : Int
  s : Nat
def hd0 : Hd := ⟨0, 0, 0, 0⟩
/-- its numbers are such as the types hold -/
structure Hd.wf (h : Hd) : Prop where
  g : h.g < 18446744073709551616
  c : h.c < 18446744073709551616
  s : h.s < 4294967296
  l : -9223372036854775808 ≤ h.l ∧ h.l ≤ 9223372036854775807
/-- may it be? -/
def mayH (h : Hd) : Bool := decide (0 < h.g ∧ 0 ≤ h.l ∧ h.l ≤ 67108864)
def gang : List UInt8 := [71, 65, 78, 71]
def hdB (h : Hd) : List UInt8 := gang ++ low h.g 8 ++ low h.c 8 ++ low h.l.toNat 4 ++ low h.s 4
def hdr (h : Hd) : List UInt8 := hdB h ++ low (crcS (hdB h)) 4
theorem hdB_len (h : Hd) : (hdB h).length = 28 := by
  unfold hdB gang
  simp only [List.length_append, low_length, List.length_cons, List.length_nil]
theorem hdr_len (h : Hd) : (hdr h).length = 32 := by
  unfold hdr
  rw [List.length_append, hdB_len, low_length]
/-- what Read answers -/
def parH (b : List UInt8) : Hd := ⟨nb b 4 8, nb b 12 8, (nb b 20 4 : Nat), nb b 24 4⟩
def sumH (b : List UInt8) : Bool := decide (nb b 28 4 = crcS (b.take 28) ∧ b.take 4 = gang)
def errH (b : List UInt8) : Int := if b.length < 32 then 4 else if sumH b = true then (if mayH (parH b) = true then 0 else 2) else 81
def getH (b : List UInt8) : Hd := if errH b = 0 then parH b else hd0
/-- What is written is read as it was, whatever stands behind. -/
theorem getH_of {h : Hd} (hw : h.wf) (hm : mayH h = true) (t : List UInt8) : errH (hdr h ++ t) = 0 ∧ getH (hdr h ++ t) = h := by
  obtain ⟨m1, m2, m3⟩ := of_decide_eq_true hm
  have L := low_length
  have v1 : val (low h.g 8) = h.g := val_low' 8 _ (by have := hw.g; omega)
  have v2 : val (low h.c 8) = h.c := val_low' 8 _ (by have := hw.c; omega)
  have v3 : val (low h.l.toNat 4) = h.l.toNat := val_low' 4 _ (by omega)
  have v4 : val (low h.s 4) = h.s := val_low' 4 _ (by have := hw.s; omega)
  have hc := crcS_lt (hdB h)
  have v5 : val (low (crcS (hdB h)) 4) = crcS (hdB h) := val_low' 4 _ (by omega)
  have hB := hdB_len h
  have hg : gang.length = 4 := rfl
  have e1 : nb (hdr h ++ t) 4 8 = h.g := by
    unfold hdr hdB
    simp only [List.append_assoc]
    exact (nb_app gang (low h.g 8) _ 4 8 rfl (L _ _)).trans v1
  have e2 : nb (hdr h ++ t) 12 8 = h.c := by
    unfold hdr hdB
    simp only [List.append_assoc]
    rw [← List.append_assoc]
    exact (nb_app (gang ++ low h.g 8) (low h.c 8) _ 12 8 (by rw [List.length_append, L, hg]) (L _ _)).trans v2
  have e3 : nb (hdr h ++ t) 20 4 = h.l.toNat := by
    unfold hdr hdB
    simp only [List.append_assoc]
    rw [← List.append_assoc, ← List.append_assoc]
    exact (nb_app (gang ++ low h.g 8 ++ low h.c 8) (low h.l.toNat 4) _ 20 4 (by simp only [List.length_append, L, hg]) (L _ _)).trans v3
  have e4 : nb (hdr h ++ t) 24 4 = h.s := by
    unfold hdr hdB
    simp only [List.append_assoc]
    rw [← List.append_assoc, ← List.append_assoc, ← List.append_assoc]
    exact (nb_app (gang ++ low h.g 8 ++ low h.c 8 ++ low h.l.toNat 4) (low h.s 4) _ 24 4 (by simp only [List.length_append, L, hg]) (L _ _)).trans v4
  have e5 : nb (hdr h ++ t) 28 4 = crcS (hdB h) := by
    unfold hdr
    rw [List.append_assoc]
    exact (nb_app (hdB h) (low (crcS (hdB h)) 4) _ 28 4 hB (L _ _)).trans v5
  have e6 : (hdr h ++ t).take 28 = hdB h := by
    unfold hdr
    rw [List.append_assoc, ← hB, List.take_left]
  have e7 : (hdr h ++ t).take 4 = gang := by
    unfold hdr hdB
    simp only [List.append_assoc]
    exact List.take_left' rfl
  have hp : parH (hdr h ++ t) = h := by
    unfold parH
    rw [e1, e2, e3, e4, Int.toNat_of_nonneg m2]
  have he : errH (hdr h ++ t) = 0 := by
    unfold errH
    rw [if_neg (by rw [List.length_append, hdr_len]; omega), if_pos (by unfold sumH; rw [e5, e6, e7]; simp), hp, if_pos hm]
  exact ⟨he, by unfold getH; rw [if_pos he, hp]⟩
end Go.Proofs.YtfepggdljhiemaaGreatDoor
