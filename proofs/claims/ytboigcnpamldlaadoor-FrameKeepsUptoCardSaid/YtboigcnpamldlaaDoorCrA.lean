import Derived.Test.YtboigcnpamldlaaDoorGOct
/-! Sums of rows of bytes, in plain: bit by bit, and four bits at a time. -/
set_option linter.unusedVariables false
set_option linter.unusedSimpArgs false
set_option maxRecDepth 100000
namespace Go.Proofs.YtboigcnpamldlaaDoor
open Go.RowKit Gw

/-- a step of a number -/
def stp (r : Nat) : Nat := if r % 2 = 1 then (r / 2) ^^^ 0xedb88320 else r / 2
def stp4 (r : Nat) : Nat := stp (stp (stp (stp r)))
/-- a byte's step -/
def byt (r b : Nat) : Nat := stp4 (stp4 (r ^^^ b))
def crcM (r : Nat) (l : List UInt8) : Nat := l.foldl (fun r b => byt r b.toNat) r
def crcS (l : List UInt8) : Nat := crcM 0xffffffff l ^^^ 0xffffffff
def tab16 : List Nat := [0x00000000, 0x1db71064, 0x3b6e20c8, 0x26d930ac, 0x76dc4190, 0x6b6b51f4, 0x4db26158, 0x5005713c, 0xedb88320, 0xf00f9344, 0xd6d6a3e8, 0xcb61b38c, 0x9b64c2b0, 0x86d3d2d4, 0xa00ae278, 0xbdbdf21c]
theorem xor_can {a b c : Nat} (h : a ^^^ c = b ^^^ c) : a = b := by
  have := congrArg (fun x => x ^^^ c) h
  simpa [Nat.xor_assoc, Nat.xor_self] using this
theorem xor_can' {a b c : Nat} (h : c ^^^ a = c ^^^ b) : a = b := xor_can (c := c) (by rw [Nat.xor_comm a, Nat.xor_comm b]; exact h)
theorem stp_lt {r : Nat} (h : r < 4294967296) : stp r < 4294967296 := by
  unfold stp
  split
  · exact Nat.xor_lt_two_pow (n := 32) (by omega) (by omega)
  · omega
theorem stp_xor (a b : Nat) : stp (a ^^^ b) = stp a ^^^ stp b := by
  unfold stp
  have hd : (a ^^^ b) / 2 = a / 2 ^^^ b / 2 := by
    have := Nat.shiftRight_xor_distrib (a := a) (b := b) (i := 1)
    simpa [Nat.shiftRight_eq_div_pow] using this
  have hm : (a ^^^ b) % 2 = (a % 2 + b % 2) % 2 := by
    have h := Nat.testBit_xor a b 0
    rw [Nat.testBit_zero, Nat.testBit_zero, Nat.testBit_zero] at h
    have h1 : a % 2 = 0 ∨ a % 2 = 1 := by omega
    have h2 : b % 2 = 0 ∨ b % 2 = 1 := by omega
    have h3 : (a ^^^ b) % 2 = 0 ∨ (a ^^^ b) % 2 = 1 := by omega
    rcases h1 with h1 | h1 <;> rcases h2 with h2 | h2 <;> rcases h3 with h3 | h3 <;> rw [h1, h2, h3] at h <;> rw [h1, h2, h3] <;> first | (exact absurd h (by decide)) | rfl
  rw [hd, hm]
  have h1 : a % 2 = 0 ∨ a % 2 = 1 := by omega
  have h2 : b % 2 = 0 ∨ b % 2 = 1 := by omega
  rcases h1 with h1 | h1 <;> rcases h2 with h2 | h2 <;> rw [h1, h2] <;> simp
  · rw [Nat.xor_assoc]
  · rw [Nat.xor_assoc, Nat.xor_assoc, Nat.xor_comm (b / 2)]
  · rw [Nat.xor_assoc, ← Nat.xor_assoc 0xedb88320, Nat.xor_comm 0xedb88320 (b / 2), Nat.xor_assoc (b / 2), Nat.xor_self, Nat.xor_zero]
theorem stp4_xor (a b : Nat) : stp4 (a ^^^ b) = stp4 a ^^^ stp4 b := by
  unfold stp4
  rw [stp_xor, stp_xor, stp_xor, stp_xor]
theorem stp_dbl (a : Nat) : stp (2 * a) = a := by
  unfold stp
  rw [if_neg (by omega)]
  omega
theorem split16 (r : Nat) : r = (16 * (r / 16)) ^^^ (r % 16) := by
  have h := Nat.div_add_mod r 16
  have e : 16 * (r / 16) + r % 16 = (16 * (r / 16)) ^^^ (r % 16) := by
    apply Nat.eq_of_testBit_eq
    intro i
    have h1 := Nat.testBit_two_pow_mul_add (i := 4) (r / 16) (b := r % 16) (Nat.mod_lt _ (by omega)) i
    have h2 := Nat.testBit_two_pow_mul (i := 4) (a := r / 16) (j := i)
    simp only [show (2 : Nat) ^ 4 = 16 from rfl] at h1 h2
    rw [h1, Nat.testBit_xor, h2]
    by_cases hi : i < 4
    · simp [hi, show ¬ 4 ≤ i by omega]
    · have : (r % 16).testBit i = false := Nat.testBit_lt_two_pow (Nat.lt_of_lt_of_le (Nat.mod_lt _ (by omega)) (show 2 ^ 4 ≤ 2 ^ i from Nat.pow_le_pow_right (by omega) (by omega)))
      simp [hi, show 4 ≤ i by omega, this]
  omega
theorem stp4_16 (a : Nat) : stp4 (16 * a) = a := by
  unfold stp4
  rw [show 16 * a = 2 * (2 * (2 * (2 * a))) by omega, stp_dbl, stp_dbl, stp_dbl, stp_dbl]
theorem tab16_at : ∀ i, i < 16 → tab16.getD i 0 = stp4 i := by decide
theorem nib (r : Nat) : stp4 r = tab16.getD (r % 16) 0 ^^^ r / 16 := by
  rw [tab16_at _ (Nat.mod_lt _ (by omega))]
  conv => lhs; rw [split16 r]
  rw [stp4_xor, stp4_16, Nat.xor_comm]
theorem stp4_lt {r : Nat} (h : r < 4294967296) : stp4 r < 4294967296 := stp_lt (stp_lt (stp_lt (stp_lt h)))
theorem byt_lt {r b : Nat} (h : r < 4294967296) (hb : b < 4294967296) : byt r b < 4294967296 := stp4_lt (stp4_lt (Nat.xor_lt_two_pow (n := 32) h hb))
theorem u8_lt32 (b : UInt8) : b.toNat < 4294967296 := by have := b.toNat_lt; omega
theorem crcM_lt : ∀ (l : List UInt8) {r : Nat}, r < 4294967296 → crcM r l < 4294967296
  | [], _, h => h
  | b :: l, _, h => crcM_lt l (byt_lt h (u8_lt32 b))
theorem crcS_lt (l : List UInt8) : crcS l < 4294967296 := Nat.xor_lt_two_pow (n := 32) (crcM_lt l (by omega)) (by omega)
theorem crcM_succ (l : List UInt8) (i : Nat) (h : i < l.length) (r : Nat) : crcM r (l.take (i + 1)) = byt (crcM r (l.take i)) l[i].toNat := by
  unfold crcM
  rw [List.take_add_one, List.getElem?_eq_getElem h, List.foldl_append]
  rfl
/-! ### Another byte, another sum -/
theorem stp_inj {a b : Nat} (ha : a < 4294967296) (hb : b < 4294967296) (h : stp a = stp b) : a = b := by
  have top : ∀ x, x < 4294967296 → (stp x).testBit 31 = decide (x % 2 = 1) := fun x hx => by
    unfold stp
    have h0 : (x / 2).testBit 31 = false := Nat.testBit_lt_two_pow (by omega)
    split
    · rename_i h1
      rw [Nat.testBit_xor, h0, h1]
      decide
    · rename_i h1
      rw [h0]
      simp [h1]
  have e := congrArg (fun x => x.testBit 31) h
  rw [top a ha, top b hb] at e
  have hp : (a % 2 = 1) ↔ (b % 2 = 1) := by simpa using e
  unfold stp at h
  by_cases h1 : a % 2 = 1
  · rw [if_pos h1, if_pos (hp.1 h1)] at h
    have := xor_can h
    have := hp.1 h1
    omega
  · rw [if_neg h1, if_neg (fun h2 => h1 (hp.2 h2))] at h
    have : ¬ b % 2 = 1 := fun h2 => h1 (hp.2 h2)
    omega
theorem stp4_inj {a b : Nat} (ha : a < 4294967296) (hb : b < 4294967296) (h : stp4 a = stp4 b) : a = b :=
  stp_inj ha hb (stp_inj (stp_lt ha) (stp_lt hb) (stp_inj (stp_lt (stp_lt ha)) (stp_lt (stp_lt hb)) (stp_inj (stp_lt (stp_lt (stp_lt ha))) (stp_lt (stp_lt (stp_lt hb))) h)))
theorem byt_inj {r s a b : Nat} (hr : r < 4294967296) (hs : s < 4294967296) (ha : a < 4294967296) (hb : b < 4294967296) (h : byt r a = byt s b) : r ^^^ a = s ^^^ b :=
  have h1 := Nat.xor_lt_two_pow (n := 32) hr ha
  have h2 := Nat.xor_lt_two_pow (n := 32) hs hb
  stp4_inj h1 h2 (stp4_inj (stp4_lt h1) (stp4_lt h2) h)
theorem crcM_inj : ∀ (l : List UInt8) {r s : Nat}, r < 4294967296 → s < 4294967296 → crcM r l = crcM s l → r = s
  | [], _, _, _, _, h => h
  | b :: l, _, _, hr, hs, h => by
    have h1 := crcM_inj l (byt_lt hr (u8_lt32 b)) (byt_lt hs (u8_lt32 b)) h
    exact xor_can (byt_inj hr hs (u8_lt32 b) (u8_lt32 b) h1)
theorem crcM_app (r : Nat) (a b : List UInt8) : crcM r (a ++ b) = crcM (crcM r a) b := by unfold crcM; rw [List.foldl_append]
theorem crcS_other (a b : List UInt8) (x y : UInt8) (hxy : x ≠ y) : crcS (a ++ x :: b) ≠ crcS (a ++ y :: b) := by
  intro he
  unfold crcS at he
  have he := xor_can he
  rw [crcM_app, crcM_app] at he
  have hs := crcM_lt a (r := 0xffffffff) (by omega)
  have h1 := crcM_inj b (byt_lt hs (u8_lt32 x)) (byt_lt hs (u8_lt32 y)) he
  have h2 := xor_can' (byt_inj hs hs (u8_lt32 x) (u8_lt32 y) h1)
  exact hxy (UInt8.toNat_inj.1 h2)
end Go.Proofs.YtboigcnpamldlaaDoor
