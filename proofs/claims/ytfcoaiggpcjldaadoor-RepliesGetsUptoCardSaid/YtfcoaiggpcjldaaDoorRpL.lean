import Derived.Test.YtfcoaiggpcjldaaDoorRpD
import Derived.Test.YtfcoaiggpcjldaaDoorTkL
/-! What is read of bytes is written as these, and what is written is read: the plain law of replies. -/
set_option linter.unusedVariables false
set_option linter.unusedSimpArgs false
set_option maxRecDepth 100000
namespace Go.Proofs.YtfcoaiggpcjldaaDoor
open Go.RowKit Gw

theorem nextI_app (b : Bool) (r : Rp) (n : Nat) (t : List UInt8) (h : n < 256 ^ 4) : nextI b ⟨r, (if b = true then low n 4 else []) ++ t, 0⟩ = ⟨{ r with id := if b = true then (n : Int) else r.id }, t, 0⟩ := by
  cases b with
  | false => rfl
  | true =>
    obtain ⟨h1, h2, h3⟩ := tk_app (low n 4) t 4 (low_length _ _)
    unfold nextI
    simp only [if_true, got]
    rw [h1, h2, h3, val_low' 4 n h]
theorem nextS_app (b : Bool) (r : Rp) (n : Nat) (t : List UInt8) (h : n < 256 ^ 2) : nextS b ⟨r, (if b = true then low n 2 else []) ++ t, 0⟩ = ⟨{ r with seat := if b = true then (n : Int) else r.seat }, t, 0⟩ := by
  cases b with
  | false => rfl
  | true =>
    obtain ⟨h1, h2, h3⟩ := tk_app (low n 2) t 2 (low_length _ _)
    unfold nextS
    simp only [if_true, got]
    rw [h1, h2, h3, val_low' 2 n h]
theorem nextU_app (b : Bool) (r : Rp) (n : Nat) (t : List UInt8) (h : n < 256 ^ 8) : nextU b ⟨r, (if b = true then low n 8 else []) ++ t, 0⟩ = ⟨{ r with till := if b = true then wrap64 n else r.till }, t, 0⟩ := by
  cases b with
  | false => rfl
  | true =>
    obtain ⟨h1, h2, h3⟩ := tk_app (low n 8) t 8 (low_length _ _)
    unfold nextU
    simp only [if_true, got]
    rw [h1, h2, h3, val_low' 8 n h]
theorem nextC_app (b : Bool) (r : Rp) (n : Nat) (t : List UInt8) (h : n < 256 ^ 2) : nextC b ⟨r, (if b = true then low n 2 else []) ++ t, 0⟩ = ⟨{ r with count := if b = true then (n : Int) else r.count }, t, 0⟩ := by
  cases b with
  | false => rfl
  | true =>
    obtain ⟨h1, h2, h3⟩ := tk_app (low n 2) t 2 (low_length _ _)
    unfold nextC
    simp only [if_true, got]
    rw [h1, h2, h3, val_low' 2 n h]
/-- a field's bytes, where there is one -/
def opt (b : Bool) (l : List UInt8) : List UInt8 := if b = true then l else []
/-- what stood where a field was read -/
theorem tk_low {l : List UInt8} {e : Int} {w : Nat} (h : tkErr l e w = 0) : e = 0 ∧ ∃ (n : Nat) (t : List UInt8), n < 256 ^ w ∧ l = low n w ++ t := by
  obtain ⟨he, x, y, hl, hx⟩ := tk_inv _ _ _ h
  exact ⟨he, val x, y, val_wd hx, by have := low_val x; rw [hx] at this; rw [this]; exact hl⟩
theorem nextI_inv (b : Bool) (s : Rs) (h : (nextI b s).e = 0) : s.e = 0 ∧ ∃ (n : Nat) (t : List UInt8), n < 256 ^ 4 ∧ s.l = opt b (low n 4) ++ t := by
  cases b with
  | false => exact ⟨h, 0, s.l, by decide, rfl⟩
  | true => exact tk_low (w := 4) h
theorem nextS_inv (b : Bool) (s : Rs) (h : (nextS b s).e = 0) : s.e = 0 ∧ ∃ (n : Nat) (t : List UInt8), n < 256 ^ 2 ∧ s.l = opt b (low n 2) ++ t := by
  cases b with
  | false => exact ⟨h, 0, s.l, by decide, rfl⟩
  | true => exact tk_low (w := 2) h
theorem nextU_inv (b : Bool) (s : Rs) (h : (nextU b s).e = 0) : s.e = 0 ∧ ∃ (n : Nat) (t : List UInt8), n < 256 ^ 8 ∧ s.l = opt b (low n 8) ++ t := by
  cases b with
  | false => exact ⟨h, 0, s.l, by decide, rfl⟩
  | true => exact tk_low (w := 8) h
theorem nextC_inv (b : Bool) (s : Rs) (h : (nextC b s).e = 0) : s.e = 0 ∧ ∃ (n : Nat) (t : List UInt8), n < 256 ^ 2 ∧ s.l = opt b (low n 2) ++ t := by
  cases b with
  | false => exact ⟨h, 0, s.l, by decide, rfl⟩
  | true => exact tk_low (w := 2) h
theorem rparse0_app (a k e : Nat) (t : List UInt8) (h1 : a < 256 ^ 4) (h2 : k < 256 ^ 1) (h3 : e < 256 ^ 2) : rparse0 (low a 4 ++ (low k 1 ++ (low e 2 ++ t))) = ⟨⟨a, k, e, 0, 0, 0, 0⟩, t, 0⟩ := by
  obtain ⟨a1, a2, a3⟩ := tk_app (low a 4) (low k 1 ++ (low e 2 ++ t)) 4 (low_length _ _)
  obtain ⟨b1, b2, b3⟩ := tk_app (low k 1) (low e 2 ++ t) 1 (low_length _ _)
  obtain ⟨c1, c2, c3⟩ := tk_app (low e 2) t 2 (low_length _ _)
  unfold rparse0 got
  dsimp only
  rw [a1, a2, a3, b1, b2, b3, c1, c2, c3, val_low' 4 a h1, val_low' 1 k h2, val_low' 2 e h3]
theorem rparse0_inv (b : List UInt8) (h : (rparse0 b).e = 0) : ∃ (a k e : Nat) (t : List UInt8), a < 256 ^ 4 ∧ k < 256 ^ 1 ∧ e < 256 ^ 2 ∧ b = low a 4 ++ (low k 1 ++ (low e 2 ++ t)) := by
  obtain ⟨h1, e, t, he, hl⟩ := tk_low (w := 2) h
  obtain ⟨h2, k, t2, hk, hl2⟩ := tk_low (w := 1) h1
  obtain ⟨h3, a, t3, ha, rfl⟩ := tk_low (w := 4) h2
  obtain ⟨a1, a2, a3⟩ := tk_app (low a 4) t3 4 (low_length _ _)
  rw [a2] at hl2
  subst hl2
  rw [a2, a3] at hl
  obtain ⟨b1, b2, b3⟩ := tk_app (low k 1) t2 1 (low_length _ _)
  rw [b2] at hl
  subst hl
  exact ⟨a, k, e, t, ha, hk, he, rfl⟩
/-- the whole, read -/
theorem rgetS_app (a k e n1 n2 n3 n4 : Nat) (t : List UInt8) (h1 : a < 256 ^ 4) (h2 : k < 256 ^ 1) (h3 : e < 256 ^ 2) (g1 : n1 < 256 ^ 4) (g2 : n2 < 256 ^ 2) (g3 : n3 < 256 ^ 8) (g4 : n4 < 256 ^ 2) :
    rgetS (low a 4 ++ (low k 1 ++ (low e 2 ++ ((if hI k e = true then low n1 4 else []) ++ ((if hS k e = true then low n2 2 else []) ++ ((if hU k e = true then low n3 8 else []) ++ ((if hC k e = true then low n4 2 else []) ++ t)))))))
      = ⟨⟨a, k, e, if hI k e = true then (n1 : Int) else 0, if hS k e = true then (n2 : Int) else 0, if hU k e = true then wrap64 n3 else 0, if hC k e = true then (n4 : Int) else 0⟩, t, 0⟩ := by
  unfold rgetS
  rw [rparse0_app a k e _ h1 h2 h3]
  dsimp only
  rw [nextI_app _ _ _ _ g1, nextS_app _ _ _ _ g2, nextU_app _ _ _ _ g3, nextC_app _ _ _ _ g4]
theorem rgetS_inv (b : List UInt8) (h : (rgetS b).e = 0) : ∃ (a k e n1 n2 n3 n4 : Nat) (t : List UInt8), a < 256 ^ 4 ∧ k < 256 ^ 1 ∧ e < 256 ^ 2 ∧ n1 < 256 ^ 4 ∧ n2 < 256 ^ 2 ∧ n3 < 256 ^ 8 ∧ n4 < 256 ^ 2 ∧
    b = low a 4 ++ (low k 1 ++ (low e 2 ++ ((if hI k e = true then low n1 4 else []) ++ ((if hS k e = true then low n2 2 else []) ++ ((if hU k e = true then low n3 8 else []) ++ ((if hC k e = true then low n4 2 else []) ++ t)))))) := by
  unfold rgetS at h
  obtain ⟨i4, n4, t4, g4, l4⟩ := nextC_inv _ _ h
  obtain ⟨i3, n3, t3, g3, l3⟩ := nextU_inv _ _ i4
  obtain ⟨i2, n2, t2, g2, l2⟩ := nextS_inv _ _ i3
  obtain ⟨i1, n1, t1, g1, l1⟩ := nextI_inv _ _ i2
  obtain ⟨a, k, e, t, ha, hk, he, rfl⟩ := rparse0_inv _ i1
  clear h i4 i3 i2 i1
  have aI : ∀ (b : Bool) (r : Rp) (n : Nat) (t : List UInt8), n < 256 ^ 4 → (nextI b ⟨r, opt b (low n 4) ++ t, 0⟩) = ⟨{ r with id := if b = true then (n : Int) else r.id }, t, 0⟩ := nextI_app
  have aS : ∀ (b : Bool) (r : Rp) (n : Nat) (t : List UInt8), n < 256 ^ 2 → (nextS b ⟨r, opt b (low n 2) ++ t, 0⟩) = ⟨{ r with seat := if b = true then (n : Int) else r.seat }, t, 0⟩ := nextS_app
  have aU : ∀ (b : Bool) (r : Rp) (n : Nat) (t : List UInt8), n < 256 ^ 8 → (nextU b ⟨r, opt b (low n 8) ++ t, 0⟩) = ⟨{ r with till := if b = true then wrap64 n else r.till }, t, 0⟩ := nextU_app
  rw [rparse0_app a k e _ ha hk he] at l1 l2 l3 l4
  dsimp only at l1 l2 l3 l4
  subst l1
  rw [aI _ _ _ _ g1] at l2 l3 l4
  dsimp only at l2 l3 l4
  subst l2
  rw [aS _ _ _ _ g2] at l3 l4
  dsimp only at l3 l4
  subst l3
  rw [aU _ _ _ _ g3] at l4
  dsimp only at l4
  subst l4
  exact ⟨a, k, e, n1, n2, n3, n4, t4, ha, hk, he, g1, g2, g3, g4, rfl⟩
theorem if_nat (b : Bool) (n : Nat) (w : Nat) : (if b = true then low (if b = true then (n : Int) else 0).toNat w else []) = (if b = true then low n w else []) := by cases b <;> simp
/-- What is written is read as it was. -/
theorem rget_of (r : Rp) (hr : r.ok) (hm : MayR r) : rgetS (rbytes r) = ⟨r, [], 0⟩ := by
  obtain ⟨p1, p2, p3, p4, p5, p6, p7, p8, p9⟩ := mayR_parts hm
  obtain ⟨_, _, g3, g4, _, g6, g7⟩ := hm
  obtain ⟨t1, t2, _, _, _, _, i1, i2, _, _, _, l2, _, _⟩ := hr
  obtain ⟨tag, kind, err, id, seat, till, count⟩ := r
  dsimp only at *
  obtain ⟨a, rfl⟩ := Int.eq_ofNat_of_zero_le t1
  obtain ⟨k, rfl⟩ := Int.eq_ofNat_of_zero_le p1
  obtain ⟨e, rfl⟩ := Int.eq_ofNat_of_zero_le p3
  obtain ⟨n1, rfl⟩ := Int.eq_ofNat_of_zero_le i1
  obtain ⟨n2, rfl⟩ := Int.eq_ofNat_of_zero_le p6
  obtain ⟨n3, rfl⟩ := Int.eq_ofNat_of_zero_le p5
  obtain ⟨n4, rfl⟩ := Int.eq_ofNat_of_zero_le p8
  have := rgetS_app a k e n1 n2 n3 n4 [] (by omega) (by omega) (by omega) (by omega) (by omega) (by omega) (by omega)
  unfold rbytes rhead
  simp only [Int.toNat_natCast, List.append_assoc]
  rw [List.append_nil] at this
  rw [this, wrap64_in (by omega)]
  have f1 : (if hI k e = true then (n1 : Int) else 0) = n1 := by rcases g3 with g | g <;> simp [g]
  have f2 : (if hS k e = true then (n2 : Int) else 0) = n2 := by rcases g6 with g | ⟨g, _⟩ <;> simp [g]
  have f3 : (if hU k e = true then (n3 : Int) else 0) = n3 := by rcases g4 with g | g <;> simp [g]
  have f4 : (if hC k e = true then (n4 : Int) else 0) = n4 := by rcases g7 with g | ⟨g, _⟩ <;> simp [g]
  rw [f1, f2, f3, f4]
theorem rgetOk_of (r : Rp) (hr : r.ok) (hm : MayR r) : rgetOk (rbytes r) = true := by
  unfold rgetOk
  rw [rget_of r hr hm]
  simp only [Bool.and_eq_true]
  exact ⟨rfl, decide_eq_true hm⟩
/-- What is read is such as may be, and written as it was. -/
theorem rgetOk_inv (b : List UInt8) (h : rgetOk b = true) : ∃ r, rgetS b = ⟨r, [], 0⟩ ∧ r.ok ∧ MayR r ∧ rbytes r = b := by
  unfold rgetOk at h
  simp only [Bool.and_eq_true, decide_eq_true_eq] at h
  obtain ⟨h2, h3⟩ := h
  have h4 : (rgetS b).e = 0 ∧ (rgetS b).l = [] := by
    unfold endOf at h2
    by_cases he : (rgetS b).e = 0
    · rw [if_pos he] at h2
      by_cases hl : (rgetS b).l = []
      · exact ⟨he, hl⟩
      · rw [if_neg hl] at h2; cases h2
    · rw [if_neg he] at h2; exact absurd h2 he
  obtain ⟨he, hl⟩ := h4
  obtain ⟨a, k, e, n1, n2, n3, n4, t, ha, hk, hee, g1, g2, g3, g4, rfl⟩ := rgetS_inv b he
  have hs := rgetS_app a k e n1 n2 n3 n4 t ha hk hee g1 g2 g3 g4
  rw [hs] at hl h3 ⊢
  dsimp only at hl h3
  subst hl
  have hm := of_decide_eq_true h3
  refine ⟨_, rfl, ?_, hm, ?_⟩
  · have w3 : -9223372036854775808 ≤ wrap64 n3 ∧ wrap64 n3 ≤ 9223372036854775807 := by unfold wrap64; omega
    refine ⟨?_, ?_, ?_, ?_, ?_, ?_, ?_, ?_, ?_, ?_, ?_, ?_, ?_, ?_⟩ <;> dsimp only <;> (try split) <;> omega
  · obtain ⟨_, _, _, _, h5, _⟩ := hm
    dsimp only at h5
    unfold rbytes rhead
    dsimp only
    rw [Int.toNat_natCast, Int.toNat_natCast, Int.toNat_natCast]
    have u3 : (if hU k e = true then low (if hU k e = true then wrap64 n3 else 0).toNat 8 else []) = (if hU k e = true then low n3 8 else []) := by
      cases hb : hU k e with
      | false => rfl
      | true =>
        rw [hb, if_pos rfl] at h5
        rw [if_pos rfl, if_pos rfl, if_pos rfl, (wrap64_pos g3 h5).1, Int.toNat_natCast]
    rw [if_nat, if_nat, if_nat, u3]
    simp only [List.append_assoc, List.append_nil]
theorem rbytes_len (r : Rp) : (rbytes r).length = 7 + (if hI r.kind r.err = true then 4 else 0) + (if hS r.kind r.err = true then 2 else 0) + (if hU r.kind r.err = true then 8 else 0) + (if hC r.kind r.err = true then 2 else 0) := by
  unfold rbytes rhead
  simp only [List.length_append, low_length]
  split <;> split <;> split <;> split <;> simp [low_length]
theorem low_inj {k a b : Nat} (h : low a k = low b k) (ha : a < 256 ^ k) (hb : b < 256 ^ k) : a = b := by
  have := congrArg val h
  rwa [val_low' k a ha, val_low' k b hb] at this
theorem rhead_inj {r s : Rp} (h : rhead r = rhead s) (hr : r.ok) (hs : s.ok) (mr : MayR r) (ms : MayR s) : r.tag = s.tag ∧ r.kind = s.kind ∧ r.err = s.err := by
  obtain ⟨p1, p2, p3, p4, _⟩ := mayR_parts mr
  obtain ⟨q1, q2, q3, q4, _⟩ := mayR_parts ms
  have t1 := hr.t1
  have t2 := hr.t2
  have t3 := hs.t1
  have t4 := hs.t2
  unfold rhead at h
  rw [List.append_assoc, List.append_assoc] at h
  obtain ⟨h1, h2⟩ := List.append_inj h (by rw [low_length, low_length])
  obtain ⟨h3, h4⟩ := List.append_inj h2 (by rw [low_length, low_length])
  have e1 := low_inj h1 (by omega) (by omega)
  have e2 := low_inj h3 (by omega) (by omega)
  have e3 := low_inj h4 (by omega) (by omega)
  omega
theorem rhead_len (r : Rp) : (rhead r).length = 7 := by unfold rhead; simp [low_length]
theorem rbytes_take (r : Rp) : (rbytes r).take 7 = rhead r := by
  unfold rbytes
  rw [List.append_assoc, List.append_assoc, List.append_assoc, ← rhead_len r, List.take_left]
/-- Of two readable ones is none the beginning of the other. -/
theorem rget_pre (a b : List UInt8) (ha : rgetOk a = true) (hb : rgetOk b = true) (h : a <+: b) : a = b := by
  obtain ⟨r, _, o1, m1, rfl⟩ := rgetOk_inv a ha
  obtain ⟨s, _, o2, m2, rfl⟩ := rgetOk_inv b hb
  obtain ⟨t, ht⟩ := h
  have l1 := rbytes_len r
  have l2 := rbytes_len s
  have e1 : rhead r = rhead s := by
    rw [← rbytes_take r, ← rbytes_take s, ← ht, List.take_append_of_le_length (by omega)]
  obtain ⟨_, e2, e3⟩ := rhead_inj e1 o1 o2 m1 m2
  rw [e2, e3] at l1
  have := congrArg List.length ht
  rw [List.length_append] at this
  obtain rfl : t = [] := List.eq_nil_of_length_eq_zero (by omega)
  rw [← ht, List.append_nil]
theorem rget_cut (b : List UInt8) (hb : rgetOk b = true) (k : Nat) (hk : k < b.length) : rgetOk (b.take k) = false := by
  cases h : rgetOk (b.take k) with
  | false => rfl
  | true =>
    have := congrArg List.length (rget_pre _ _ h hb (List.take_prefix k b))
    rw [List.length_take] at this
    omega
theorem rget_long (b t : List UInt8) (hb : rgetOk b = true) (ht : t ≠ []) : rgetOk (b ++ t) = false := by
  cases h : rgetOk (b ++ t) with
  | false => rfl
  | true =>
    have := rget_pre _ _ hb h (List.prefix_append b t)
    exact absurd (List.append_right_eq_self.1 this.symm) ht
end Go.Proofs.YtfcoaiggpcjldaaDoor
