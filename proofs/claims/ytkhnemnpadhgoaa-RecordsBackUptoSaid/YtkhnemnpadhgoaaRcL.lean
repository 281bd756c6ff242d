import Derived.Test.YtkhnemnpadhgoaaRcA
/-! Records: what is read of bytes, the plain law. -/
set_option linter.unusedVariables false
set_option linter.unusedSimpArgs false
set_option maxRecDepth 100000
namespace Go.Proofs.Ytkhnemnpadhgoaa
open Go.RowKit Gw

/-- the number of some bytes from a place on; what lacks is 0 -/
def nb (b : List UInt8) (p k : Nat) : Nat := val ((b.drop p).take k)
theorem nb_lt (b : List UInt8) (p k : Nat) : nb b p k < 256 ^ k := by
  unfold nb
  have h := val_lt ((b.drop p).take k)
  have : ((b.drop p).take k).length ≤ k := by rw [List.length_take]; omega
  exact Nat.lt_of_lt_of_le h (Nat.pow_le_pow_right (by omega) this)
theorem nb_app (x y z : List UInt8) (p n : Nat) (hp : x.length = p) (hn : y.length = n) : nb (x ++ (y ++ z)) p n = val y := by
  subst hp hn
  unfold nb
  rw [List.drop_left, List.take_left]
theorem nb_low (b : List UInt8) (p k : Nat) (h : p + k ≤ b.length) : low (nb b p k) k = (b.drop p).take k := by
  unfold nb
  have := low_val ((b.drop p).take k)
  rwa [List.length_take, List.length_drop, Nat.min_eq_left (by omega)] at this
def cz : Rc := ⟨0, 0, 0, 0, 0⟩
/-- the record that the bytes seem to be -/
def parC (b : List UInt8) : Rc :=
  let k : Int := nb b 0 1
  ⟨k, if cI k = true then nb b 1 4 else 0, if cS k = true then nb b 5 2 else 0, if cU k = true then wrap64 (nb b 7 8) else 0, if cC k = true then wrap64 (nb b 1 8) else 0⟩
/-- the error of reading -/
def errC (b : List UInt8) : Int :=
  if b = [] then 4 else if okC (nb b 0 1) = false then 160 else if b.length < sizeC (nb b 0 1) then 4 else if mayC (parC b) = false then 160 else if sizeC (nb b 0 1) < b.length then 5 else 0
def getC (b : List UInt8) : Rc := if errC b = 0 then parC b else cz
theorem parC_ok (b : List UInt8) : (parC b).ok := by
  have a1 := nb_lt b 0 1
  have a2 := nb_lt b 1 4
  have a3 := nb_lt b 5 2
  have hw : ∀ n : Int, -9223372036854775808 ≤ wrap64 n ∧ wrap64 n ≤ 9223372036854775807 := fun n => by unfold wrap64; omega
  unfold parC
  dsimp only
  refine ⟨?_, ?_, ?_, ?_, ?_, ?_, ?_, ?_, ?_, ?_⟩ <;> dsimp only
  · omega
  · omega
  · split <;> omega
  · split <;> omega
  · split <;> omega
  · split <;> omega
  · split
    · exact (hw _).1
    · omega
  · split
    · exact (hw _).2
    · omega
  · split
    · exact (hw _).1
    · omega
  · split
    · exact (hw _).2
    · omega
theorem wrap64_int {n : Int} (h : 0 ≤ n) (h2 : n ≤ 9223372036854775807) : wrap64 n = n := by unfold wrap64; omega
theorem sizeC_pos {k : Int} (h : okC k = true) : 5 ≤ sizeC k ∧ sizeC k ≤ 15 := by
  rcases kindsC _ h with e | e | e | e | e <;> subst e <;> decide
/-- What is written is read as it was, whatever stands behind. -/
theorem parC_of (r : Rc) (hm : MayC r) (t : List UInt8) : parC (cbytes r ++ t) = r ∧ nb (cbytes r ++ t) 0 1 = r.kind.toNat := by
  obtain ⟨p1, p2, p3, p4, p5, p6, p7, p8, p9, p10⟩ := mayC_parts hm
  obtain ⟨_, h2, h3, h4, h5⟩ := hm
  obtain ⟨kind, id, seat, till, clock⟩ := r
  dsimp only at *
  have c0 : nb (cbytes ⟨kind, id, seat, till, clock⟩ ++ t) 0 1 = kind.toNat := by
    unfold cbytes
    simp only [List.append_assoc]
    have h0 : ∀ z, nb (low kind.toNat 1 ++ z) 0 1 = val (low kind.toNat 1) := fun z => nb_app [] (low kind.toNat 1) z 0 1 rfl (low_length _ _)
    rw [h0, val_low' 1 _ (by omega)]
  refine ⟨?_, c0⟩
  have hk : ((kind.toNat : Nat) : Int) = kind := Int.toNat_of_nonneg (by omega)
  have v1 : val (low id.toNat 4) = id.toNat := val_low' 4 _ (by omega)
  have v2 : val (low seat.toNat 2) = seat.toNat := val_low' 2 _ (by omega)
  have v3 : val (low till.toNat 8) = till.toNat := val_low' 8 _ (by omega)
  have v4 : val (low clock.toNat 8) = clock.toNat := val_low' 8 _ (by omega)
  have i1 : ((id.toNat : Nat) : Int) = id := Int.toNat_of_nonneg p3
  have i2 : ((seat.toNat : Nat) : Int) = seat := Int.toNat_of_nonneg p5
  have i3 : wrap64 (till.toNat : Nat) = till := by rw [wrap64_in (by omega)]; exact Int.toNat_of_nonneg p7
  have i4 : wrap64 (clock.toNat : Nat) = clock := by rw [wrap64_in (by omega)]; exact Int.toNat_of_nonneg p9
  have L := low_length
  unfold parC
  dsimp only
  rw [c0, hk]
  unfold cbytes
  dsimp only
  simp only [List.append_assoc]
  rcases (show kind = 1 ∨ kind = 2 ∨ kind = 3 ∨ kind = 4 ∨ kind = 5 by omega) with rfl | rfl | rfl | rfl | rfl
  · have f1 : ∀ z, nb (low 1 1 ++ (low id.toNat 4 ++ z)) 1 4 = id.toNat := fun z => by rw [nb_app _ _ _ 1 4 (L _ _) (L _ _), v1]
    have f2 : ∀ z, nb (low 1 1 ++ (low id.toNat 4 ++ (low seat.toNat 2 ++ z))) 5 2 = seat.toNat := fun z => by rw [← List.append_assoc, nb_app _ _ _ 5 2 (by rw [List.length_append, L, L]) (L _ _), v2]
    have f3 : ∀ z, nb (low 1 1 ++ (low id.toNat 4 ++ (low seat.toNat 2 ++ (low till.toNat 8 ++ z)))) 7 8 = till.toNat := fun z => by rw [← List.append_assoc, ← List.append_assoc, nb_app _ _ _ 7 8 (by rw [List.length_append, List.length_append, L, L, L]) (L _ _), v3]
    simp only [within, cI, cS, cU, cC] at h5 ⊢
    simp at h5
    subst h5
    simp [f1, f2, f3, i1, i2]
    rw [Int.max_eq_left p7]; exact wrap64_int p7 (by omega)
  · have f1 : ∀ z, nb (low 2 1 ++ (low id.toNat 4 ++ z)) 1 4 = id.toNat := fun z => by rw [nb_app _ _ _ 1 4 (L _ _) (L _ _), v1]
    simp only [within, cI, cS, cU, cC] at h3 h4 h5 ⊢
    simp at h3 h4 h5
    subst h3 h4 h5
    simp [f1, i1]
  · have f1 : ∀ z, nb (low 3 1 ++ (low id.toNat 4 ++ z)) 1 4 = id.toNat := fun z => by rw [nb_app _ _ _ 1 4 (L _ _) (L _ _), v1]
    simp only [within, cI, cS, cU, cC] at h3 h4 h5 ⊢
    simp at h3 h4 h5
    subst h3 h4 h5
    simp [f1, i1]
  · have f1 : ∀ z, nb (low 4 1 ++ (low id.toNat 4 ++ z)) 1 4 = id.toNat := fun z => by rw [nb_app _ _ _ 1 4 (L _ _) (L _ _), v1]
    have f2 : ∀ z, nb (low 4 1 ++ (low id.toNat 4 ++ (low seat.toNat 2 ++ z))) 5 2 = seat.toNat := fun z => by rw [← List.append_assoc, nb_app _ _ _ 5 2 (by rw [List.length_append, L, L]) (L _ _), v2]
    simp only [within, cI, cS, cU, cC] at h4 h5 ⊢
    simp at h4 h5
    subst h4 h5
    simp [f1, f2, i1, i2]
  · have f1 : ∀ z, nb (low 5 1 ++ (low clock.toNat 8 ++ z)) 1 8 = clock.toNat := fun z => by rw [nb_app _ _ _ 1 8 (L _ _) (L _ _), v4]
    simp only [within, cI, cS, cU, cC] at h2 h3 h4 ⊢
    simp at h2 h3 h4
    subst h2 h3 h4
    simp [f1]
    rw [Int.max_eq_left p9]; exact wrap64_int p9 (by omega)
theorem getC_of (r : Rc) (hm : MayC r) : errC (cbytes r) = 0 ∧ getC (cbytes r) = r := by
  have h := parC_of r hm []
  rw [List.append_nil] at h
  have hk : ((r.kind.toNat : Nat) : Int) = r.kind := Int.toNat_of_nonneg (by have := hm.1; omega)
  have hl := cbytes_len r (mayC_ok hm)
  have hs := sizeC_pos (mayC_ok hm)
  have hmb : mayC r = true := decide_eq_true hm
  have he : errC (cbytes r) = 0 := by
    unfold errC
    rw [h.2, hk, h.1, mayC_ok hm, hmb]
    rw [if_neg (by intro h0; rw [h0] at hl; simp at hl; omega), if_neg (by simp), if_neg (by omega), if_neg (by simp), if_neg (by omega)]
  exact ⟨he, by unfold getC; rw [if_pos he]; exact h.1⟩
/-- With more behind: more. -/
theorem errC_long (r : Rc) (hm : MayC r) (t : List UInt8) (ht : t ≠ []) : errC (cbytes r ++ t) = 5 := by
  have h := parC_of r hm t
  have hk : ((r.kind.toNat : Nat) : Int) = r.kind := Int.toNat_of_nonneg (by have := hm.1; omega)
  have hl := cbytes_len r (mayC_ok hm)
  have hs := sizeC_pos (mayC_ok hm)
  have ht2 : 0 < t.length := List.length_pos_iff.2 ht
  have hmb : mayC r = true := decide_eq_true hm
  unfold errC
  rw [h.2, hk, h.1, mayC_ok hm, hmb, List.length_append]
  rw [if_neg (by intro h0; have := congrArg List.length h0; rw [List.length_append, List.length_nil] at this; omega), if_neg (by simp), if_neg (by omega), if_neg (by simp), if_pos (by omega)]
/-- What is read is such as may be, and written as it was. -/
theorem errC_zero (b : List UInt8) (h : errC b = 0) : ∃ r, getC b = r ∧ r.ok ∧ MayC r ∧ cbytes r = b := by
  refine ⟨parC b, by unfold getC; rw [if_pos h], parC_ok b, ?_⟩
  unfold errC at h
  by_cases h0 : b = []
  · rw [if_pos h0] at h; cases h
  rw [if_neg h0] at h
  by_cases h1 : okC (nb b 0 1) = false
  · rw [if_pos h1] at h; cases h
  rw [if_neg h1] at h
  by_cases h2 : b.length < sizeC (nb b 0 1)
  · rw [if_pos h2] at h; cases h
  rw [if_neg h2] at h
  by_cases h3 : mayC (parC b) = false
  · rw [if_pos h3] at h; cases h
  rw [if_neg h3] at h
  by_cases h4 : sizeC (nb b 0 1) < b.length
  · rw [if_pos h4] at h; cases h
  have hm : MayC (parC b) := by
    have : mayC (parC b) = true := by cases hh : mayC (parC b) with | true => rfl | false => exact absurd hh h3
    exact of_decide_eq_true this
  refine ⟨hm, ?_⟩
  have hok : okC (nb b 0 1) = true := by cases hh : okC (nb b 0 1) with | true => rfl | false => exact absurd hh h1
  obtain ⟨q1, q2, q3, q4, q5, q6, q7, q8, q9, q10⟩ := mayC_parts hm
  obtain ⟨k, hk⟩ : ∃ k, nb b 0 1 = k := ⟨_, rfl⟩
  have hb0 := nb_low b 0 1 (by have := List.length_pos_iff.2 h0; omega)
  rw [hk] at hb0 h2 h4 hok
  rw [List.drop_zero] at hb0
  have sp : ∀ p n, (b.drop p).take n ++ b.drop (p + n) = b.drop p := fun p n => by rw [← List.drop_drop, List.take_append_drop]
  have s0 : low k 1 ++ b.drop 1 = b := by rw [hb0]; exact List.take_append_drop 1 b
  have w3 : nb b 7 8 < 256 ^ 8 := nb_lt b 7 8
  have w4 : nb b 1 8 < 256 ^ 8 := nb_lt b 1 8
  have hl : b.length = sizeC k := by omega
  unfold parC at q7 q9
  dsimp only at q7 q9
  rw [hk] at q7 q9
  unfold cbytes parC
  dsimp only
  rw [hk, Int.toNat_natCast]
  have hkk := kindsC _ hok
  rcases (show k = 1 ∨ k = 2 ∨ k = 3 ∨ k = 4 ∨ k = 5 by omega) with rfl | rfl | rfl | rfl | rfl
  · have z : b.length = 15 := hl
    have e1 := nb_low b 1 4 (by omega)
    have e2 := nb_low b 5 2 (by omega)
    have e3 := nb_low b 7 8 (by omega)
    have s1 := sp 1 4
    have s2 := sp 5 2
    have s3 := sp 7 8
    have s4 : b.drop 15 = [] := List.drop_eq_nil_of_le (by omega)
    simp [cU] at q7
    have q8 := (wrap64_pos w3 q7).1
    simp only [Nat.reduceAdd] at s1 s2 s3
    simp [cI, cS, cU, cC, q8, e1, e2, e3, -List.drop_one]
    rw [s4, List.append_nil] at s3
    rw [s3, s2, s1]
    exact s0
  · have z : b.length = 5 := hl
    have e1 := nb_low b 1 4 (by omega)
    have s1 := sp 1 4
    have s4 : b.drop 5 = [] := List.drop_eq_nil_of_le (by omega)
    simp only [Nat.reduceAdd] at s1
    simp [cI, cS, cU, cC, e1, -List.drop_one]
    rw [s4, List.append_nil] at s1
    rw [s1]
    exact s0
  · have z : b.length = 5 := hl
    have e1 := nb_low b 1 4 (by omega)
    have s1 := sp 1 4
    have s4 : b.drop 5 = [] := List.drop_eq_nil_of_le (by omega)
    simp only [Nat.reduceAdd] at s1
    simp [cI, cS, cU, cC, e1, -List.drop_one]
    rw [s4, List.append_nil] at s1
    rw [s1]
    exact s0
  · have z : b.length = 7 := hl
    have e1 := nb_low b 1 4 (by omega)
    have e2 := nb_low b 5 2 (by omega)
    have s1 := sp 1 4
    have s2 := sp 5 2
    have s4 : b.drop 7 = [] := List.drop_eq_nil_of_le (by omega)
    simp only [Nat.reduceAdd] at s1 s2
    simp [cI, cS, cU, cC, e1, e2, -List.drop_one]
    rw [s4, List.append_nil] at s2
    rw [s2, s1]
    exact s0
  · have z : b.length = 9 := hl
    have e1 := nb_low b 1 8 (by omega)
    have s1 := sp 1 8
    have s4 : b.drop 9 = [] := List.drop_eq_nil_of_le (by omega)
    simp [cC] at q9
    have q8 := (wrap64_pos w4 q9).1
    simp only [Nat.reduceAdd] at s1
    simp [cI, cS, cU, cC, q8, e1, -List.drop_one]
    rw [s4, List.append_nil] at s1
    rw [s1]
    exact s0
/-- Cut short by a byte: short. -/
theorem errC_cut (r : Rc) (hm : MayC r) (k : Nat) (hk : k < (cbytes r).length) : errC ((cbytes r).take k) = 4 := by
  have h := parC_of r hm []
  rw [List.append_nil] at h
  have hkk : ((r.kind.toNat : Nat) : Int) = r.kind := Int.toNat_of_nonneg (by have := hm.1; omega)
  have hl := cbytes_len r (mayC_ok hm)
  unfold errC
  by_cases h0 : (cbytes r).take k = []
  · rw [if_pos h0]
  · rw [if_neg h0]
    have hk0 : k ≠ 0 := fun e => h0 (by rw [e]; rfl)
    have e1 : nb ((cbytes r).take k) 0 1 = r.kind.toNat := by
      rw [← h.2]
      unfold nb
      rw [List.drop_zero, List.drop_zero, List.take_take, Nat.min_eq_left (by omega)]
    rw [e1, hkk, mayC_ok hm, if_neg (by simp), if_pos (by rw [List.length_take]; omega)]
end Go.Proofs.Ytkhnemnpadhgoaa
