import Derived.Test.YtboigcnpamldlaaDoorFrA
import Derived.Test.YtboigcnpamldlaaDoorNbL
/-! Frames: what is read of bytes, the plain law. -/
set_option linter.unusedVariables false
set_option linter.unusedSimpArgs false
set_option maxRecDepth 100000
namespace Go.Proofs.YtboigcnpamldlaaDoor
open Go.RowKit Gw

/-- a frame -/
structure Fv where
  e : Nat
  s : Nat
  l : List UInt8
structure Fv.ok (f : Fv) : Prop where
  e : f.e < 18446744073709551616
  s : f.s < 18446744073709551616
  l : f.l.length ≤ 32
def Fv.b (f : Fv) : List UInt8 := frame f.e f.s f.l
def fz : Fv := ⟨0, 0, []⟩
theorem frame_len (e s : Nat) (l : List UInt8) : (frame e s l).length = 22 + l.length := by
  unfold frame frB
  simp only [List.length_append, low_length]
  omega
/-- the error of reading -/
def errF (b : List UInt8) : Int :=
  if b.length < 2 then 4 else if 32 < nb b 0 2 then 80 else if b.length < 22 + nb b 0 2 then 4 else if nb b (18 + nb b 0 2) 4 ≠ crcS (b.take (18 + nb b 0 2)) then 81 else 0
def parF (b : List UInt8) : Fv := ⟨nb b 2 8, nb b 10 8, (b.drop 18).take (nb b 0 2)⟩
def getF (b : List UInt8) : Fv := if errF b = 0 then parF b else fz
def numF (b : List UInt8) : Nat := if errF b = 0 then 22 + nb b 0 2 else 0
theorem errF_zero {b : List UInt8} (h : errF b = 0) : nb b 0 2 ≤ 32 ∧ 22 + nb b 0 2 ≤ b.length ∧ nb b (18 + nb b 0 2) 4 = crcS (b.take (18 + nb b 0 2)) := by
  unfold errF at h
  split at h
  · cases h
  split at h
  · cases h
  split at h
  · cases h
  split at h
  · cases h
  · rename_i h1 h2 h3 h4
    exact ⟨by omega, by omega, by simpa using h4⟩
theorem parF_ok {b : List UInt8} (h : errF b = 0) : (parF b).ok ∧ (parF b).l.length = nb b 0 2 := by
  obtain ⟨h1, h2, _⟩ := errF_zero h
  have a1 := nb_lt b 2 8
  have a2 := nb_lt b 10 8
  have hl : (parF b).l.length = nb b 0 2 := by unfold parF; dsimp only; rw [List.length_take, List.length_drop]; omega
  exact ⟨⟨a1, a2, by omega⟩, hl⟩
theorem getF_ok (b : List UInt8) : (getF b).ok := by
  unfold getF
  split
  · rename_i h; exact (parF_ok h).1
  · exact ⟨by decide, by decide, by decide⟩
theorem numF_le (b : List UInt8) : numF b ≤ b.length ∧ numF b ≤ 54 ∧ (errF b = 0 → 22 ≤ numF b ∧ numF b = 22 + (getF b).l.length) := by
  unfold numF
  split
  · rename_i h
    obtain ⟨h1, h2, _⟩ := errF_zero h
    exact ⟨h2, by omega, fun _ => ⟨by omega, by unfold getF; rw [if_pos h, (parF_ok h).2]⟩⟩
  · rename_i h
    exact ⟨Nat.zero_le _, by omega, fun h' => absurd h' h⟩
/-- What is read is written as it was. -/
theorem frame_par {b : List UInt8} (h : errF b = 0) : (parF b).b = b.take (22 + nb b 0 2) := by
  obtain ⟨h1, h2, h3⟩ := errF_zero h
  have hl := (parF_ok h).2
  have hB : frB (parF b).e (parF b).s (parF b).l = b.take (18 + nb b 0 2) := by
    unfold frB
    rw [hl]
    unfold parF
    dsimp only
    rw [nb_low b 0 2 (by omega), nb_low b 2 8 (by omega), nb_low b 10 8 (by omega), List.drop_zero, take_more, take_more, take_more]
  unfold Fv.b frame
  rw [hB, ← h3, nb_low b _ 4 (by omega), take_more]
  congr 1
  omega
/-- What is written is read as it was, whatever stands behind. -/
theorem getF_of {e s : Nat} {l : List UInt8} (he : e < 18446744073709551616) (hs : s < 18446744073709551616) (hl : l.length ≤ 32) (t : List UInt8) :
    errF (frame e s l ++ t) = 0 ∧ parF (frame e s l ++ t) = ⟨e, s, l⟩ ∧ nb (frame e s l ++ t) 0 2 = l.length := by
  have L := low_length
  have v1 : val (low l.length 2) = l.length := val_low' 2 _ (by omega)
  have v2 : val (low e 8) = e := val_low' 8 _ (by omega)
  have v3 : val (low s 8) = s := val_low' 8 _ (by omega)
  have hc := crcS_lt (frB e s l)
  have v4 : val (low (crcS (frB e s l)) 4) = crcS (frB e s l) := val_low' 4 _ (by omega)
  have hB : (frB e s l).length = 18 + l.length := by unfold frB; simp only [List.length_append, L]; try omega
  have e0 : nb (frame e s l ++ t) 0 2 = l.length := by
    unfold frame frB
    simp only [List.append_assoc]
    exact (nb_app [] (low l.length 2) _ 0 2 rfl (L _ _)).trans v1
  have e1 : nb (frame e s l ++ t) 2 8 = e := by
    unfold frame frB
    simp only [List.append_assoc]
    exact (nb_app (low l.length 2) (low e 8) _ 2 8 (L _ _) (L _ _)).trans v2
  have e2 : nb (frame e s l ++ t) 10 8 = s := by
    unfold frame frB
    simp only [List.append_assoc]
    rw [← List.append_assoc]
    exact (nb_app (low l.length 2 ++ low e 8) (low s 8) _ 10 8 (by rw [List.length_append, L, L]) (L _ _)).trans v3
  have e3 : ((frame e s l ++ t).drop 18).take l.length = l := by
    unfold frame frB
    simp only [List.append_assoc]
    rw [← List.append_assoc, ← List.append_assoc, List.drop_append_of_le_length (by simp only [List.length_append, L]; omega), List.drop_eq_nil_of_le (by simp only [List.length_append, L]; omega), List.nil_append, List.take_left]
  have e4 : nb (frame e s l ++ t) (18 + l.length) 4 = crcS (frB e s l) := by
    unfold frame
    rw [List.append_assoc]
    exact (nb_app (frB e s l) (low (crcS (frB e s l)) 4) _ _ 4 hB (L _ _)).trans v4
  have e5 : (frame e s l ++ t).take (18 + l.length) = frB e s l := by
    unfold frame
    rw [List.append_assoc, ← hB, List.take_left]
  have hlen : (frame e s l ++ t).length = 22 + l.length + t.length := by rw [List.length_append, frame_len]
  refine ⟨?_, ?_, e0⟩
  · unfold errF
    rw [e0, e4, e5, hlen, if_neg (by omega), if_neg (by omega), if_neg (by omega), if_neg (by simp)]
  · unfold parF
    rw [e0, e1, e2, e3]
/-- Only what stands in the frame counts. -/
theorem errF_take {b : List UInt8} {m : Nat} (h : errF b = 0) (hm : numF b ≤ m) : errF (b.take m) = 0 ∧ parF (b.take m) = parF b ∧ nb (b.take m) 0 2 = nb b 0 2 := by
  obtain ⟨h1, h2, h3⟩ := errF_zero h
  have hn : numF b = 22 + nb b 0 2 := if_pos h
  have e0 : nb (b.take m) 0 2 = nb b 0 2 := nb_take _ _ _ _ (by omega)
  have hl : (b.take m).length = min m b.length := List.length_take
  refine ⟨?_, ?_, e0⟩
  · unfold errF
    rw [e0, if_neg (by omega), if_neg (by omega), if_neg (by omega), nb_take _ _ _ _ (by omega), List.take_take, Nat.min_eq_left (by omega), h3, if_neg (by simp)]
  · unfold parF
    rw [e0, nb_take _ _ _ _ (by omega), nb_take _ _ _ _ (by omega), List.drop_take, List.take_take, Nat.min_eq_left (by omega)]
theorem errF_of_take {b : List UInt8} {m : Nat} (h : errF (b.take m) = 0) : errF b = 0 ∧ parF (b.take m) = parF b ∧ nb (b.take m) 0 2 = nb b 0 2 ∧ numF b ≤ m := by
  obtain ⟨h1, h2, h3⟩ := errF_zero h
  have hl : (b.take m).length = min m b.length := List.length_take
  have e0 : nb (b.take m) 0 2 = nb b 0 2 := nb_take _ _ _ _ (by omega)
  rw [e0] at h1 h2 h3
  rw [nb_take _ _ _ _ (by omega), List.take_take, Nat.min_eq_left (by omega)] at h3
  have he : errF b = 0 := by
    unfold errF
    rw [if_neg (by omega), if_neg (by omega), if_neg (by omega), h3, if_neg (by simp)]
  have hn : numF b = 22 + nb b 0 2 := if_pos he
  exact ⟨he, (errF_take he (by omega)).2.1, e0, by omega⟩

/-! ### a row of frames -/
/-- stands the next frame there? -/
def stepF (b : List UInt8) (e s p : Nat) : Bool := decide (s + 1 < 18446744073709551616) && (decide (errF (b.drop p) = 0) && (decide ((parF (b.drop p)).e = e) && decide ((parF (b.drop p)).s = s + 1)))
theorem stepF_parts {b : List UInt8} {e s p : Nat} (h : stepF b e s p = true) : s + 1 < 18446744073709551616 ∧ errF (b.drop p) = 0 ∧ (parF (b.drop p)).e = e ∧ (parF (b.drop p)).s = s + 1 := by
  unfold stepF at h
  simpa only [Bool.and_eq_true, decide_eq_true_eq] using h
def rowF (b : List UInt8) (e : Nat) : Nat → Nat → Nat → List (Nat × Fv)
  | 0, _, _ => []
  | k + 1, s, p => if stepF b e s p = true then (p, parF (b.drop p)) :: rowF b e k (s + 1) (p + numF (b.drop p)) else []
/-- where it ends -/
def endF (L : List (Nat × Fv)) (p : Nat) : Nat := L.foldl (fun p x => p + (22 + x.2.l.length)) p
theorem step_num {b : List UInt8} {e s p : Nat} (h : stepF b e s p = true) : numF (b.drop p) = 22 + (parF (b.drop p)).l.length ∧ p + numF (b.drop p) ≤ b.length := by
  obtain ⟨_, h2, _, _⟩ := stepF_parts h
  have h3 := numF_le (b.drop p)
  have h4 := h3.2.2 h2
  have e1 : getF (b.drop p) = parF (b.drop p) := if_pos h2
  rw [e1] at h4
  rw [List.length_drop] at h3
  exact ⟨h4.2, by omega⟩
theorem rowF_more {b : List UInt8} {e : Nat} : ∀ (k s p : Nat), b.length ≤ p + k → rowF b e (k + 1) s p = rowF b e k s p
  | 0, s, p, h => by
    show (if stepF b e s p = true then _ else _) = _
    rw [if_neg (fun h1 => by have := step_num h1; omega)]
    rfl
  | k + 1, s, p, h => by
    show (if stepF b e s p = true then _ else _) = (if stepF b e s p = true then _ else _)
    split
    · rename_i h1
      have := step_num h1
      rw [rowF_more k (s + 1) _ (by omega)]
    · rfl
theorem rowF_any {b : List UInt8} {e : Nat} {s p : Nat} : ∀ (d k : Nat), b.length ≤ p + k → rowF b e (k + d) s p = rowF b e k s p
  | 0, _, _ => rfl
  | d + 1, k, h => by rw [← Nat.add_assoc, rowF_more _ _ _ (by omega), rowF_any d k h]
/-- the row of the frames -/
def rowS (b : List UInt8) (e s p : Nat) : List (Nat × Fv) := rowF b e b.length s p
theorem rowS_no {b : List UInt8} {e s p : Nat} (h : stepF b e s p = false) : rowS b e s p = [] := by
  unfold rowS
  cases b.length with
  | zero => rfl
  | succ k => show (if stepF b e s p = true then _ else _) = _; rw [h]; rfl
theorem rowS_yes {b : List UInt8} {e s p : Nat} (h : stepF b e s p = true) : rowS b e s p = (p, parF (b.drop p)) :: rowS b e (s + 1) (p + numF (b.drop p)) := by
  have h1 := step_num h
  have e1 : rowS b e s p = rowF b e (b.length + 1) s p := (rowF_more _ _ _ (by omega)).symm
  rw [e1]
  show (if stepF b e s p = true then _ else _) = _
  rw [if_pos h]
  rfl
theorem rowS_len {b : List UInt8} {e : Nat} : ∀ (k s p : Nat), b.length ≤ p + k → p + 22 * (rowS b e s p).length ≤ max p b.length
  | 0, s, p, h => by
    rw [rowS_no (by cases h1 : stepF b e s p with | false => rfl | true => have := step_num h1; omega)]
    simp; omega
  | k + 1, s, p, h => by
    cases h1 : stepF b e s p with
    | false => rw [rowS_no h1]; simp; omega
    | true =>
      have h2 := step_num h1
      have h3 := rowS_len (b := b) (e := e) k (s + 1) (p + numF (b.drop p)) (by omega)
      rw [rowS_yes h1, List.length_cons]
      omega
theorem endF_cons (x : Nat × Fv) (L : List (Nat × Fv)) (p : Nat) : endF (x :: L) p = endF L (p + (22 + x.2.l.length)) := rfl
theorem endF_snoc (L : List (Nat × Fv)) (x : Nat × Fv) (p : Nat) : endF (L ++ [x]) p = endF L p + (22 + x.2.l.length) := by unfold endF; rw [List.foldl_append]; rfl
theorem endF_app (L M : List (Nat × Fv)) (p : Nat) : endF (L ++ M) p = endF M (endF L p) := by unfold endF; rw [List.foldl_append]
theorem endF_le {b : List UInt8} {e : Nat} : ∀ (k s p : Nat), b.length ≤ p + k → p ≤ b.length → endF (rowS b e s p) p ≤ b.length
  | 0, s, p, h, hp => by
    rw [rowS_no (by cases h1 : stepF b e s p with | false => rfl | true => have := step_num h1; omega)]
    exact hp
  | k + 1, s, p, h, hp => by
    cases h1 : stepF b e s p with
    | false => rw [rowS_no h1]; exact hp
    | true =>
      have h2 := step_num h1
      rw [rowS_yes h1, endF_cons, ← h2.1]
      exact endF_le k (s + 1) _ (by omega) (by omega)
/-- where each one stands -/
theorem rowS_place {b : List UInt8} {e : Nat} : ∀ (k s p : Nat), b.length ≤ p + k → ∀ (L : List (Nat × Fv)) (x : Nat × Fv), L ++ [x] <+: rowS b e s p → x.1 = endF L p ∧ x.1 + (22 + x.2.l.length) ≤ b.length ∧ x.2.ok
  | 0, s, p, h, L, x, hp => by
    rw [rowS_no (by cases h1 : stepF b e s p with | false => rfl | true => have := step_num h1; omega)] at hp
    have := hp.length_le
    simp at this
  | k + 1, s, p, h, L, x, hp => by
    cases h1 : stepF b e s p with
    | false =>
      rw [rowS_no h1] at hp
      have := hp.length_le
      simp at this
    | true =>
      have h2 := step_num h1
      obtain ⟨_, h3, _, _⟩ := stepF_parts h1
      rw [rowS_yes h1] at hp
      cases L with
      | nil =>
        obtain ⟨t, ht⟩ := hp
        rw [List.nil_append, List.singleton_append] at ht
        injection ht with e1 e2
        rw [e1]
        exact ⟨rfl, by have := h2.2; rw [h2.1] at this; exact this, (parF_ok h3).1⟩
      | cons y L =>
        obtain ⟨t, ht⟩ := hp
        simp only [List.cons_append] at ht
        injection ht with e1 e2
        have := rowS_place (b := b) (e := e) k (s + 1) (p + numF (b.drop p)) (by omega) L x ⟨t, e2⟩
        rw [e1, endF_cons, ← h2.1]
        exact this
/-- What a row tells, one by one. -/
theorem rowS_at {b : List UInt8} {e : Nat} : ∀ (k s p : Nat), b.length ≤ p + k → ∀ i (h : i < (rowS b e s p).length), (rowS b e s p)[i].2.e = e ∧ (rowS b e s p)[i].2.s = s + i + 1 ∧ (rowS b e s p)[i].2.ok
  | 0, s, p, h, i, hi => by
    rw [rowS_no (by cases h1 : stepF b e s p with | false => rfl | true => have := step_num h1; omega)] at hi
    exact absurd hi (by simp)
  | k + 1, s, p, h, i, hi => by
    cases h1 : stepF b e s p with
    | false => rw [rowS_no h1] at hi; exact absurd hi (by simp)
    | true =>
      have h2 := step_num h1
      obtain ⟨_, h3, h4, h5⟩ := stepF_parts h1
      have e1 := rowS_yes h1
      cases i with
      | zero => simp only [e1, List.getElem_cons_zero]; exact ⟨h4, by rw [h5], (parF_ok h3).1⟩
      | succ i =>
        have hi' : i < (rowS b e (s + 1) (p + numF (b.drop p))).length := by rw [e1] at hi; simpa using hi
        have := rowS_at (b := b) (e := e) k (s + 1) (p + numF (b.drop p)) (by omega) i hi'
        simp only [e1, List.getElem_cons_succ]
        exact ⟨this.1, by rw [this.2.1]; omega, this.2.2⟩
end Go.Proofs.YtboigcnpamldlaaDoor
