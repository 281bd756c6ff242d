import Derived.Test.YtfepggdljhiemaaGreatDoorGCr
import Derived.Test.YtfepggdljhiemaaGreatDoorGOe
import Derived.Deep.DeepCutAuto
import Derived.Test.YtfepggdljhiemaaGreatDoorGSh
import Derived.Test.YtfepggdljhiemaaGreatDoorRfB
import Derived.LoopNIn
import Derived.LoopIn
import Derived.Test.YtfepggdljhiemaaGreatDoorGOn
import Derived.Deep.RegionWith
import Derived.Test.YtfepggdljhiemaaGreatDoorGDs
import Derived.Test.YtfepggdljhiemaaGreatDoorGFl
/-! Frames: Size, Put. -/
set_option linter.unusedVariables false
set_option linter.unusedSimpArgs false
set_option maxRecDepth 100000
namespace Go.Proofs.YtfepggdljhiemaaGreatDoor
open Go.RowKit Gw

/-- a frame's bytes -/
def frB (e s : Nat) (l : List UInt8) : List UInt8 := low l.length 2 ++ low e 8 ++ low s 8 ++ l
def frame (e s : Nat) (l : List UInt8) : List UInt8 := frB e s l ++ low (crcS (frB e s l)) 4
def sizeF (n : Int) : Int := if n < 0 ∨ 32 < n then 0 else 22 + n
def PutF (e s : Nat) (l : List UInt8) (w : World) (en : Ending) (w' : World) : Prop :=
  ∃ v, en = .returned (.tuple #[v, .int .i64 (if 32 < l.length then 3 else 0)]) ∧ Ob w' v (if 32 < l.length then [] else frame e s l) ∧ New w v ∧ Mod [] w w'
theorem size_any (n : Int) (w : World) : Calls Tryz.prog 86 #[.int .i64 n] w fun e w' => e = .returned (.int .i64 (sizeF n)) ∧ w = w' := by
  by_cases h : n < 0
  · rw [show sizeF n = 0 from if_pos (.inl h)]
    go_enter Tryz.func86, Tryz.ntmps86
    go_wp2_with fail
    go_ret
    exact ⟨rfl, rfl⟩
  · by_cases h2 : 32 < n
    · rw [show sizeF n = 0 from if_pos (.inr h2)]
      have h0 : 0 ≤ n := by omega
      go_enter Tryz.func86, Tryz.ntmps86
      go_wp2_with fail
      go_ret
      exact ⟨rfl, rfl⟩
    · rw [show sizeF n = 22 + n from if_neg (by omega)]
      have h0 : 0 ≤ n := by omega
      have h3 : n ≤ 32 := by omega
      go_enter Tryz.func86, Tryz.ntmps86
      go_wp2_with fail
      go_ret
      exact ⟨rfl, rfl⟩
theorem rsize_any (n : Int) (w : World) : Calls Tryz.prog 201 #[.int .i64 n] w fun e w' => e = .returned (.int .i64 (sizeF n)) ∧ w = w' := by
  by_cases h : n < 0
  · rw [show sizeF n = 0 from if_pos (.inl h)]
    go_enter Tryz.func201, Tryz.ntmps201
    go_wp2_with fail
    go_ret
    exact ⟨rfl, rfl⟩
  · by_cases h2 : 32 < n
    · rw [show sizeF n = 0 from if_pos (.inr h2)]
      have h0 : 0 ≤ n := by omega
      go_enter Tryz.func201, Tryz.ntmps201
      go_wp2_with fail
      go_ret
      exact ⟨rfl, rfl⟩
    · rw [show sizeF n = 22 + n from if_neg (by omega)]
      have h0 : 0 ≤ n := by omega
      have h3 : n ≤ 32 := by omega
      go_enter Tryz.func201, Tryz.ntmps201
      go_wp2_with fail
      go_ret
      exact ⟨rfl, rfl⟩
set_option maxHeartbeats 4000000 in
theorem fput_any (e s : Nat) (l : List UInt8) (v : Value) (w : World) (hv : Bs w v l) (he : e < 18446744073709551616) (hs : s < 18446744073709551616) (hT : TabC w) :
    Calls Tryz.prog 38 #[.agg #[.int .u64 (e : Nat), .int .u64 (s : Nat), v]] w (PutF e s l w) := by
  obtain ⟨ao, cap, rfl, hc1, hc2⟩ := hv.form
  unfold PutF
  by_cases h32 : 32 < l.length
  · rw [if_pos h32, if_pos h32]
    have y1 : (32 : Int) < l.length := by omega
    go_enter Tryz.func38, Tryz.ntmps38
    go_wp2_with (with_reducible refine st_box ?_)
    refine StopOp.go rfl fun K hK => ?_
    refine wp_box (v := .agg #[.int .u64 (e : Nat), .int .u64 (s : Nat), .slice ao l.length cap]) (by rfl) ?_
    intro g w1 hg1 hg2 hm1 hB1
    simp only [put_some, List.set_cons_succ, List.set_cons_zero]
    refine hK _ _ ?_
    clear hK K
    have hB : Blk w1 g 97 [.int .u64 (e : Nat), .int .u64 (s : Nat), .slice ao l.length cap] := hB1
    have b2 := hB.cell' (i := 2) rfl
    go_wp2_with fail
    go_ret2
    exact ⟨_, rfl, Ob.nil _, by simp [New, blks], hm1⟩
  · rw [if_neg h32, if_neg h32]
    have y1 : (l.length : Int) ≤ 32 := by omega
    have z1 : IntKind.u16.wrap (l.length : Int) = l.length := by rw [IntKind.wrap_u16]; omega
    obtain ⟨B, hBb⟩ : ∃ B, B = frB e s l := ⟨_, rfl⟩
    have hBl : B.length ≤ 100 := by rw [hBb]; unfold frB; simp only [List.length_append, low_length]; omega
    have hF : frame e s l = B ++ low (crcS B) 4 := by rw [hBb]; rfl
    have hcl := crcS_lt B
    unfold frB at hBb
    have HBB := Lib.hid hBb
    have HF := Lib.hid hF
    obtain ⟨FR, hFR⟩ : ∃ x, x = frame e s l := ⟨_, rfl⟩
    rw [← hFR] at HF ⊢
    clear hBb hF hFR
    obtain ⟨cs, hcs⟩ : ∃ x, x = crcS B := ⟨_, rfl⟩
    rw [← hcs] at hcl HF
    have HCS := Lib.hid hcs
    clear hcs
    go_enter Tryz.func38, Tryz.ntmps38
    go_wp2_with (with_reducible refine st_box ?_)
    refine StopOp.go rfl fun K hK => ?_
    refine wp_box (v := .agg #[.int .u64 (e : Nat), .int .u64 (s : Nat), .slice ao l.length cap]) (by rfl) ?_
    intro g w1 hg1 hg2 hm1 hB1
    simp only [put_some, List.set_cons_succ, List.set_cons_zero]
    refine hK _ _ ?_
    clear hK K
    have hB : Blk w1 g 97 [.int .u64 (e : Nat), .int .u64 (s : Nat), .slice ao l.length cap] := hB1
    have b2 := hB.cell' (i := 2) rfl
    have hv1 := hv.ext hm1
    go_wp2_with (with_reducible refine st_alloc ?_)
    refine StopOp.go rfl fun K hK => ?_
    refine wp_alloc zero_writer ?_
    intro p w2 hp1 hp2 hm2 hP2
    simp only [put_some, List.set_cons_succ, List.set_cons_zero]
    refine hK _ _ ?_
    clear hK K
    have hW2 := Wr.new hP2
    have hM2 := hm1.ext hm2
    have hB2 := hB.ext hm2
    have c2 := hB2.cell' (i := 2) rfl
    have c0 := hB2.cell' (i := 0) rfl
    have c1 := hB2.cell' (i := 1) rfl
    have hgp : g ≠ p := by omega
    have hpw : w.heap.size ≤ p := by have := hm1.size; omega
    clear b2 hm1 hm2 hP2 hB1
    go_wp2_with (first
                  | (go_at_call 87; (with_reducible refine (two_any p _ _ _ hW2 (by omega) (by omega) (by simp)).mono ?_); rintro e w3 ⟨rfl, hW3, hm3⟩; have hB3 := hB2.mod hm3 (by simpa using hgp); have x0 := hB3.cell' (i := 0) rfl; have hM3 := hM2.fresh hm3 (by simpa using hpw))
                  | (go_at_call 88; (with_reducible refine (eight_any p _ e _ hW3 (by omega) (by omega) (by simp [low_length])).mono ?_); rintro e w4 ⟨rfl, hW4, hm4⟩; have hB4 := hB3.mod hm4 (by simpa using hgp); have y1 := hB4.cell' (i := 1) rfl; have hM4 := hM3.fresh hm4 (by simpa using hpw))
                  | (go_at_call 88; (with_reducible refine (eight_any p _ s _ hW4 (by omega) (by omega) (by simp [low_length])).mono ?_); rintro e w5 ⟨rfl, hW5, hm5⟩; have hB5 := hB4.mod hm5 (by simpa using hgp); have u2 := hB5.cell' (i := 2) rfl; have hM5 := hM4.fresh hm5 (by simpa using hpw); have hv5 := hv.ext hM5)
                  | (go_at_call 89; (with_reducible refine (put_any p _ l _ _ hW5 hv5 (by simp [low_length]; omega)).mono ?_); rintro e w6 ⟨rfl, hW6, hm6⟩; have hM6 := hM5.fresh hm6 (by simpa using hpw); have hW6' : Wr w6 p B := (by rw [HBB.out]; simpa using hW6); have hT6 := hT.ext hM6)
                  | (go_at_call 92; (with_reducible refine (out_any p B _ hW6' (by omega)).mono ?_); rintro e w7 ⟨v7, rfl, ho7, hn7, hm7⟩; have hb7 := Ob.bs ho7; have hT7 := hT6.ext hm7; have hW7 := hW6'.ext hm7)
                  | (go_at_call 91; refine (sum_any B v7 _ hb7 hT7).mono ?_; rintro e w8 ⟨he8, hw8⟩; subst hw8; rw [← HCS.out] at he8; subst he8)
                  | (go_at_call 90; (with_reducible refine (four_any p B cs _ hW7 (by omega) (by omega) (by omega)).mono ?_); rintro e w9 ⟨rfl, hW9, hm9⟩; have hW9' : Wr w9 p FR := (by rw [HF.out]; simpa using hW9); have hM9 := (hM6.ext hm7).fresh hm9 (by simpa using hpw))
                  | (go_at_call 92; (with_reducible refine (out_any p FR _ hW9' (by rw [HF.out, List.length_append, low_length]; omega)).mono ?_); rintro e w10 ⟨v10, rfl, ho10, hn10, hm10⟩))
    go_ret2
    have s9 := hM9.size
    exact ⟨v10, rfl, ho10, fun k hk => Nat.le_trans s9 (hn10 k hk), hM9.ext hm10⟩
end Go.Proofs.YtfepggdljhiemaaGreatDoor

/-! Frames: what is read of bytes, the plain law. -/
namespace Go.Proofs.YtfepggdljhiemaaGreatDoor
open Go.RowKit Gw

/-- a frame -/
structure Fv where
  e : Nat
  s : Nat
  l : List UInt8
structure Fv.ok (f : Fv) : Prop where
  e : f.e < 18446744073709551616
  s : f.s < 18446744073709551616
  l : f.l.length ≤ 32
def Fv.b (f : Fv) : List UInt8 := frame f.e f.s f.l
def fz : Fv := ⟨0, 0, []⟩
theorem frame_len (e s : Nat) (l : List UInt8) : (frame e s l).length = 22 + l.length := by
  unfold frame frB
  simp only [List.length_append, low_length]
  omega
/-- the error of reading -/
def errF (b : List UInt8) : Int :=
  if b.length < 2 then 4 else if 32 < nb b 0 2 then 80 else if b.length < 22 + nb b 0 2 then 4 else if nb b (18 + nb b 0 2) 4 ≠ crcS (b.take (18 + nb b 0 2)) then 81 else 0
def parF (b : List UInt8) : Fv := ⟨nb b 2 8, nb b 10 8, (b.drop 18).take (nb b 0 2)⟩
def getF (b : List UInt8) : Fv := if errF b = 0 then parF b else fz
def numF (b : List UInt8) : Nat := if errF b = 0 then 22 + nb b 0 2 else 0
theorem errF_zero {b : List UInt8} (h : errF b = 0) : nb b 0 2 ≤ 32 ∧ 22 + nb b 0 2 ≤ b.length ∧ nb b (18 + nb b 0 2) 4 = crcS (b.take (18 + nb b 0 2)) := by
  unfold errF at h
  split at h
  · cases h
  split at h
  · cases h
  split at h
  · cases h
  split at h
  · cases h
  · rename_i h1 h2 h3 h4
    exact ⟨by omega, by omega, by simpa using h4⟩
theorem parF_ok {b : List UInt8} (h : errF b = 0) : (parF b).ok ∧ (parF b).l.length = nb b 0 2 := by
  obtain ⟨h1, h2, _⟩ := errF_zero h
  have a1 := nb_lt b 2 8
  have a2 := nb_lt b 10 8
  have hl : (parF b).l.length = nb b 0 2 := by unfold parF; dsimp only; rw [List.length_take, List.length_drop]; omega
  exact ⟨⟨a1, a2, by omega⟩, hl⟩
theorem numF_le (b : List UInt8) : numF b ≤ b.length ∧ numF b ≤ 54 ∧ (errF b = 0 → 22 ≤ numF b ∧ numF b = 22 + (getF b).l.length) := by
  unfold numF
  split
  · rename_i h
    obtain ⟨h1, h2, _⟩ := errF_zero h
    exact ⟨h2, by omega, fun _ => ⟨by omega, by unfold getF; rw [if_pos h, (parF_ok h).2]⟩⟩
  · rename_i h
    exact ⟨Nat.zero_le _, by omega, fun h' => absurd h' h⟩
/-- What is written is read as it was, whatever stands behind. -/
theorem getF_of {e s : Nat} {l : List UInt8} (he : e < 18446744073709551616) (hs : s < 18446744073709551616) (hl : l.length ≤ 32) (t : List UInt8) :
    errF (frame e s l ++ t) = 0 ∧ parF (frame e s l ++ t) = ⟨e, s, l⟩ ∧ nb (frame e s l ++ t) 0 2 = l.length := by
  have L := low_length
  have v1 : val (low l.length 2) = l.length := val_low' 2 _ (by omega)
  have v2 : val (low e 8) = e := val_low' 8 _ (by omega)
  have v3 : val (low s 8) = s := val_low' 8 _ (by omega)
  have hc := crcS_lt (frB e s l)
  have v4 : val (low (crcS (frB e s l)) 4) = crcS (frB e s l) := val_low' 4 _ (by omega)
  have hB : (frB e s l).length = 18 + l.length := by unfold frB; simp only [List.length_append, L]; try omega
  have e0 : nb (frame e s l ++ t) 0 2 = l.length := by
    unfold frame frB
    simp only [List.append_assoc]
    exact (nb_app [] (low l.length 2) _ 0 2 rfl (L _ _)).trans v1
  have e1 : nb (frame e s l ++ t) 2 8 = e := by
    unfold frame frB
    simp only [List.append_assoc]
    exact (nb_app (low l.length 2) (low e 8) _ 2 8 (L _ _) (L _ _)).trans v2
  have e2 : nb (frame e s l ++ t) 10 8 = s := by
    unfold frame frB
    simp only [List.append_assoc]
    rw [← List.append_assoc]
    exact (nb_app (low l.length 2 ++ low e 8) (low s 8) _ 10 8 (by rw [List.length_append, L, L]) (L _ _)).trans v3
  have e3 : ((frame e s l ++ t).drop 18).take l.length = l := by
    unfold frame frB
    simp only [List.append_assoc]
    rw [← List.append_assoc, ← List.append_assoc, List.drop_append_of_le_length (by simp only [List.length_append, L]; omega), List.drop_eq_nil_of_le (by simp only [List.length_append, L]; omega), List.nil_append, List.take_left]
  have e4 : nb (frame e s l ++ t) (18 + l.length) 4 = crcS (frB e s l) := by
    unfold frame
    rw [List.append_assoc]
    exact (nb_app (frB e s l) (low (crcS (frB e s l)) 4) _ _ 4 hB (L _ _)).trans v4
  have e5 : (frame e s l ++ t).take (18 + l.length) = frB e s l := by
    unfold frame
    rw [List.append_assoc, ← hB, List.take_left]
  have hlen : (frame e s l ++ t).length = 22 + l.length + t.length := by rw [List.length_append, frame_len]
  refine ⟨?_, ?_, e0⟩
  · unfold errF
    rw [e0, e4, e5, hlen, if_neg (by omega), if_neg (by omega), if_neg (by omega), if_neg (by simp)]
  · unfold parF
    rw [e0, e1, e2, e3]
/-! ### a row of frames -/
/-- stands the next frame there? -/
def stepF (b : List UInt8) (e s p : Nat) : Bool := decide (s + 1 < 18446744073709551616) && (decide (errF (b.drop p) = 0) && (decide ((parF (b.drop p)).e = e) && decide ((parF (b.drop p)).s = s + 1)))
theorem stepF_parts {b : List UInt8} {e s p : Nat} (h : stepF b e s p = true) : s + 1 < 18446744073709551616 ∧ errF (b.drop p) = 0 ∧ (parF (b.drop p)).e = e ∧ (parF (b.drop p)).s = s + 1 := by
  unfold stepF at h
  simpa only [Bool.and_eq_true, decide_eq_true_eq] using h
def rowF (b : List UInt8) (e : Nat) : Nat → Nat → Nat → List (Nat × Fv)
  | 0, _, _ => []
  | k + 1, s, p => if stepF b e s p = true then (p, parF (b.drop p)) :: rowF b e k (s + 1) (p + numF (b.drop p)) else []
/-- where it ends -/
def endF (L : List (Nat × Fv)) (p : Nat) : Nat := L.foldl (fun p x => p + (22 + x.2.l.length)) p
theorem step_num {b : List UInt8} {e s p : Nat} (h : stepF b e s p = true) : numF (b.drop p) = 22 + (parF (b.drop p)).l.length ∧ p + numF (b.drop p) ≤ b.length := by
  obtain ⟨_, h2, _, _⟩ := stepF_parts h
  have h3 := numF_le (b.drop p)
  have h4 := h3.2.2 h2
  have e1 : getF (b.drop p) = parF (b.drop p) := if_pos h2
  rw [e1] at h4
  rw [List.length_drop] at h3
  exact ⟨h4.2, by omega⟩
theorem rowF_more {b : List UInt8} {e : Nat} : ∀ (k s p : Nat), b.length ≤ p + k → rowF b e (k + 1) s p = rowF b e k s p
  | 0, s, p, h => by
    show (if stepF b e s p = true then _ else _) = _
    rw [if_neg (fun h1 => by have := step_num h1; omega)]
    rfl
  | k + 1, s, p, h => by
    show (if stepF b e s p = true then _ else _) = (if stepF b e s p = true then _ else _)
    split
    · rename_i h1
      have := step_num h1
      rw [rowF_more k (s + 1) _ (by omega)]
    · rfl
/-- the row of the frames -/
def rowS (b : List UInt8) (e s p : Nat) : List (Nat × Fv) := rowF b e b.length s p
theorem rowS_no {b : List UInt8} {e s p : Nat} (h : stepF b e s p = false) : rowS b e s p = [] := by
  unfold rowS
  cases b.length with
  | zero => rfl
  | succ k => show (if stepF b e s p = true then _ else _) = _; rw [h]; rfl
theorem rowS_yes {b : List UInt8} {e s p : Nat} (h : stepF b e s p = true) : rowS b e s p = (p, parF (b.drop p)) :: rowS b e (s + 1) (p + numF (b.drop p)) := by
  have h1 := step_num h
  have e1 : rowS b e s p = rowF b e (b.length + 1) s p := (rowF_more _ _ _ (by omega)).symm
  rw [e1]
  show (if stepF b e s p = true then _ else _) = _
  rw [if_pos h]
  rfl
theorem rowS_len {b : List UInt8} {e : Nat} : ∀ (k s p : Nat), b.length ≤ p + k → p + 22 * (rowS b e s p).length ≤ max p b.length
  | 0, s, p, h => by
    rw [rowS_no (by cases h1 : stepF b e s p with | false => rfl | true => have := step_num h1; omega)]
    simp; omega
  | k + 1, s, p, h => by
    cases h1 : stepF b e s p with
    | false => rw [rowS_no h1]; simp; omega
    | true =>
      have h2 := step_num h1
      have h3 := rowS_len (b := b) (e := e) k (s + 1) (p + numF (b.drop p)) (by omega)
      rw [rowS_yes h1, List.length_cons]
      omega
theorem endF_cons (x : Nat × Fv) (L : List (Nat × Fv)) (p : Nat) : endF (x :: L) p = endF L (p + (22 + x.2.l.length)) := rfl
theorem endF_snoc (L : List (Nat × Fv)) (x : Nat × Fv) (p : Nat) : endF (L ++ [x]) p = endF L p + (22 + x.2.l.length) := by unfold endF; rw [List.foldl_append]; rfl
/-- where each one stands -/
theorem rowS_place {b : List UInt8} {e : Nat} : ∀ (k s p : Nat), b.length ≤ p + k → ∀ (L : List (Nat × Fv)) (x : Nat × Fv), L ++ [x] <+: rowS b e s p → x.1 = endF L p ∧ x.1 + (22 + x.2.l.length) ≤ b.length ∧ x.2.ok
  | 0, s, p, h, L, x, hp => by
    rw [rowS_no (by cases h1 : stepF b e s p with | false => rfl | true => have := step_num h1; omega)] at hp
    have := hp.length_le
    simp at this
  | k + 1, s, p, h, L, x, hp => by
    cases h1 : stepF b e s p with
    | false =>
      rw [rowS_no h1] at hp
      have := hp.length_le
      simp at this
    | true =>
      have h2 := step_num h1
      obtain ⟨_, h3, _, _⟩ := stepF_parts h1
      rw [rowS_yes h1] at hp
      cases L with
      | nil =>
        obtain ⟨t, ht⟩ := hp
        rw [List.nil_append, List.singleton_append] at ht
        injection ht with e1 e2
        rw [e1]
        exact ⟨rfl, by have := h2.2; rw [h2.1] at this; exact this, (parF_ok h3).1⟩
      | cons y L =>
        obtain ⟨t, ht⟩ := hp
        simp only [List.cons_append] at ht
        injection ht with e1 e2
        have := rowS_place (b := b) (e := e) k (s + 1) (p + numF (b.drop p)) (by omega) L x ⟨t, e2⟩
        rw [e1, endF_cons, ← h2.1]
        exact this
/-- What a row tells, one by one. -/
theorem rowS_at {b : List UInt8} {e : Nat} : ∀ (k s p : Nat), b.length ≤ p + k → ∀ i (h : i < (rowS b e s p).length), (rowS b e s p)[i].2.e = e ∧ (rowS b e s p)[i].2.s = s + i + 1 ∧ (rowS b e s p)[i].2.ok
  | 0, s, p, h, i, hi => by
    rw [rowS_no (by cases h1 : stepF b e s p with | false => rfl | true => have := step_num h1; omega)] at hi
    exact absurd hi (by simp)
  | k + 1, s, p, h, i, hi => by
    cases h1 : stepF b e s p with
    | false => rw [rowS_no h1] at hi; exact absurd hi (by simp)
    | true =>
      have h2 := step_num h1
      obtain ⟨_, h3, h4, h5⟩ := stepF_parts h1
      have e1 := rowS_yes h1
      cases i with
      | zero => simp only [e1, List.getElem_cons_zero]; exact ⟨h4, by rw [h5], (parF_ok h3).1⟩
      | succ i =>
        have hi' : i < (rowS b e (s + 1) (p + numF (b.drop p))).length := by rw [e1] at hi; simpa using hi
        have := rowS_at (b := b) (e := e) k (s + 1) (p + numF (b.drop p)) (by omega) i hi'
        simp only [e1, List.getElem_cons_succ]
        exact ⟨this.1, by rw [this.2.1]; omega, this.2.2⟩
end Go.Proofs.YtfepggdljhiemaaGreatDoor

/-! Frames: Get. -/
namespace Go.Proofs.YtfepggdljhiemaaGreatDoor
open Go.RowKit Gw

theorem tkRest_len (l : List UInt8) (e n : Int) : (tkRest l e n).length ≤ l.length := by
  unfold tkRest
  split
  · split <;> simp
  · exact Nat.le_refl _
/-- a chain of reads -/
def chE : List UInt8 → Int → List Nat → Int
  | _, e, [] => e
  | l, e, n :: ns => chE (tkRest l e n) (tkErr l e n) ns
theorem tkErr_4 (l : List UInt8) (n : Int) : tkErr l 4 n = 4 := by unfold tkErr; rw [if_neg (by decide)]
theorem chE_4 : ∀ (ns : List Nat) (l : List UInt8), chE l 4 ns = 4
  | [], _ => rfl
  | n :: ns, l => by unfold chE; rw [tkErr_4]; exact chE_4 ns _
theorem chE_short : ∀ (ns : List Nat) (l : List UInt8), l.length < ns.sum → chE l 0 ns = 4
  | [], l, h => by simp at h
  | n :: ns, l, h => by
    unfold chE
    by_cases h1 : l.length < n
    · have e : tkErr l 0 n = 4 := by unfold tkErr; rw [if_pos rfl, if_neg (by omega), if_pos (by omega)]
      rw [e]; exact chE_4 ns _
    · have e : tkErr l 0 n = 0 := by unfold tkErr; rw [if_pos rfl, if_neg (by omega), if_neg (by omega)]
      have e2 : tkRest l 0 n = l.drop n := by unfold tkRest; rw [if_pos rfl, if_pos (by omega), Int.toNat_natCast]
      rw [e, e2]
      exact chE_short ns _ (by rw [List.length_drop]; simp at h; omega)
theorem Bs.pref {w : World} {ao : Option Addr} {n cap k : Nat} {l : List UInt8} (h : Bs w (.slice ao n cap) l) (hn : n = l.length) (hk : k ≤ n) (hc : k ≤ cap) : Bs w (.slice ao k cap) (l.take k) := by
  subst hn
  have h2 := Sl.cut (lo := 0) (hi := k) (m := cap) h (Nat.zero_le _) hk hc (Nat.le_refl _)
  have hl : (l.take k).length = k := by rw [List.length_take]; omega
  unfold Bs
  rw [hl]
  have e : bv (l.take k) = ((bv l).drop (0 * 1)).take ((k - 0) * 1) := by unfold bv; simp
  rw [e]
  have e2 : ao.map (·.add (0 * 1)) = ao := by cases ao <;> simp [Addr.add]
  rw [e2] at h2
  simpa using h2
/-- what Get tells -/
def GetF (b : List UInt8) (w : World) (e : Ending) (w' : World) : Prop := ∃ v, e = .returned (.tuple #[.agg #[.int .u64 ((getF b).e : Nat), .int .u64 ((getF b).s : Nat), v], .int .i64 (numF b : Nat), .int .i64 (errF b)]) ∧ Ob w' v (getF b).l ∧ New w v ∧ Mod [] w w'
theorem gf_no {b : List UInt8} {n : Int} (h : errF b = n) (hn : n ≠ 0) {w w' : World} {e : Ending} (he : e = .returned (.tuple #[.agg #[.int .u64 0, .int .u64 0, .slice none 0 0], .int .i64 0, .int .i64 n])) (hm : Mod [] w w') : GetF b w e w' := by
  have e1 : getF b = fz := if_neg (by rw [h]; exact hn)
  have e2 : numF b = 0 := if_neg (by rw [h]; exact hn)
  refine ⟨.slice none 0 0, ?_, ?_, by simp [New, blks], hm⟩
  · rw [e1, e2, h]; exact he
  · rw [e1]; exact Ob.nil _
theorem zero_frame : (Tryz.prog.info? 97).map (·.zero) = some (some (.agg #[.int .u64 0, .int .u64 0, .slice none 0 0])) := by kernel_rfl
set_option maxRecDepth 1000000 in
set_option maxHeartbeats 8000000 in
theorem fget_any (b : List UInt8) (v : Value) (w : World) (hb : Bs w v b) (hl : b.length ≤ 140737488355328) (hT : TabC w) : Calls Tryz.prog 149 #[v] w (GetF b w) := by
  obtain ⟨aob, capb, rfl, hc1, hc2⟩ := hb.form
  obtain ⟨m, hm⟩ : ∃ m, m = min b.length 54 := ⟨_, rfl⟩
  have hbC := hb.pref rfl (k := m) (by omega) (by omega)
  obtain ⟨C, hC⟩ : ∃ C, C = b.take m := ⟨_, rfl⟩
  have hCl : C.length = m := by rw [hC, List.length_take]; omega
  rw [← hC] at hbC
  have hnb : ∀ p k, p + k ≤ m → nb C p k = nb b p k := fun p k h => by rw [hC]; exact nb_take _ _ _ _ h
  have HC := Lib.hid hC
  have HCl := Lib.hid hCl
  clear hC
  go_enter Tryz.func149, Tryz.ntmps149
  go_wp2_with (with_reducible refine st_alloc ?_)
  refine StopOp.go rfl fun K hK => ?_
  refine wp_alloc zero_frame ?_
  intro g w1 hg1 hg2 hm1 hB1
  simp only [put_some, List.set_cons_succ, List.set_cons_zero]
  refine hK _ _ ?_
  clear hK K
  go_upto_region 1 with fail
  go_cut [5] (fun x wx => ∃ r q, x = .pointer (some ⟨r, 0, none⟩) ∧ w1.heap.size ≤ r ∧ w1.heap.size ≤ q ∧ Rd wx r q C 0 ∧ Mod [] w1 wx)
  case first =>
    by_cases h54 : b.length ≤ 54
    · have y : (b.length : Int) ≤ 54 := by omega
      rw [show m = b.length by omega] at hbC
      go_wp2_with (go_at_call 178; refine (of_any C _ _ (hbC.ext hm1) (by omega)).mono ?_; rintro e w2 ⟨r, q, rfl, hr, hq, hqr, hR2, hm2⟩)
      go_meet
      exact ⟨r, q, rfl, hr, hq, hR2, hm2⟩
    · have y : (54 : Int) < b.length := by omega
      rw [show m = 54 by omega] at hbC
      go_wp2_with (go_at_call 178; refine (of_any C _ _ (hbC.ext hm1) (by omega)).mono ?_; rintro e w2 ⟨r, q, rfl, hr, hq, hqr, hR2, hm2⟩)
      go_meet
      exact ⟨r, q, rfl, hr, hq, hR2, hm2⟩
  case rest =>
  obtain ⟨r, q, rfl, hr, hq, hR, hm2⟩ := hcut
  obtain ⟨w2, hw2⟩ : ∃ x, x = wc := ⟨_, rfl⟩
  rw [← hw2] at hR hm2 ⊢
  clear hw2
  have hG2 : Blk w2 g 97 [.int .u64 0, .int .u64 0, .slice none 0 0] := Blk.ext hB1 hm2
  have hM2 := hm1.ext hm2
  have hgq : g ≠ q := by omega
  have hqw : w.heap.size ≤ q := by have := hm1.size; omega
  clear hB1 hm2 hbC
  by_cases h2 : b.length < 2
  · have RT := rtwo_any r q C 0
    unfold TakePost at RT
    rw [show tkErr C 0 2 = 4 by unfold tkErr; rw [if_pos rfl, if_neg (by omega), if_pos (by omega)]] at RT
    have gl := got_lt C 0 2
    have gl2 : (got C 0 2 : Int) ≤ 65535 := by omega
    have gl3 : (0 : Int) ≤ got C 0 2 := by omega
    obtain ⟨G, hG⟩ : ∃ G, G = got C 0 2 := ⟨_, rfl⟩
    rw [← hG] at RT gl2 gl3
    clear gl hG hnb hCl
    have hgw := hg1
    go_wp2_with (first
                  | (with_reducible refine st_store ?_)
                  | (go_at_call 179; refine (RT _ hR).mono ?_; rintro e w3 ⟨rfl, hR3, hm3⟩)
                  | (go_at_call 180; refine (err_any r q _ 4 _ hR3).mono ?_; rintro e w4 ⟨rfl, rfl⟩))
    have hG3 := hG2.mod hm3 (by simpa using hgq)
    have hM3 := hM2.fresh hm3 (by simpa using hqw)
    refine StopOp.go rfl fun K hK => ?_
    refine wp_store (u := .agg #[.int .u64 0, .int .u64 0, .slice none 0 0]) (by rfl) (by rfl) (by kernel_rfl) hG3 (by simp [Value.cells]) (by simp [Value.cells, Value.oneCell']) ?_
    intro w90 hm90 hB90
    refine hK _ _ ?_
    clear hK K
    have z0 := hB90.cell' (i := 0) rfl
    have z1 := hB90.cell' (i := 1) rfl
    have z2 := hB90.cell' (i := 2) rfl
    go_wp2_with fail
    exact bodyPost_ret (v := .tuple #[.agg #[.int .u64 0, .int .u64 0, .slice none 0 0], .int .i64 0, .int .i64 4]) (by simp [results, Tryz.results149, go_sem, z0, z1, z2]) rfl (gf_no (by unfold errF; rw [if_pos h2]) (by decide) rfl (hM3.fresh hm90 (by simpa using hgw)))
  have RT := fun w h => nn2 r q C 0 w h (by omega)
  unfold NextN at RT
  rw [hnb 0 2 (by omega)] at RT
  simp only [List.drop_zero, Nat.zero_add] at RT
  have kl := nb_lt b 0 2
  have herr : errF b = if 32 < nb b 0 2 then 80 else if b.length < 22 + nb b 0 2 then 4 else if nb b (18 + nb b 0 2) 4 ≠ crcS (b.take (18 + nb b 0 2)) then 81 else 0 := by unfold errF; rw [if_neg h2]
  have hpar : parF b = ⟨nb b 2 8, nb b 10 8, (b.drop 18).take (nb b 0 2)⟩ := rfl
  have hnum : numF b = if errF b = 0 then 22 + nb b 0 2 else 0 := rfl
  obtain ⟨k, hk⟩ : ∃ k, k = nb b 0 2 := ⟨_, rfl⟩
  rw [← hk] at RT kl herr hpar hnum
  clear hk
  have k1 : (k : Int) ≤ 65535 := by omega
  have k2 : (0 : Int) ≤ k := by omega
  have HERR := Lib.hid herr
  have HPAR := Lib.hid hpar
  have HNUM := Lib.hid hnum
  have HNB := Lib.hid hnb
  clear herr hpar hnum kl hnb
  by_cases h32 : 32 < k
  · have y : (32 : Int) < k := by omega
    have hgw := hg1
    go_wp2_with (first
                  | (with_reducible refine st_store ?_)
                  | (go_at_call 179; refine (RT _ hR).mono ?_; rintro e w3 ⟨rfl, hR3, hm3⟩)
                  | (go_at_call 180; refine (err_any r q _ 0 _ hR3).mono ?_; rintro e w4 ⟨rfl, rfl⟩))
    have hG3 := hG2.mod hm3 (by simpa using hgq)
    have hM3 := hM2.fresh hm3 (by simpa using hqw)
    refine StopOp.go rfl fun K hK => ?_
    refine wp_store (u := .agg #[.int .u64 0, .int .u64 0, .slice none 0 0]) (by rfl) (by rfl) (by kernel_rfl) hG3 (by simp [Value.cells]) (by simp [Value.cells, Value.oneCell']) ?_
    intro w90 hm90 hB90
    refine hK _ _ ?_
    clear hK K
    have z0 := hB90.cell' (i := 0) rfl
    have z1 := hB90.cell' (i := 1) rfl
    have z2 := hB90.cell' (i := 2) rfl
    go_wp2_with fail
    exact bodyPost_ret (v := .tuple #[.agg #[.int .u64 0, .int .u64 0, .slice none 0 0], .int .i64 0, .int .i64 80]) (by simp [results, Tryz.results149, go_sem, z0, z1, z2]) rfl (gf_no (by rw [HERR.out, if_pos h32]) (by decide) rfl (hM3.fresh hm90 (by simpa using hgw)))
  have y32 : (k : Int) ≤ 32 := by omega
  have SZ := fun w => size_any (k : Int) w
  rw [show sizeF (k : Int) = 22 + k from if_neg (by omega)] at SZ
  by_cases hsh : b.length < 22 + k
  · have hch := chE_short [8, 8, k, 4] (C.drop 2) (by rw [List.length_drop]; simp; omega)
    have q8 : ((8 : Nat) : Int) = 8 := rfl
    have q4 : ((4 : Nat) : Int) = 4 := rfl
    simp only [chE, q8, q4] at hch
    clear q8 q4
    have R1 := reight_any r q (C.drop 2) 0
    have b1 := got_lt (C.drop 2) 0 8
    obtain ⟨L1, hL1⟩ : ∃ L, L = tkRest (C.drop 2) 0 8 := ⟨_, rfl⟩
    obtain ⟨e1, he1⟩ : ∃ e, e = tkErr (C.drop 2) 0 8 := ⟨_, rfl⟩
    obtain ⟨g1, hg1'⟩ : ∃ e, e = got (C.drop 2) 0 8 := ⟨_, rfl⟩
    unfold TakePost at R1
    rw [← hL1, ← he1, ← hg1'] at R1
    rw [← hL1, ← he1] at hch
    have l1 : L1.length ≤ b.length := by rw [hL1]; exact Nat.le_trans (tkRest_len _ _ _) (by rw [List.length_drop]; omega)
    clear hL1 he1 hg1' b1
    have R2 := reight_any r q L1 e1
    obtain ⟨L2, hL2⟩ : ∃ L, L = tkRest L1 e1 8 := ⟨_, rfl⟩
    obtain ⟨e2, he2⟩ : ∃ e, e = tkErr L1 e1 8 := ⟨_, rfl⟩
    obtain ⟨g2, hg2'⟩ : ∃ e, e = got L1 e1 8 := ⟨_, rfl⟩
    unfold TakePost at R2
    rw [← hL2, ← he2, ← hg2'] at R2
    rw [← hL2, ← he2] at hch
    have l2 : L2.length ≤ b.length := by rw [hL2]; exact Nat.le_trans (tkRest_len _ _ _) l1
    clear hL2 he2 hg2'
    have R3 := fun w h => rtake_any r q L2 e2 k w h (by omega) (by omega) (by omega)
    have R4 := rfour_any r q (tkRest L2 e2 k) (tkErr L2 e2 k)
    unfold TakePost at R3 R4
    rw [hch] at R4
    obtain ⟨L3, hL3⟩ : ∃ L, L = tkRest L2 e2 k := ⟨_, rfl⟩
    obtain ⟨e3, he3⟩ : ∃ e, e = tkErr L2 e2 k := ⟨_, rfl⟩
    obtain ⟨g3, hg3'⟩ : ∃ e, e = tkGot L2 e2 k := ⟨_, rfl⟩
    rw [← hL3, ← he3] at R3 R4
    rw [← hg3'] at R3
    obtain ⟨L4, hL4⟩ : ∃ L, L = tkRest L3 e3 4 := ⟨_, rfl⟩
    obtain ⟨g4, hg4'⟩ : ∃ e, e = got L3 e3 4 := ⟨_, rfl⟩
    rw [← hL4, ← hg4'] at R4
    clear hL3 he3 hg3' hL4 hg4' hch l1 l2
    have hgw := hg1
    go_wp2_with (first
                  | (with_reducible refine st_alloc ?_)
                  | (go_at_call 179; refine (RT _ hR).mono ?_; rintro e w3 ⟨rfl, hR3, hm3⟩)
                  | (go_at_call 180; refine (err_any r q _ 0 _ hR3).mono ?_; rintro e w4 ⟨rfl, rfl⟩)
                  | (go_at_call 181; refine (R1 _ hR3).mono ?_; rintro e w4 ⟨rfl, hR4, hm4⟩)
                  | (go_at_call 181; refine (R2 _ hR4).mono ?_; rintro e w5 ⟨rfl, hR5, hm5⟩)
                  | (go_at_call 182; refine (R3 _ hR5).mono ?_; rintro e w6 ⟨v6, rfl, ho6, hn6, hR6, hm6⟩; obtain ⟨ao6, cap6, rfl, _, _⟩ := ho6.sl.form))
    refine StopOp.go rfl fun K hK => ?_
    refine wp_alloc zero_frame ?_
    intro f w7 hf1 hf2 hm7 hB7
    simp only [put_some, List.set_cons_succ, List.set_cons_zero]
    refine hK _ _ ?_
    clear hK K
    go_wp2_with (with_reducible refine st_store ?_)
    refine StopOp.go rfl fun K hK => ?_
    refine wp_store (u := .agg #[.int .u64 g1, .int .u64 g2, .slice ao6 g3.length cap6]) (by rfl) (by rfl) (by kernel_rfl) hB7 (by simp [Value.cells]) (by simp [Value.cells, Value.oneCell']) ?_
    intro w8 hm8 hB8
    refine hK _ _ ?_
    clear hK K
    have hR8 : Rd w8 r q L3 e3 := (hR6.ext hm7).mod hB7 (by simp [Value.cells]) (by have := hR6.1.lt; omega) (by obtain ⟨_, hB, _⟩ := hR6.2; have := hB.lt; omega) hm8
    have hM3 := hM2.fresh hm3 (by simpa using hqw)
    have hM4 := hM3.fresh hm4 (by simpa using hqw)
    have hM5 := hM4.fresh hm5 (by simpa using hqw)
    have hM6 := hM5.fresh hm6 (by simpa using hqw)
    have hM7 := hM6.ext hm7
    have hM8 := hM7.fresh hm8 (by have := hM6.size; simp; omega)
    have sR6 := hR6.1.lt
    have sQ6 : q < w6.heap.size := by obtain ⟨_, hB, _⟩ := hR6.2; exact hB.lt
    have hfg : g < w6.heap.size := by have := hG2.lt; have := hm3.size; have := hm4.size; have := hm5.size; have := hm6.size; omega
    have hG8 : Blk w8 g 97 [.int .u64 0, .int .u64 0, .slice none 0 0] := ((((((hG2.mod hm3 (by simpa using hgq)).mod hm4 (by simpa using hgq)).mod hm5 (by simpa using hgq)).mod hm6 (by simpa using hgq)).ext hm7).mod hm8 (by simp; omega))
    clear hR3 hR4 hR5 hR6 hm3 hm4 hm5 hm6 hm7 hm8 hB7 hB8 hM3 hM4 hM5 hM6 hM7 ho6 hn6 hG2 hM2 RT R1 R2 R3
    go_wp2_with (first
                  | (with_reducible refine st_store ?_)
                  | (go_at_call 183; refine (R4 _ hR8).mono ?_; rintro e w9 ⟨rfl, hR9, hm9⟩)
                  | (go_at_call 86; refine (SZ _).mono ?_; rintro e w10 ⟨rfl, rfl⟩)
                  | (go_at_call 180; refine (err_any r q _ 4 _ hR9).mono ?_; rintro e w10 ⟨rfl, rfl⟩))
    have hG9 := hG8.mod hm9 (by simpa using hgq)
    have hM9 := hM8.fresh hm9 (by simpa using hqw)
    refine StopOp.go rfl fun K hK => ?_
    refine wp_store (u := .agg #[.int .u64 0, .int .u64 0, .slice none 0 0]) (by rfl) (by rfl) (by kernel_rfl) hG9 (by simp [Value.cells]) (by simp [Value.cells, Value.oneCell']) ?_
    intro w90 hm90 hB90
    refine hK _ _ ?_
    clear hK K
    have z0 := hB90.cell' (i := 0) rfl
    have z1 := hB90.cell' (i := 1) rfl
    have z2 := hB90.cell' (i := 2) rfl
    go_wp2_with fail
    exact bodyPost_ret (v := .tuple #[.agg #[.int .u64 0, .int .u64 0, .slice none 0 0], .int .i64 0, .int .i64 4]) (by simp [results, Tryz.results149, go_sem, z0, z1, z2]) rfl (gf_no (by rw [HERR.out, if_neg h32, if_pos hsh]) (by decide) rfl (hM9.fresh hm90 (by simpa using hgw)))
  have h22 : 22 + k ≤ m := by omega
  have hCl2 := HCl.out
  have R1 := fun w h => nn8 r q C 2 w h (by omega)
  have R2 := fun w h => nn8 r q C 10 w h (by omega)
  have R3 := fun w h => nntake r q C 18 k w h (by omega) (by omega)
  have R4 := fun w h => nn4 r q C (18 + k) w h (by omega)
  unfold NextN at R1 R2 R4
  rw [HNB.out 2 8 (by omega)] at R1
  rw [HNB.out 10 8 (by omega)] at R2
  rw [HNB.out (18 + k) 4 (by omega)] at R4
  simp only [Nat.reduceAdd] at R1 R2
  have hbody : (C.drop 18).take k = (parF b).l := by
    rw [HPAR.out, HC.out, List.drop_take, List.take_take, Nat.min_eq_left (by omega)]
  rw [hbody] at R3
  have hbl : (parF b).l.length = k := by rw [← hbody, List.length_take, List.length_drop]; omega
  have he1 : nb b 2 8 = (parF b).e := by rw [HPAR.out]
  have hs1 : nb b 10 8 = (parF b).s := by rw [HPAR.out]
  rw [he1] at R1
  rw [hs1] at R2
  obtain ⟨f, hf⟩ : ∃ f, f = parF b := ⟨_, rfl⟩
  rw [← hf] at R1 R2 R3 hbl
  clear he1 hs1 hbody hCl2
  obtain ⟨fe, fs, fl⟩ := f
  dsimp only at R1 R2 R3 hbl
  have x4 := nb_lt b (18 + k) 4
  obtain ⟨S4, hS4⟩ : ∃ S, S = nb b (18 + k) 4 := ⟨_, rfl⟩
  rw [← hS4] at R4 x4
  have hpre := hb.pref rfl (k := 22 + k - 4) (by omega) (by omega)
  obtain ⟨B, hB⟩ : ∃ B, B = b.take (18 + k) := ⟨_, rfl⟩
  rw [show b.take (22 + k - 4) = B by rw [hB]; congr 1; omega] at hpre
  have hcl := crcS_lt B
  have SU := fun w h1 h2 => sum_any B (.slice aob (22 + k - 4) capb) w h1 h2
  have hgw := hg1
  obtain ⟨cs, hcs⟩ : ∃ c, c = crcS B := ⟨_, rfl⟩
  rw [← hcs] at SU hcl
  have HS := Lib.hid (And.intro hS4 (And.intro hB hcs))
  have HF := Lib.hid hf
  clear hS4 hB hcs hf
  go_wp2_with (first
                | (with_reducible refine st_alloc ?_)
                | (go_at_call 179; refine (RT _ hR).mono ?_; rintro e w3 ⟨rfl, hR3, hm3⟩)
                | (go_at_call 180; refine (err_any r q _ 0 _ hR3).mono ?_; rintro e w4 ⟨rfl, rfl⟩)
                | (go_at_call 181; refine (R1 _ hR3).mono ?_; rintro e w4 ⟨rfl, hR4, hm4⟩)
                | (go_at_call 181; refine (R2 _ hR4).mono ?_; rintro e w5 ⟨rfl, hR5, hm5⟩)
                | (go_at_call 182; refine (R3 _ hR5).mono ?_; rintro e w6 ⟨v6, rfl, ho6, hn6, hR6, hm6⟩; obtain ⟨ao6, cap6, rfl, _, _⟩ := Ob.nx ho6 hbl))
  refine StopOp.go rfl fun K hK => ?_
  refine wp_alloc zero_frame ?_
  intro f w7 hf1 hf2 hm7 hB7
  simp only [put_some, List.set_cons_succ, List.set_cons_zero]
  refine hK _ _ ?_
  clear hK K
  go_wp2_with (with_reducible refine st_store ?_)
  refine StopOp.go rfl fun K hK => ?_
  refine wp_store (u := .agg #[.int .u64 fe, .int .u64 fs, .slice ao6 k cap6]) (by rfl) (by rfl) (by kernel_rfl) hB7 (by simp [Value.cells]) (by simp [Value.cells, Value.oneCell']) ?_
  intro w8 hm8 hB8
  refine hK _ _ ?_
  clear hK K
  have hR8 : Rd w8 r q (C.drop (18 + k)) 0 := (hR6.ext hm7).mod hB7 (by simp [Value.cells]) (by have := hR6.1.lt; omega) (by obtain ⟨_, hB, _⟩ := hR6.2; have := hB.lt; omega) hm8
  have hM3 := hM2.fresh hm3 (by simpa using hqw)
  have hM4 := hM3.fresh hm4 (by simpa using hqw)
  have hM5 := hM4.fresh hm5 (by simpa using hqw)
  have hM6 := hM5.fresh hm6 (by simpa using hqw)
  have hM7 := hM6.ext hm7
  have hM8 := hM7.fresh hm8 (by have := hM6.size; simp; omega)
  have sR6 := hR6.1.lt
  have sQ6 : q < w6.heap.size := by obtain ⟨_, hB, _⟩ := hR6.2; exact hB.lt
  have hfg : g < w6.heap.size := by have := hG2.lt; have := hm3.size; have := hm4.size; have := hm5.size; have := hm6.size; omega
  have hG8 : Blk w8 g 97 [.int .u64 0, .int .u64 0, .slice none 0 0] := ((((((hG2.mod hm3 (by simpa using hgq)).mod hm4 (by simpa using hgq)).mod hm5 (by simpa using hgq)).mod hm6 (by simpa using hgq)).ext hm7).mod hm8 (by simp; omega))
  have hF8 : Blk w8 f 97 [.int .u64 fe, .int .u64 fs, .slice ao6 k cap6] := hB8
  have ho8 : Ob w8 (.slice ao6 k cap6) fl := (ho6.ext hm7).mod hm8 (fun b hb hh => by have := Ow.lt ho6 b hb; have e : b = f := (by simpa using hh); omega)
  have hn8 : New w (.slice ao6 k cap6) := fun b hb => Nat.le_trans hM5.size (hn6 b hb)
  have hfq : f ≠ q := by omega
  have hfw : w.heap.size ≤ f := by have := hM6.size; omega
  have hT8 := hT.ext hM8
  clear hR3 hR4 hR5 hR6 hm3 hm4 hm5 hm6 hm7 hm8 hB7 hB8 hM3 hM4 hM5 hM6 hM7 ho6 hn6 hG2 hM2 RT R1 R2 R3
  have hoq : ∀ w', Mod [q] w8 w' → Ob w' (.slice ao6 k cap6) fl := fun w' hm => ho8.mod hm (fun b hb hh => by
    have e : b = q := by simpa using hh
    obtain ⟨_, hB, _⟩ := hR8.2
    exact Ow.ne ho8 hB (by decide) (e ▸ hb))
  by_cases hsum : S4 = cs
  · subst hsum
    go_wp2_with (first
                  | (with_reducible refine st_store ?_)
                  | (go_at_call 183; refine (R4 _ hR8).mono ?_; rintro e w9 ⟨rfl, hR9, hm9⟩; have hT9 := hT.ext (hM8.fresh hm9 (by simpa using hqw)); have hp9 := hpre.ext (hM8.fresh hm9 (by simpa using hqw)); have hF9 := hF8.mod hm9 (by simpa using hfq); have y0 := hF9.cell' (i := 0) rfl; have y1' := hF9.cell' (i := 1) rfl; have y2 := hF9.cell' (i := 2) rfl)
                  | (go_at_call 86; refine (SZ _).mono ?_; rintro e w10 ⟨rfl, rfl⟩)
                  | (go_at_call 180; refine (err_any r q _ 0 _ hR9).mono ?_; rintro e w10 ⟨rfl, rfl⟩)
                  | (go_at_call 91; refine (SU _ hp9 hT9).mono ?_; rintro e w11 ⟨rfl, rfl⟩))
    have hG9 := hG8.mod hm9 (by simpa using hgq)
    have hM9 := hM8.fresh hm9 (by simpa using hqw)
    refine StopOp.go rfl fun K hK => ?_
    refine wp_store (u := .agg #[.int .u64 fe, .int .u64 fs, .slice ao6 k cap6]) (by rfl) (by rfl) (by kernel_rfl) hG9 (by simp [Value.cells]) (by simp [Value.cells, Value.oneCell']) ?_
    intro w90 hm90 hB90
    refine hK _ _ ?_
    clear hK K
    have z0 := hB90.cell' (i := 0) rfl
    have z1 := hB90.cell' (i := 1) rfl
    have z2 := hB90.cell' (i := 2) rfl
    go_wp2_with fail
    refine bodyPost_ret (v := .tuple #[.agg #[.int .u64 fe, .int .u64 fs, .slice ao6 k cap6], .int .i64 (22 + k), .int .i64 0]) (by simp [results, Tryz.results149, go_sem, z0, z1, z2]) rfl ?_
    have he : errF b = 0 := by rw [HERR.out, if_neg h32, if_neg hsh, ← HS.out.1, ← HS.out.2.1, ← HS.out.2.2, if_neg (by simp)]
    have hg : getF b = ⟨fe, fs, fl⟩ := by unfold getF; rw [if_pos he, ← HF.out]
    have ho9 := hoq _ hm9
    have hg9 : ∀ b ∈ blks (.slice ao6 k cap6), b ≠ g := fun b hb e => Ow.ne ho9 hG9 (by decide) (e ▸ hb)
    refine ⟨.slice ao6 k cap6, ?_, ?_, hn8, hM9.fresh hm90 (by simpa using hgw)⟩
    · rw [hg, he, show numF b = 22 + k by rw [HNUM.out, if_pos he]]
      simp
    · rw [hg]
      exact ho9.mod hm90 (fun b hb hh => hg9 b hb (by simpa using hh))
  · have e1 : ((S4 : Int) != (cs : Int)) = true := by simp; omega
    go_wp2_with (first
                  | (with_reducible refine st_store ?_)
                  | (go_at_call 183; refine (R4 _ hR8).mono ?_; rintro e w9 ⟨rfl, hR9, hm9⟩; have hT9 := hT.ext (hM8.fresh hm9 (by simpa using hqw)); have hp9 := hpre.ext (hM8.fresh hm9 (by simpa using hqw)))
                  | (go_at_call 86; refine (SZ _).mono ?_; rintro e w10 ⟨rfl, rfl⟩)
                  | (go_at_call 180; refine (err_any r q _ 0 _ hR9).mono ?_; rintro e w10 ⟨rfl, rfl⟩)
                  | (go_at_call 91; refine (SU _ hp9 hT9).mono ?_; rintro e w11 ⟨rfl, rfl⟩))
    have hG9 := hG8.mod hm9 (by simpa using hgq)
    have hM9 := hM8.fresh hm9 (by simpa using hqw)
    refine StopOp.go rfl fun K hK => ?_
    refine wp_store (u := .agg #[.int .u64 0, .int .u64 0, .slice none 0 0]) (by rfl) (by rfl) (by kernel_rfl) hG9 (by simp [Value.cells]) (by simp [Value.cells, Value.oneCell']) ?_
    intro w90 hm90 hB90
    refine hK _ _ ?_
    clear hK K
    have z0 := hB90.cell' (i := 0) rfl
    have z1 := hB90.cell' (i := 1) rfl
    have z2 := hB90.cell' (i := 2) rfl
    go_wp2_with fail
    exact bodyPost_ret (v := .tuple #[.agg #[.int .u64 0, .int .u64 0, .slice none 0 0], .int .i64 0, .int .i64 81]) (by simp [results, Tryz.results149, go_sem, z0, z1, z2]) rfl (gf_no (by rw [HERR.out, if_neg h32, if_neg hsh, ← HS.out.1, ← HS.out.2.1, ← HS.out.2.2, if_pos (by simpa using hsum)]) (by decide) rfl (hM9.fresh hm90 (by simpa using hgw)))
end Go.Proofs.YtfepggdljhiemaaGreatDoor

/-! Frames: Each. -/
namespace Go.Proofs.YtfepggdljhiemaaGreatDoor
open Go.RowKit Gw
attribute [local go_sem] Oper.semAt_some

set_option maxHeartbeats 400000 in
theorem fclone_any (l : List UInt8) (v : Value) (w : World) (hv : Bs w v l) (hl : l.length ≤ 140737488355328) :
    Calls Tryz.prog 133 #[v] w fun e w' => ∃ v', e = .returned v' ∧ Ob w' v' l ∧ New w v' ∧ Mod [] w w' := by
  obtain ⟨ao, cap, rfl, hc1, hc2⟩ := hv.form
  cases ao with
  | none =>
    have h0 : l = [] := List.eq_nil_of_length_eq_zero (by
      obtain ⟨ao', cap', hv', _, _, _, hn, _⟩ := hv
      injection hv' with e1 e2 e3
      have := hn e1.symm
      omega)
    subst h0
    go_enter Tryz.func133, Tryz.ntmps133
    go_wp2_with fail
    go_ret
    exact ⟨_, rfl, Ob.nil _, by simp [New, blks], Mod.refl _ _⟩
  | some ad =>
    go_enter Tryz.func133, Tryz.ntmps133
    go_wp2_with (with_reducible refine st_bslice ?_)
    refine StopOp.go rfl fun K hK => ?_
    refine wp_bslice stB [] rfl (by decide) (by rfl) (by simp) ?_
    intro p w1 hp1 hp2 hm1 hB1
    simp only [put_some, List.set_cons_succ, List.set_cons_zero]
    refine hK _ _ ?_
    clear hK K
    have ho1 : Ow w1 5 1 (.slice (some ⟨p, 0, none⟩) 0 0) 0 [] := Ow.of_blk (rest := []) hB1 (by omega) (by omega) (by simp) (by simp)
    go_wp2_with (with_reducible refine st_append ?_)
    refine StopOp.go rfl fun K hK => ?_
    refine wp_append_ow stB (by rfl) (by rfl) ho1 (hv.ext hm1) (bv_one l) (by omega) (by omega) ?_
    intro v2 w2 ho2 hm2 hb2
    simp only [put_some, List.set_cons_succ, List.set_cons_zero]
    refine hK _ _ ?_
    clear hK K
    rw [List.nil_append, Nat.zero_add] at ho2
    obtain ⟨ao2, cap2, rfl, _, _⟩ := ho2.sl.form
    go_wp2_with fail
    go_ret
    exact ⟨_, rfl, ho2, fun k hk => (hb2 k hk).elim (fun h => by rw [show k = p by simpa [blks] using h]; exact hp1) (fun h => Nat.le_trans hm1.size h), hm1.fresh hm2 (by simpa [blks] using hp1)⟩
/-- the closure's variables -/
structure Ech (w : World) (bs bb be : Nat) (vb : Value) (b : List UInt8) (e s : Nat) : Prop where
  cs : Blk w bs 32 [.int .u64 (s : Nat)]
  ce : Blk w be 32 [.int .u64 (e : Nat)]
  cb : Blk w bb 33 [vb]
  cv : Ob w vb b
def EchL (bs bb be : Nat) (vb : Value) : List Nat := bs :: bb :: be :: blks vb
/-- some blocks, and those from B on, lie as they lay -/
def KpL (L : List Nat) (B : Nat) (W W' : World) : Prop := W.heap.size ≤ W'.heap.size ∧ ∀ k, k < W.heap.size → k ∈ L ∨ B ≤ k → W'.heap[k]? = W.heap[k]?
theorem KpL.refl (L : List Nat) (B : Nat) (W : World) : KpL L B W W := ⟨Nat.le_refl _, fun _ _ _ => rfl⟩
theorem KpL.trans {L : List Nat} {b : Nat} {A B C : World} (h : KpL L b A B) (k : KpL L b B C) : KpL L b A C := ⟨Nat.le_trans h.1 k.1, fun i hi hj => (k.2 i (Nat.lt_of_lt_of_le hi h.1) hj).trans (h.2 i hi hj)⟩
theorem KpL.of_mod {L M : List Nat} {B : Nat} {W W' : World} (hm : Mod M W W') (h : ∀ k ∈ M, k ∉ L ∧ (k < B ∨ W.heap.size ≤ k)) : KpL L B W W' := ⟨hm.size, fun k hk hj => hm.block k hk (fun hM => by
  obtain ⟨h1, h2⟩ := h k hM
  rcases hj with hj | hj
  · exact h1 hj
  · omega)⟩
theorem KpL.next {L : List Nat} {B C : Nat} {U W W' : World} (h0 : KpL L B U W) (h : KpL L C W W') (hL : ∀ k ∈ L, k < U.heap.size) (hB : U.heap.size ≤ B) : KpL L B U W' :=
  ⟨Nat.le_trans h0.1 h.1, fun k hk hj => by
    rcases hj with hj | hj
    · exact (h.2 k (Nat.lt_of_lt_of_le hk h0.1) (.inl hj)).trans (h0.2 k hk (.inl hj))
    · omega⟩
theorem Ob.kpf {w w' : World} {v : Value} {l : List UInt8} (h : Ob w v l) (hk : ∀ k ∈ blks v, w'.heap[k]? = w.heap[k]?) : Ob w' v l := by
  rcases Ow.blk h with ⟨rfl, h1, h2⟩ | ⟨g, cap, rest, rfl, hB, h1, h2, h3, h4⟩
  · have e : l = [] := List.eq_nil_of_length_eq_zero h1
    subst e
    exact Ob.nil _
  · refine Ow.of_blk (rest := rest) ?_ h1 h2 h3 h4
    exact (hk g (by simp [blks])).trans hB
theorem Ech.kp {w w' : World} {bs bb be : Nat} {vb : Value} {b : List UInt8} {e s : Nat} (h : Ech w bs bb be vb b e s) {B : Nat} (hk : KpL (0 :: EchL bs bb be vb) B w w') : Ech w' bs bb be vb b e s :=
  ⟨(hk.2 bs h.cs.lt (by simp [EchL])).trans h.cs, (hk.2 be h.ce.lt (by simp [EchL])).trans h.ce, (hk.2 bb h.cb.lt (by simp [EchL])).trans h.cb, Ob.kpf h.cv (fun k hk' => hk.2 k (Ow.lt h.cv k hk') (by simp [EchL, hk']))⟩
theorem Ech.lt {w : World} {bs bb be : Nat} {vb : Value} {b : List UInt8} {e s : Nat} (h : Ech w bs bb be vb b e s) : ∀ k ∈ EchL bs bb be vb, k < w.heap.size := fun k hk => by
  simp only [EchL, List.mem_cons] at hk
  rcases hk with rfl | rfl | rfl | hk
  · exact h.cs.lt
  · exact h.cb.lt
  · exact h.ce.lt
  · exact Ow.lt h.cv k hk
theorem TabC.kp {w w' : World} {L : List Nat} {B : Nat} (h : TabC w) (hk : KpL (0 :: L) B w w') : TabC w' := by
  obtain ⟨h1, h2⟩ := h
  refine ⟨Nat.lt_of_lt_of_le h1 hk.1, fun i hi => ?_⟩
  rw [← h2 i hi]
  unfold World.cell?
  rw [hk.2 0 h1 (by simp)]
theorem Ech.ext {w w' : World} {bs bb be : Nat} {vb : Value} {b : List UInt8} {e s : Nat} (h : Ech w bs bb be vb b e s) (hm : Mod [] w w') : Ech w' bs bb be vb b e s := ⟨h.cs.ext hm, h.ce.ext hm, h.cb.ext hm, h.cv.ext hm⟩
def EachP (b : List UInt8) (e s : Nat) (w : World) (en : Ending) (w' : World) : Prop :=
  ∃ bs bb be vb, en = .returned (.func (.func 148) #[] #[.pointer (some ⟨bs, 0, none⟩), .pointer (some ⟨bb, 0, none⟩), .pointer (some ⟨be, 0, none⟩)]) ∧ Ech w' bs bb be vb b e s ∧ (∀ k ∈ EchL bs bb be vb, w.heap.size ≤ k) ∧ Mod [] w w'
set_option maxHeartbeats 400000 in
theorem each_any (b : List UInt8) (e s : Nat) (v : Value) (w : World) (hb : Bs w v b) (hl : b.length ≤ 140737488355328) : Calls Tryz.prog 101 #[v, .int .u64 (e : Nat), .int .u64 (s : Nat)] w (EachP b e s w) := by
  obtain ⟨ao, cap, rfl, hc1, hc2⟩ := hb.form
  go_enter Tryz.func101, Tryz.ntmps101
  go_wp2_with (with_reducible refine st_box ?_)
  refine StopOp.go rfl fun K hK => ?_
  refine wp_box (v := .slice ao b.length cap) (by rfl) ?_
  intro p w1 hp1 hp2 hm1 hB1
  simp only [put_some, List.set_cons_succ, List.set_cons_zero]
  refine hK _ _ ?_
  clear hK K
  go_wp2_with (with_reducible refine st_box ?_)
  refine StopOp.go rfl fun K hK => ?_
  refine wp_box (v := .int .u64 (e : Nat)) (by rfl) ?_
  intro q w2 hq1 hq2 hm2 hB2
  simp only [put_some, List.set_cons_succ, List.set_cons_zero]
  refine hK _ _ ?_
  clear hK K
  go_wp2_with (with_reducible refine st_box ?_)
  refine StopOp.go rfl fun K hK => ?_
  refine wp_box (v := .int .u64 (s : Nat)) (by rfl) ?_
  intro r w3 hr1 hr2 hm3 hB3
  simp only [put_some, List.set_cons_succ, List.set_cons_zero]
  refine hK _ _ ?_
  clear hK K
  have hP : Blk w3 p 33 [.slice ao b.length cap] := (Blk.ext hB1 hm2).ext hm3
  have hb3 := ((hb.ext hm1).ext hm2).ext hm3
  have c0 := hP.cell' (i := 0) rfl
  go_wp2_with (first
                | (with_reducible refine st_store ?_)
                | (go_at_call 133; refine (fclone_any b _ _ hb3 hl).mono ?_; rintro e w4 ⟨v4, rfl, ho4, hn4, hm4⟩; obtain ⟨ao4, cap4, rfl, _, _⟩ := ho4.sl.form))
  have hP4 := hP.ext hm4
  refine StopOp.go rfl fun K hK => ?_
  refine wp_store1 (by kernel_rfl) (by rfl) (u := .slice ao4 b.length cap4) (by rfl) ⟨rfl, rfl⟩ hP4 (by simp) ?_
  intro w5 hm5 hB5
  refine hK _ _ ?_
  clear hK K
  go_wp2_with fail
  go_ret
  have s1 := hm1.size
  have s2 := hm2.size
  have s3 := hm3.size
  have s4 := hm4.size
  have hpo : p ∉ blks (.slice ao4 b.length cap4) := fun hh => by have := hn4 p hh; omega
  refine ⟨r, p, q, .slice ao4 b.length cap4, rfl, ⟨(Blk.ext hB3 hm4).mod hm5 (by simp; omega), ((Blk.ext hB2 hm3).ext hm4).mod hm5 (by simp; omega), hB5, ho4.mod hm5 (fun k hk hh => hpo (by have e : k = p := (by simpa using hh); exact e ▸ hk))⟩, fun k hk => ?_, (((hm1.ext hm2).ext hm3).ext hm4).fresh hm5 (by simp; omega)⟩
  simp only [EchL, List.mem_cons] at hk
  rcases hk with rfl | rfl | rfl | hk
  · omega
  · omega
  · omega
  · have := hn4 k hk; omega
theorem Bs.suf {w : World} {ao : Option Addr} {n cap p : Nat} {l : List UInt8} (h : Bs w (.slice ao n cap) l) (hn : n = l.length) (hp : p ≤ n) (hc : n ≤ cap) : Bs w (.slice (if cap = p then ao else Option.map (fun x => x.add p) ao) (n - p) (cap - p)) (l.drop p) := by
  subst hn
  have h2 := Sl.cut (lo := p) (hi := l.length) (m := cap) h hp (Nat.le_refl _) hc (Nat.le_refl _)
  have hl : (l.drop p).length = l.length - p := List.length_drop
  unfold Bs
  rw [hl]
  have e : bv (l.drop p) = ((bv l).drop (p * 1)).take ((l.length - p) * 1) := by
    unfold bv
    rw [Nat.mul_one, Nat.mul_one, ← List.map_drop, List.take_of_length_le (by rw [List.length_map]; omega)]
  rw [e]
  simpa only [Nat.mul_one] using h2
/-- what is handed over -/
structure Fi where
  p : Nat
  v : Value
  f : Fv
def Fi.enc (x : Fi) : Array Value := #[.int .i64 (x.p : Nat), .agg #[.int .u64 (x.f.e : Nat), .int .u64 (x.f.s : Nat), x.v]]
def Fi.d (x : Fi) : Nat × Fv := (x.p, x.f)
def Fi.phi (R : List (Nat × Fv)) (pre : List Fi) (B : Nat) (x : Fi) (W : World) : Prop := Ob W x.v x.f.l ∧ (∀ k ∈ blks x.v, B ≤ k) ∧ (pre ++ [x]).map Fi.d <+: R
set_option maxRecDepth 1000000 in
set_option maxHeartbeats 4000000 in
theorem each1_seq (n : Nat) (w : World) (bs bb be : Nat) (vb : Value) (b : List UInt8) (e s : Nat) (hE : Ech w bs bb be vb b e s) (hs : s < 18446744073709551616) (he : e < 18446744073709551616) (hl : b.length ≤ 140737488355328) (hT : TabC w) :
    SeqP Fence.wide n Tryz.prog 148 #[.pointer (some ⟨bs, 0, none⟩), .pointer (some ⟨bb, 0, none⟩), .pointer (some ⟨be, 0, none⟩)] Fi.enc (KpL (0 :: EchL bs bb be vb)) (Fi.phi (rowS b e s 0))
      (fun xs => xs.map Fi.d = rowS b e s 0) (fun pre => pre.map Fi.d <+: rowS b e s 0) (rowS b e s 0).length w := by
  intro l J Jx W hm hJ hJx hY h0
  obtain ⟨aov, capv, hvb, hcv1, hcv2⟩ := hE.cv.sl.form
  have hE0 := hE.ext hm
  have hT0 := hT.ext hm
  refine callsIn_of_wp Tryz.func148 rfl trivial ?_ rfl
  simp only [Tryz.ntmps148, List.size_toArray, List.length_cons, List.length_nil, Nat.reduceAdd, Nat.reduceSub, Array.replicate_succ, Array.replicate_zero, List.push_toArray, List.append_toArray, List.nil_append, List.cons_append]
  have s0 := hE0.cs.cell' (i := 0) rfl
  gi_wp2
  refine wpIn_scope_straight ?_
  gi_wp2
  refine wpIn_wide.2 (wp_region_T [⟨0, true, []⟩, ⟨1, true, []⟩, ⟨2, true, []⟩] (by kernel_rfl) (by kernel_rfl) ?_)
  have hm1 := Mod.drew [] W
  have hE1 := hE0.ext hm1
  have hT1 := hT0.ext hm1
  have h1 := hJ _ _ _ h0 hm1
  have hLw : ∀ k ∈ 0 :: EchL bs bb be vb, k < w.heap.size := fun k hk => (List.mem_cons.1 hk).elim (fun e => e ▸ hT.1) (hE.lt k)
  have hkp := KpL.of_mod (L := 0 :: EchL bs bb be vb) (B := w.heap.size) (hm.ext hm1) (fun k hk => nomatch hk)
  obtain ⟨w1, hw1⟩ : ∃ x, x = W.drew := ⟨_, rfl⟩
  rw [← hw1] at hE1 hT1 h1 hkp ⊢
  clear hw1 hm1
  have s1 := hE1.cs.cell' (i := 0) rfl
  iterate 3 (refine wpT_n rfl rfl (fun K hK => ?_); go_wp2_with fail)
  refine wpT_nil ?_
  go_wp2_with fail
  gi_wp2
  apply wpIn_label
  gi_wp2
  gi_loopw [5, 6] (fun pa la wr => ∃ (pre : List Fi) (p sq : Nat), pa = .int .i64 p ∧ la = .int .u64 sq ∧ pre.map Fi.d ++ rowS b e sq p = rowS b e s 0 ∧ p ≤ b.length ∧ sq < 18446744073709551616 ∧ J pre wr ∧ KpL (0 :: EchL bs bb be vb) w.heap.size w wr) (fun pa _ _ => b.length - (intOf pa).toNat)
  case atStart => exact ⟨[], 0, s, rfl, rfl, rfl, Nat.zero_le _, hs, h1, hkp⟩
  case round =>
    obtain ⟨pre, p, sq, rfl, rfl, hrow, hp, hsq, hJr, hkr⟩ := hrel
    have hEr := hE.kp hkr
    have hTr := hT.kp hkr
    by_cases hlast : sq + 1 < 18446744073709551616
    · have y1 : (sq : Int) + 1 ≤ 18446744073709551615 := by omega
      have y2 : (((sq : Int) + 1) != 0) = true := by simp; omega
      have b0 := hEr.cb.cell' (i := 0) rfl
      have hvr := Ob.bs hEr.cv
      rw [hvb] at b0 hvr
      have p1 : (p : Int) ≤ b.length := by omega
      have HROW := Lib.hid hrow
      clear hrow
      have GE := fun w v h hT => fget_any (b.drop p) v w h (by rw [List.length_drop]; omega) hT
      unfold GetF at GE
      have hvs := hvr.suf rfl hp hcv1
      have hpar : getF (b.drop p) = if errF (b.drop p) = 0 then parF (b.drop p) else fz := rfl
      have hstep : stepF b e sq p = (decide (sq + 1 < 18446744073709551616) && (decide (errF (b.drop p) = 0) && (decide ((parF (b.drop p)).e = e) && decide ((parF (b.drop p)).s = sq + 1)))) := rfl
      have hnum := numF_le (b.drop p)
      obtain ⟨f, hf⟩ : ∃ f, f = getF (b.drop p) := ⟨_, rfl⟩
      obtain ⟨m, hm'⟩ : ∃ m, m = numF (b.drop p) := ⟨_, rfl⟩
      obtain ⟨er, her⟩ : ∃ x, x = errF (b.drop p) := ⟨_, rfl⟩
      rw [← hf, ← hm', ← her] at GE
      have HH := Lib.hid (And.intro hpar (And.intro hstep (And.intro hnum (And.intro hf (And.intro hm' her)))))
      clear hpar hstep hnum hf hm' her
      repeat (first
                    | (with_reducible refine si_alloc ?_)
                    | ((first | ((with_reducible refine And.intro ?ga (And.intro ?gb ?_)); (case ga => exact trivial); (case gb => exact (fun hh => nomatch hh))) | ((with_reducible refine And.intro ?ga ?_); (case ga => exact trivial))); gi_at_call 149; refine ((wd_wide).calls (GE _ _ hvs hTr)).mono ?_; rintro e w2 ⟨v2, rfl, ho2, hn2, hm2⟩; obtain ⟨ao2, cap2, rfl, _, _⟩ := ho2.sl.form; dsimp only)
                    | go_values
                    | gi_guarded
                    | gi_step
                    | gi_upon
                    | gi_back
                    | (simp only [Int.not_lt, Int.not_le] at *; go_simp))
      refine StopIn.go wd_wide rfl (fun _ => by intro h; cases h) fun K hK => ?_
      refine wp_alloc zero_frame ?_
      intro g w3 hg1 hg2 hm3 hB3
      simp only [put_some, List.set_cons_succ, List.set_cons_zero]
      refine hK _ _ ?_
      clear hK K
      repeat (first
                    | (with_reducible refine si_store ?_)
                    | go_values
                    | gi_guarded
                    | gi_step
                    | gi_upon
                    | gi_back
                    | (simp only [Int.not_lt, Int.not_le] at *; go_simp))
      refine StopIn.go wd_wide rfl (fun _ => by intro h; cases h) fun K hK => ?_
      refine wp_store (u := .agg #[.int .u64 f.e, .int .u64 f.s, .slice ao2 f.l.length cap2]) (by rfl) (by rfl) (by kernel_rfl) hB3 (by simp [Value.cells]) (by simp [Value.cells, Value.oneCell']) ?_
      intro w4 hm4 hB4
      refine hK _ _ ?_
      clear hK K
      have hF4 : Blk w4 g 97 [.int .u64 f.e, .int .u64 f.s, .slice ao2 f.l.length cap2] := hB4
      have hm24 : Mod [] w2 w4 := hm3.fresh hm4 (by simpa using hg1)
      have hmr4 : Mod [] wr w4 := hm2.ext hm24
      have hog : g ∉ blks (.slice ao2 f.l.length cap2) := fun hh => by have := Ow.lt ho2 g hh; omega
      have ho4 : Ob w4 (.slice ao2 f.l.length cap2) f.l := (ho2.ext hm3).mod hm4 (fun k hk hh => hog (by have e : k = g := (by simpa using hh); exact e ▸ hk))
      have hE4 := hEr.ext hmr4
      have e0 := hE4.ce.cell' (i := 0) rfl
      have z0 := hF4.cell' (i := 0) rfl
      have z1 := hF4.cell' (i := 1) rfl
      have z2 := hF4.cell' (i := 2) rfl
      have hJ4 := hJ _ _ _ hJr hmr4
      clear hB3 hB4 hm3 hm4 ho2 b0
      have hno : stepF b e sq p = false → pre.map Fi.d = rowS b e s 0 := fun h => by
        have := HROW.out
        rwa [rowS_no h, List.append_nil] at this
      by_cases her0 : er = 0
      · subst her0
        have hff : f = parF (b.drop p) := by have := HH.out.1; rw [← HH.out.2.2.2.2.2, if_pos rfl] at this; rw [HH.out.2.2.2.1]; exact this
        have hst : stepF b e sq p = (decide (f.e = e) && decide (f.s = sq + 1)) := by rw [HH.out.2.1, ← HH.out.2.2.2.2.2, ← hff, decide_eq_true hlast]; simp
        by_cases hfe : f.e = e
        · rw [decide_eq_true hfe, Bool.true_and] at hst
          have q1 : ((f.e : Int) != (e : Int)) = false := by simp [hfe]
          by_cases hfs : f.s = sq + 1
          · rw [decide_eq_true hfs] at hst
            have q2 : ((f.s : Int) != (sq : Int) + 1) = false := by simp [hfs]
            have hrw := rowS_yes hst
            have hnum := step_num hst
            have hro := HROW.out
            rw [hrw, ← HH.out.2.2.2.2.1] at hro
            rw [← HH.out.2.2.2.2.1] at hnum
            have hlen : pre.length < (rowS b e s 0).length := by rw [← hro]; simp
            have hm22 : 22 ≤ m := by rw [hnum.1]; omega
            have hpf : (pre ++ [(⟨p, .slice ao2 f.l.length cap2, f⟩ : Fi)]).map Fi.d <+: rowS b e s 0 := ⟨rowS b e (sq + 1) (p + m), by rw [← hro, List.map_append, ← hff, List.append_assoc]; rfl⟩
            obtain ⟨fn, tmps, assign, body, hy, hR⟩ := hY pre ⟨p, .slice ao2 f.l.length cap2, f⟩ wr w4 hJr hmr4 ⟨ho4, hn2, hpf⟩ hlen
            dsimp only [Fi.enc] at hy
            rw [hfe, show ((f.s : Nat) : Int) = (sq : Int) + 1 by omega] at hy
            have HRO := Lib.hid hro
            have HNU := Lib.hid hnum
            have HFF := Lib.hid hff
            clear hrw hro hnum hlen hff hst hpf
            repeat (first
                          | go_values
                          | gi_guarded
                          | gi_step
                          | gi_upon
                          | gi_back
                          | (simp only [Int.not_lt, Int.not_le] at *; go_simp))
            refine ⟨(fun hh => nomatch hh), hR.mono ?_⟩
            rintro e' W' (⟨rfl, hJ', hk⟩ | ⟨rfl, hJx'⟩)
            · dsimp only
              have hgw : wr.heap.size ≤ g := by have := hm2.size; omega
              have hk2 := hkr.next ((KpL.of_mod (L := 0 :: EchL bs bb be vb) (B := wr.heap.size) hmr4 (fun k hk => nomatch hk)).trans hk) hLw (Nat.le_refl _)
              have hF' : Blk W' g 97 [.int .u64 f.e, .int .u64 f.s, .slice ao2 f.l.length cap2] := (hk.2 g hF4.lt (.inr hgw)).trans hF4
              have HM := Lib.hid hm22
              rw [show ((f.s : Nat) : Int) = (sq : Int) + 1 by omega] at hF'
              have hJ5' := fun {B} => hJ _ W' B hJ'
              have HFS := Lib.hid hfs
              have HFE := Lib.hid hfe
              clear hF4 z0 z1 z2 e0 hy hR hk hm22
              repeat (first
                            | go_values
                            | gi_guarded
                            | gi_step
                            | gi_upon
                            | gi_back
                            | (simp only [Int.not_lt, Int.not_le] at *; go_simp))
              clear hno GE hvs hvr q1 q2 hog hJ4 hE4 hm24 hJr hEr hTr hkr hn2 hm2 ho4 HROW hmr4 hfs hfe h0 h1 hJx hY hE hT hm hE1 hT1 hkp s1 hJ'
              refine wpIn_wide.2 ?_
              go_hide hQ
              refine wp_region_T [⟨0, true, []⟩, ⟨1, true, []⟩, ⟨2, true, []⟩, ⟨3, true, []⟩, ⟨4, true, []⟩, ⟨5, true, []⟩, ⟨6, true, []⟩] (by kernel_rfl) (by kernel_rfl) ?_
              have hJ5 := hJ5' (Mod.drew [] W')
              have hF5 := hF'.ext (Mod.drew [] W')
              have hk5 := hk2.trans (KpL.of_mod (L := 0 :: EchL bs bb be vb) (B := w.heap.size) (Mod.drew [] W') (fun k hk => nomatch hk))
              obtain ⟨w5, hw5⟩ : ∃ x, x = W'.drew := ⟨_, rfl⟩
              rw [← hw5] at hJ5 hF5 hk5 ⊢
              clear hw5
              have z1 := hF5.cell' (i := 1) rfl
              have pm : (p : Int) + m ≤ b.length := by have := HNU.out.2; omega
              have pm2 : (b.length : Int) ≤ 140737488355328 := by omega
              have HQ := Lib.hid hQ
              clear hQ
              iterate 7 (refine wpT_n rfl rfl (fun K hK => ?_); repeat (first | go_values | go_guarded | go_step | go_upon))
              refine wpT_nil ?_
              have hQ := HQ.out
              subst hQ
              repeat gi_step
              go_roundw
              case rel =>
                refine ⟨pre ++ [⟨p, .slice ao2 f.l.length cap2, f⟩], p + m, sq + 1, by simp, by simp, ?_, by omega, hlast, hJ5, hk5⟩
                rw [← HRO.out, List.map_append, ← HFF.out, List.append_assoc]
                rfl
              case measure =>
                have := HM.out
                simp [intOf]
                omega
            · dsimp only
              repeat (first
                            | go_values
                            | gi_guarded
                            | gi_step
                            | gi_upon
                            | gi_back
                            | (simp only [Int.not_lt, Int.not_le] at *; go_simp))
              rw [Exit.noGoto_ret]
              refine bodyPost_ret (results_none rfl _ _ _) rfl ?_
              refine ⟨⟨_, rfl⟩, .inr ⟨pre ++ [⟨p, .slice ao2 f.l.length cap2, f⟩], ?_, hJx'⟩⟩
              rw [← HRO.out, List.map_append, ← HFF.out]
              exact ⟨rowS b e (sq + 1) (p + m), by simp [Fi.d]⟩
          · rw [decide_eq_false hfs] at hst
            have q2 : ((f.s : Int) != (sq : Int) + 1) = true := by simp; omega
            have hN := hno hst
            clear hff hst
            repeat (first
                          | go_values
                          | gi_guarded
                          | gi_step
                          | gi_upon
                          | gi_back
                          | (simp only [Int.not_lt, Int.not_le] at *; go_simp))
            rw [Exit.noGoto_normal]
            go_end0
            exact ⟨⟨_, rfl⟩, .inl ⟨pre, hN, hJ4⟩⟩
        · rw [decide_eq_false hfe, Bool.false_and] at hst
          have q1 : ((f.e : Int) != (e : Int)) = true := by simp; omega
          have hN := hno hst
          clear hff hst
          repeat (first
                        | go_values
                        | gi_guarded
                        | gi_step
                        | gi_upon
                        | gi_back
                        | (simp only [Int.not_lt, Int.not_le] at *; go_simp))
          rw [Exit.noGoto_normal]
          go_end0
          exact ⟨⟨_, rfl⟩, .inl ⟨pre, hN, hJ4⟩⟩
      · have q1 : (er != 0) = true := by simpa using her0
        have hN := hno (by rw [HH.out.2.1, ← HH.out.2.2.2.2.2, decide_eq_false her0]; simp)
        repeat (first
                      | go_values
                      | gi_guarded
                      | gi_step
                      | gi_upon
                      | gi_back
                      | (simp only [Int.not_lt, Int.not_le] at *; go_simp))
        rw [Exit.noGoto_normal]
        go_end0
        exact ⟨⟨_, rfl⟩, .inl ⟨pre, hN, hJ4⟩⟩
    · obtain rfl : sq = 18446744073709551615 := by omega
      gi_wp2
      rw [Exit.noGoto_normal]
      go_end0
      refine ⟨⟨_, rfl⟩, .inl ⟨pre, ?_, hJr⟩⟩
      rw [rowS_no (by unfold stepF; rw [decide_eq_false (by omega)]; rfl), List.append_nil] at hrow
      exact hrow
end Go.Proofs.YtfepggdljhiemaaGreatDoor

/-! Frames: lists of frames in memory. -/
namespace Go.Proofs.YtfepggdljhiemaaGreatDoor
open Go.RowKit Gw

def Fi.cells (x : Fi) : List Value := [.int .u64 (x.f.e : Nat), .int .u64 (x.f.s : Nat), x.v]
def Fi.kv (x : Fi) : Value × List UInt8 := (x.v, x.f.l)
theorem stFr : ST Tryz.prog 40 97 (.agg #[.int .u64 0, .int .u64 0, .slice none 0 0]) 3 40 := ⟨Tryz.underlying40, by kernel_rfl, rfl, by decide⟩
theorem flen3 : ∀ L : List Fi, (L.flatMap Fi.cells).length = L.length * 3
  | [] => rfl
  | o :: os => by
    rw [List.flatMap_cons, List.length_append, flen3 os, List.length_cons]
    show 3 + os.length * 3 = _
    omega
/-- frames of one's own: the list and the bodies, all of it younger than base -/
structure Frs (w : World) (base : Nat) (v : Value) (L : List Fi) : Prop where
  ow : Ow w 97 3 v L.length (L.flatMap Fi.cells)
  fam : Fam w base (L.map Fi.kv)
  nw : ∀ k ∈ blks v, base ≤ k
section
variable {w w' w1 : World} {base B : Nat} {v v' : Value} {L : List Fi} {M : List Nat} {A : List (Value × List UInt8)} {u : Value} {l : List UInt8}
theorem Frs.nil (w : World) (base : Nat) : Frs w base (.slice none 0 0) [] := ⟨Ow.nil _ _ _, Fam.nil _ _, by simp [blks]⟩
theorem Frs.mod (h : Frs w base v L) (hm : Mod M w w') (h1 : ∀ k ∈ blks v, k ∉ M) (h2 : ∀ x ∈ L, ∀ k ∈ blks x.v, k ∉ M) : Frs w' base v L :=
  ⟨h.ow.mod hm h1, h.fam.mod hm (fun p hp k hk => by
    obtain ⟨x, hx, rfl⟩ := List.mem_map.1 hp
    exact h2 x hx k hk), h.nw⟩
theorem Frs.ext (h : Frs w base v L) (hm : Mod [] w w') : Frs w' base v L := h.mod hm (by simp) (by simp)
theorem Frs.ob (h : Frs w base v L) {x : Fi} (hx : x ∈ L) : Ob w x.v x.f.l ∧ ∀ k ∈ blks x.v, base ≤ k := h.fam.ob _ (List.mem_map.2 ⟨x, hx, rfl⟩)
theorem Frs.lt (h : Frs w base v L) : ∀ x ∈ L, ∀ k ∈ blks x.v, k < w.heap.size := fun x hx => Ow.lt (h.ob hx).1
/-- what is turned holds no bytes and no frames -/
theorem Frs.at {g : Nat} {t : TypeId} {cs : List Value} (h : Frs w base v L) (hm : Mod [g] w w') (hb : Blk w g t cs) (h1 : 5 ≠ t) (h2 : 97 ≠ t) : Frs w' base v L :=
  h.mod hm (fun k hk hg => h.ow.ne hb h2 (by have e : k = g := (by simpa using hg); exact e ▸ hk)) (fun x hx k hk hg => Ow.ne (h.ob hx).1 hb h1 (by have e : k = g := (by simpa using hg); exact e ▸ hk))
theorem Fam.snoc (h : Fam w base A) (hb : base ≤ B) (hA : ∀ p ∈ A, ∀ k ∈ blks p.1, k < B) (ho : Ob w u l) (hn : ∀ k ∈ blks u, B ≤ k) : Fam w base (A ++ [(u, l)]) := by
  refine ⟨fun p hp => ?_, ?_⟩
  · rcases List.mem_append.1 hp with hp | hp
    · exact h.ob p hp
    · rw [List.mem_singleton.1 hp]; exact ⟨ho, fun b hb2 => Nat.le_trans hb (hn b hb2)⟩
  · rw [List.pairwise_append]
    refine ⟨h.dj, List.pairwise_singleton _ _, fun p hp q hq b hb1 hb2 => ?_⟩
    rw [List.mem_singleton.1 hq] at hb2
    have := hA p hp b hb1
    have := hn b hb2
    omega
/-- what an append onto a list of frames turns holds no bytes -/
theorem Fam.onFr {n : Nat} {xs : List Value} (h : Fam w base A) (hv : Ow w 97 3 v n xs) (hm : Mod (blks v) w w') : Fam w' base A :=
  h.mod hm fun p hp b hb1 hb2 => by
    rcases Ow.blk hv with ⟨rfl, _, _⟩ | ⟨g, cap, rest, rfl, hB, _⟩
    · simp [blks] at hb2
    · have e : b = g := by simpa [blks] using hb2
      exact Ow.ne (h.ob p hp).1 hB (by decide) (e ▸ hb1)
/-- one more frame, its body handed over in new memory -/
theorem Frs.snoc (h : Frs w base v L) (x : Fi) (hb : base ≤ B) (hB : B ≤ w.heap.size) (hA : ∀ y ∈ L, ∀ k ∈ blks y.v, k < B) (ho : Ob w x.v x.f.l) (hn : ∀ k ∈ blks x.v, B ≤ k)
    (hO : Ow w' 97 3 v' (L.length + 1) (L.flatMap Fi.cells ++ x.cells)) (hm : Mod (blks v) w w') (hv : ∀ k ∈ blks v', k ∈ blks v ∨ w.heap.size ≤ k) : Frs w' base v' (L ++ [x]) := by
  refine ⟨by simpa using hO, ?_, fun k hk => (hv k hk).elim (h.nw k) fun h1 => by omega⟩
  have hf : Fam w base (L.map Fi.kv ++ [(x.v, x.f.l)]) := h.fam.snoc hb (fun p hp => by
    obtain ⟨y, hy, rfl⟩ := List.mem_map.1 hp
    exact hA y hy) ho hn
  have := hf.onFr h.ow hm
  simpa [Fi.kv] using this
end
/-! what a list of frames is apart from -/
theorem ow_cells {w : World} {e : TypeId} {sz n : Nat} {v : Value} {xs : List Value} (h : Ow w e sz v n xs) : ∀ k ∈ blks v, ∃ o : Obj, w.heap[k]? = some o ∧ o.isCells = true := by
  rcases Ow.blk h with ⟨rfl, _, _⟩ | ⟨g, cap, rest, rfl, hB, _⟩
  · simp [blks]
  · intro k hk
    rw [show k = g by simpa [blks] using hk]
    exact hB.isCells
theorem ow_far {w : World} {e e' : TypeId} {sz n sz' n' : Nat} {v v' : Value} {xs xs' : List Value} (h : Ow w e sz v n xs) (h' : Ow w e' sz' v' n' xs') (hne : e ≠ e') : ∀ k ∈ blks v, k ∉ blks v' := fun k hk hk' => by
  rcases Ow.blk h' with ⟨rfl, _, _⟩ | ⟨g, cap, rest, rfl, hB, _⟩
  · simp [blks] at hk'
  · have e1 : k = g := by simpa [blks] using hk'
    exact Ow.ne h hB hne (e1 ▸ hk)
theorem Ech.apart {w : World} {bs bb be : Nat} {vb : Value} {b : List UInt8} {e s : Nat} (h : Ech w bs bb be vb b e s) {sz n : Nat} {v : Value} {xs : List Value} (hv : Ow w 97 sz v n xs) : ∀ k ∈ EchL bs bb be vb, k ∉ blks v := fun k hk => by
  simp only [EchL, List.mem_cons] at hk
  rcases hk with rfl | rfl | rfl | hk
  · exact hv.ne h.cs (by decide)
  · exact hv.ne h.cb (by decide)
  · exact hv.ne h.ce (by decide)
  · exact ow_far h.cv hv (by decide) k hk
theorem Ech.mod {w w' : World} {bs bb be : Nat} {vb : Value} {b : List UInt8} {e s : Nat} {M : List Nat} (h : Ech w bs bb be vb b e s) (hm : Mod M w w') (hM : ∀ k ∈ EchL bs bb be vb, k ∉ M) : Ech w' bs bb be vb b e s :=
  ⟨h.cs.mod hm (hM bs (by simp [EchL])), h.ce.mod hm (hM be (by simp [EchL])), h.cb.mod hm (hM bb (by simp [EchL])), Ow.mod h.cv hm (fun k hk => hM k (by simp [EchL, hk]))⟩
theorem Ech.cells {w : World} {bs bb be : Nat} {vb : Value} {b : List UInt8} {e s : Nat} (h : Ech w bs bb be vb b e s) : ∀ k ∈ EchL bs bb be vb, ∃ o : Obj, w.heap[k]? = some o ∧ o.isCells = true := fun k hk => by
  simp only [EchL, List.mem_cons] at hk
  rcases hk with rfl | rfl | rfl | hk
  · exact h.cs.isCells
  · exact h.cb.isCells
  · exact h.ce.isCells
  · exact ow_cells h.cv k hk
end Go.Proofs.YtfepggdljhiemaaGreatDoor

/-! Frames: Scan. -/
namespace Go.Proofs.YtfepggdljhiemaaGreatDoor
open Go.RowKit Gw
attribute [local go_sem] Oper.semAt_some

theorem notin_of {w : World} {M : List Nat} {B g : Nat} {t : TypeId} {cs : List Value} (hM : ∀ g ∈ M, B ≤ g ∧ ∃ o : Obj, w.heap[g]? = some o ∧ o.isCells = false) (h : Blk w g t cs) : g ∉ M := fun hg => by
  obtain ⟨_, o, ho, hc⟩ := hM g hg
  rw [show w.heap[g]? = _ from h] at ho
  cases ho
  cases hc
theorem notin_ow {w : World} {M : List Nat} {B : Nat} {e : TypeId} {sz n : Nat} {v : Value} {xs : List Value} (hM : ∀ g ∈ M, B ≤ g ∧ ∃ o : Obj, w.heap[g]? = some o ∧ o.isCells = false) (h : Ow w e sz v n xs) : ∀ k ∈ blks v, k ∉ M := by
  rcases Ow.blk h with ⟨rfl, _, _⟩ | ⟨g, cap, rest, rfl, hB, _⟩
  · simp [blks]
  · intro k hk
    rw [show k = g by simpa [blks] using hk]
    exact notin_of hM hB
theorem Frs.ab {w w' : World} {M : List Nat} {B base : Nat} {v : Value} {L : List Fi} (h : Frs w base v L) (hM : ∀ g ∈ M, B ≤ g ∧ ∃ o : Obj, w.heap[g]? = some o ∧ o.isCells = false) (hm : Mod M w w') : Frs w' base v L :=
  h.mod hm (notin_ow hM h.ow) (fun x hx => notin_ow hM (h.ob hx).1)
theorem notloop {w : World} {l g : Nat} {t : TypeId} {cs : List Value} (hl : ∃ r, w.heap[l]? = some (.loop r)) (h : Blk w g t cs) : g ≠ l := by
  rintro rfl
  obtain ⟨r, hr⟩ := hl
  rw [show w.heap[g]? = _ from h] at hr
  cases hr
theorem notloop_ow {w : World} {l : Nat} {e : TypeId} {sz n : Nat} {v : Value} {xs : List Value} (hl : ∃ r, w.heap[l]? = some (.loop r)) (h : Ow w e sz v n xs) : ∀ k ∈ blks v, k ∉ [l] := by
  rcases Ow.blk h with ⟨rfl, _, _⟩ | ⟨g, cap, rest, rfl, hB, _⟩
  · simp [blks]
  · intro k hk
    rw [show k = g by simpa [blks] using hk]
    simpa using notloop hl hB
theorem zero_frs : (Tryz.prog.info? 40).map (·.zero) = some (some (.slice none 0 0)) := by kernel_rfl
theorem zero_int : (Tryz.prog.info? 3).map (·.zero) = some (some (.int .i64 0)) := by kernel_rfl
def ScanP (b : List UInt8) (e s : Nat) (w : World) (en : Ending) (w' : World) : Prop :=
  ∃ v L, en = .returned (.tuple #[v, .int .i64 (endF (rowS b e s 0) 0 : Nat)]) ∧ L.map Fi.d = rowS b e s 0 ∧ Frs w' w.heap.size v L ∧ Mod [] w w'
def ScanI (w : World) (bo bn bs bb be : Nat) (vb : Value) (b : List UInt8) (e s : Nat) (pre : List Fi) (W : World) : Prop :=
  Ech W bs bb be vb b e s ∧ ∃ v, Blk W bo 40 [v] ∧ Blk W bn 3 [.int .i64 (endF (pre.map Fi.d) 0 : Nat)] ∧ Frs W w.heap.size v pre ∧ Mod [] w W
set_option maxRecDepth 1000000 in
set_option maxHeartbeats 8000000 in
theorem scan_any (b : List UInt8) (e s : Nat) (v : Value) (w : World) (hb : Bs w v b) (hl : b.length ≤ 1099511627776) (hs : s < 18446744073709551616) (he : e < 18446744073709551616) (hT : TabC w) :
    Calls Tryz.prog 43 #[v, .int .u64 (e : Nat), .int .u64 (s : Nat)] w (ScanP b e s w) := by
  obtain ⟨ao, cap, rfl, hc1, hc2⟩ := hb.form
  refine (callsIn_wide (n := 9)).1 ?_
  refine callsIn_of_wp_marks Tryz.func43 rfl trivial ?_ rfl
  simp only [Tryz.ntmps43, List.size_toArray, List.length_cons, List.length_nil, Nat.reduceAdd, Nat.reduceSub, Array.replicate_succ, Array.replicate_zero, List.push_toArray, List.append_toArray, List.nil_append, List.cons_append]
  have EA := fun w h => each_any b e s (.slice ao b.length cap) w h (by omega)
  unfold EachP at EA
  repeat (first
                | (with_reducible refine si_alloc ?_)
                | go_values
                | gi_guarded
                | gi_step
                | gi_upon
                | gi_back
                | (simp only [Int.not_lt, Int.not_le] at *; go_simp))
  refine StopIn.go wd_wide rfl (fun _ => by intro h; cases h) fun K hK => ?_
  refine wp_alloc zero_frs ?_
  intro bo w1 ho1 ho2 hm1 hB1
  simp only [put_some, List.set_cons_succ, List.set_cons_zero]
  refine hK _ _ ?_
  clear hK K
  repeat (first
                | (with_reducible refine si_alloc ?_)
                | go_values
                | gi_guarded
                | gi_step
                | gi_upon
                | gi_back
                | (simp only [Int.not_lt, Int.not_le] at *; go_simp))
  refine StopIn.go wd_wide rfl (fun _ => by intro h; cases h) fun K hK => ?_
  refine wp_alloc zero_int ?_
  intro bn w2 hn1 hn2 hm2 hB2
  simp only [put_some, List.set_cons_succ, List.set_cons_zero]
  refine hK _ _ ?_
  clear hK K
  have hB2' : Blk w2 bn 3 [.int .i64 0] := hB2
  repeat (first
                | (with_reducible refine si_store ?_)
                | go_values
                | gi_guarded
                | gi_step
                | gi_upon
                | gi_back
                | (simp only [Int.not_lt, Int.not_le] at *; go_simp))
  refine StopIn.go wd_wide rfl (fun _ => by intro h; cases h) fun K hK => ?_
  refine wp_store1 (by kernel_rfl) (by rfl) (u := .int .i64 0) (by rfl) ⟨rfl, rfl⟩ hB2' (by simp) ?_
  intro w3 hm3 hB3
  refine hK _ _ ?_
  clear hK K
  have hm13 : Mod [] w w3 := (hm1.ext hm2).fresh hm3 (by have := hm1.size; simp; omega)
  have hb3 := hb.ext hm13
  have hO3 : Blk w3 bo 40 [.slice none 0 0] := (Blk.ext hB1 hm2).mod hm3 (by simp; omega)
  have hN3 : Blk w3 bn 3 [.int .i64 0] := hB3
  repeat (first
                | ((first | ((with_reducible refine And.intro ?ga (And.intro ?gb ?_)); (case ga => exact trivial); (case gb => exact (fun hh => nomatch hh))) | ((with_reducible refine And.intro ?ga ?_); (case ga => exact trivial))); gi_at_call 101; refine ((wd_wide).calls (EA _ hb3)).mono ?_; rintro e w4 ⟨bs, bb, be, vb, rfl, hE4, hnE, hm4⟩; dsimp only)
                | go_values
                | gi_guarded
                | gi_step
                | gi_upon
                | gi_back
                | (simp only [Int.not_lt, Int.not_le] at *; go_simp))
  have hT4 := hT.ext (hm13.ext hm4)
  have hw04 := (hm13.ext hm4).size
  have h0 : ScanI w bo bn bs bb be vb b e s [] w4 := ⟨hE4, .slice none 0 0, hO3.ext hm4, hN3.ext hm4, Frs.nil _ _, hm13.ext hm4⟩
  have hLlt : ∀ k ∈ 0 :: EchL bs bb be vb, k < w4.heap.size := fun k hk => (List.mem_cons.1 hk).elim (fun e => e ▸ hT4.1) (hE4.lt k)
  have hLo : ∀ k ∈ 0 :: EchL bs bb be vb, k ≠ bo ∧ k ≠ bn ∧ k < w4.heap.size ∧ (k = 0 ∨ w3.heap.size ≤ k) := fun k hk => by
    have h9 := hT.1
    have := hm1.size
    have := hO3.lt
    have := hN3.lt
    rcases List.mem_cons.1 hk with rfl | hk
    · exact ⟨by omega, by omega, hT4.1, .inl rfl⟩
    · have := hnE k hk
      exact ⟨by omega, by omega, hE4.lt k hk, .inr this⟩
  refine wpIn_rangeFuncP rfl (by decide) (gf := 148) rfl trivial (ent Tryz.func148 (by kernel_rfl) rfl)
    (each1_seq 8 w4 bs bb be vb b e s hE4 hs he (by omega) hT4) (fun h k => h.trans k) (fun B W l o' h1 h2 => KpL.of_mod (Mod.putObj W l o') (fun k hk => by
      have e : k = l := by simpa using hk
      subst e
      exact ⟨fun hh => by have := hLlt k hh; omega, .inl h2⟩)) (Mod.refl _ _) (fun _ => rfl)
    (ScanI w bo bn bs bb be vb b e s) (fun _ _ _ => False)
    (fun pre W W' M hI hM hm => by
      obtain ⟨h0, v, h1, h2, h3, h4⟩ := hI
      exact ⟨h0.mod hm (fun k hk hh => by
        obtain ⟨o, ho, hc⟩ := h0.cells k hk
        obtain ⟨_, o', ho', hc'⟩ := hM k hh
        rw [ho] at ho'
        cases ho'
        rw [hc] at hc'
        cases hc'), v, h1.mod hm (notin_of hM h1), h2.mod hm (notin_of hM h2), h3.ab hM hm, h4.fresh hm (fun g hg => by have := (hM g hg).1; have := (hm13.ext hm4).size; omega)⟩)
    (fun _ _ _ _ _ h _ _ => h) h0 ?round ?done ?stop
  case round =>
    rintro l pre x W0 W hl0 hrec ⟨hEc, vo, hbo, hbn, hfr, hmw⟩ hmW ⟨hox, hnx, hpf⟩ hlen
    obtain ⟨p, vx, f⟩ := x
    dsimp only at hox hnx
    obtain ⟨aox, capx, rfl, hcx1, hcx2⟩ := hox.sl.form
    simp only [Fi.enc]
    repeat (first
                  | (with_reducible refine si_alloc ?_)
                  | go_values
                  | gi_guarded
                  | gi_step
                  | gi_upon
                  | gi_back
                  | (simp only [Int.not_lt, Int.not_le] at *; go_simp))
    refine StopIn.go (wd_rnd l) rfl (fun _ => by intro h; cases h) fun K hK => ?_
    refine wp_alloc zero_frame ?_
    intro g w5 hg1 hg2 hm5 hB5
    simp only [put_some, List.set_cons_succ, List.set_cons_zero]
    refine hK _ _ ?_
    clear hK K
    repeat (first
                  | (with_reducible refine si_store ?_)
                  | go_values
                  | gi_guarded
                  | gi_step
                  | gi_upon
                  | gi_back
                  | (simp only [Int.not_lt, Int.not_le] at *; go_simp))
    refine StopIn.go (wd_rnd l) rfl (fun _ => by intro h; cases h) fun K hK => ?_
    refine wp_store (u := .agg #[.int .u64 f.e, .int .u64 f.s, .slice aox f.l.length capx]) (by rfl) (by rfl) (by kernel_rfl) hB5 (by simp [Value.cells]) (by simp [Value.cells, Value.oneCell']) ?_
    intro w6 hm6 hB6
    refine hK _ _ ?_
    clear hK K
    have hG6 : Blk w6 g 97 [.int .u64 f.e, .int .u64 f.s, .slice aox f.l.length capx] := hB6
    repeat (first
                  | go_values
                  | gi_guarded
                  | gi_step
                  | gi_upon
                  | gi_back
                  | (simp only [Int.not_lt, Int.not_le] at *; go_simp))
    have hpl := rowS_place (b := b) (e := e) b.length s 0 (by omega) (pre.map Fi.d) (p, f) (by simpa [Fi.d] using hpf)
    dsimp only at hpl
    obtain ⟨hp1, hp2, hp3⟩ := hpl
    have hlf := hp3.l
    have hendE : endF ((pre ++ [(⟨p, .slice aox f.l.length capx, f⟩ : Fi)]).map Fi.d) 0 = p + (22 + f.l.length) := by rw [List.map_append, List.map_singleton, endF_snoc, hp1]; rfl
    have HEE := Lib.hid hendE
    clear hp1 hendE
    have hplen := hpf.length_le
    have hrl := rowS_len (b := b) (e := e) b.length s 0 (by omega)
    have hm16 : Mod [] W w6 := hm5.fresh hm6 (by simpa using hg1)
    refine ⟨hm16, fun W3 hmL => ?_⟩
    have h03 : Mod [l] W0 W3 := ((hmW.ext hm16).weak (by simp)).trans hmL
    have hlW : l < W0.heap.size := by obtain ⟨r, hr⟩ := hrec; exact (Array.getElem?_eq_some_iff.1 hr).1
    have hbo3 := hbo.mod h03 (by simpa using notloop hrec hbo)
    have hbn3 := hbn.mod h03 (by simpa using notloop hrec hbn)
    have hfr3 := hfr.mod h03 (notloop_ow hrec hfr.ow) (fun x hx => notloop_ow hrec (hfr.ob hx).1)
    have hox3 : Ob W3 (.slice aox f.l.length capx) f.l := (Ob.ext hox hm16).mod hmL (fun k hk hh => by have := hnx k hk; have e : k = l := (by simpa using hh); omega)
    have hG3 := hG6.mod hmL (by have := hmW.size; simp; omega)
    have hflt := hfr.lt
    obtain ⟨aoo, capo, rfl, hco1, hco2⟩ := hfr.ow.sl.form
    have y1 : (f.l.length : Int) ≤ 32 := by omega
    have y2 : (p : Int) + (22 + f.l.length) ≤ 140737488355328 := by omega
    have SZ := fun w => size_any (f.l.length : Int) w
    rw [show sizeF (f.l.length : Int) = 22 + f.l.length from if_neg (by omega)] at SZ
    have hW0W := hmW.size
    have hW3 := hmL.size
    have hw6 := hm16.size
    apply wpIn_block
    refine wpIn_region_T [⟨0, true, []⟩, ⟨1, true, []⟩, ⟨4, true, []⟩, ⟨5, true, []⟩, ⟨6, true, []⟩, ⟨7, true, []⟩, ⟨2, false, [0, 6, 7]⟩, ⟨3, false, [6, 7]⟩, ⟨8, false, []⟩, ⟨9, true, []⟩, ⟨10, false, [9]⟩, ⟨11, false, []⟩] (by kernel_rfl) (by kernel_rfl) (by kernel_rfl) (fun ⟨_, _, h⟩ => h) ?_
    have hm4 : Mod [] W3 W3.drew := Mod.drew [] _
    obtain ⟨x4, hx4⟩ : ∃ x, x = W3.drew := ⟨_, rfl⟩
    rw [← hx4] at hm4 ⊢
    clear hx4
    have hbo4 := hbo3.ext hm4
    have hbn4 := hbn3.ext hm4
    have hfr4 := hfr3.ext hm4
    have hox4 := hox3.ext hm4
    have hG4 := hG3.ext hm4
    have o0 := hbo4.cell' (i := 0) rfl
    have z0 := hG4.cell' (i := 0) rfl
    have z1 := hG4.cell' (i := 1) rfl
    have z2 := hG4.cell' (i := 2) rfl
    iterate 6 (refine wpT_n rfl rfl (fun K hK => ?_); go_wp2_with fail)
    refine wpT_e rfl rfl (fun K hK => ?_)
    refine wp_bslice stFr [.agg #[.int .u64 f.e, .int .u64 f.s, .slice aox f.l.length capx]] rfl (by decide) (by rfl) (by simp [Value.cells]) ?_
    intro qx x5 hq1 hq2 hm5' hB5'
    simp only [put_some, List.set_cons_succ, List.set_cons_zero]
    refine hK _ _ ⟨agains_cons rfl (again_load rfl rfl (hm5'.block bo hbo4.lt (by simp)) hbo4.kinds) (agains_cons rfl (again_load rfl rfl (hm5'.block g hG4.lt (by simp)) hG4.kinds) (agains_cons rfl (again_const (v := .int .i64 f.l.length) (fun _ => by simp [execOp, resolve, invoke, builtin, go_sem, Act.eval])) agains_nil)), ?_⟩
    clear hK K
    have hS5 : Sl x5 3 (.slice (some ⟨qx, 0, none⟩) 1 1) 1 (Fi.cells ⟨p, .slice aox f.l.length capx, f⟩) := (Ow.of_blk (rest := []) hB5' (Nat.le_refl _) (by omega) rfl rfl : Ow x5 97 3 (.slice (some ⟨qx, 0, none⟩) 1 1) 1 (Fi.cells ⟨p, .slice aox f.l.length capx, f⟩)).sl
    have hfr5 := hfr4.ext hm5'
    have hbo5 := hbo4.ext hm5'
    have hbn5 := hbn4.ext hm5'
    have hG5 := hG4.ext hm5'
    have hox5 := hox4.ext hm5'
    have hbv : ∀ k ∈ blks (.slice aoo pre.length capo), k < W0.heap.size := hfr.ow.lt
    have hgv : g ∉ blks (.slice aoo pre.length capo) := fun hh => by have := hbv g hh; omega
    rw [List.length_map] at hplen
    have hple : pre.length + 1 ≤ (rowS b e s 0).length := by simpa using hplen
    refine wpT_e rfl rfl (fun K hK => ?_)
    refine wp_append_ow stFr (by rfl) (by rfl) hfr5.ow hS5 (by simp [Fi.cells, Value.oneCell']) (by omega) (by omega) ?_
    intro v6 x6 hv6 hm6' hb6
    simp only [put_some, List.set_cons_succ, List.set_cons_zero]
    refine hK _ _ ⟨agains_cons rfl (again_load rfl rfl (hm6'.block g hG5.lt hgv) hG5.kinds) (agains_cons rfl (again_const (v := .int .i64 f.l.length) (fun _ => by simp [execOp, resolve, invoke, builtin, go_sem, Act.eval])) agains_nil), ?_⟩
    clear hK K
    obtain ⟨ao6, cap6, rfl, _, _⟩ := hv6.sl.form
    have hbo6 := hbo5.mod hm6' (hfr5.ow.ne hbo5 (by decide))
    have hbn6 := hbn5.mod hm6' (hfr5.ow.ne hbn5 (by decide))
    have hfr6 := hfr5.snoc (B := W0.heap.size) ⟨p, .slice aox f.l.length capx, f⟩ hmw.size (by have := hm4.size; have := hm5'.size; omega) hflt hox5 hnx hv6 hm6' hb6
    refine wpT_call rfl rfl (fun K hK => ?_)
    go_wp2_with (go_at_call 86; (with_reducible refine (SZ _).mono ?_); rintro e x7 ⟨rfl, rfl⟩)
    refine wpT_n rfl rfl (fun K hK => ?_)
    go_wp2_with fail
    refine wpT_e rfl rfl (fun K hK => ?_)
    refine wp_store1 (by kernel_rfl) (by rfl) (u := .slice ao6 (pre.length + 1) cap6) (by rfl) ⟨rfl, rfl⟩ hbo6 (by simp) ?_
    intro x8 hm8 hB8
    refine hK _ _ ⟨agains_cons rfl (again_const (fun _ => rfl)) agains_nil, ?_⟩
    clear hK K
    have hfr8 := hfr6.at hm8 hbo6 (by decide) (by decide)
    have hbn8 := hbn6.mod hm8 (by simpa using hbn6.ne hbo6 (by decide))
    refine wpT_e0 rfl rfl (fun K hK => ?_)
    refine wp_store1 (by kernel_rfl) (by rfl) (u := .int .i64 ((p : Int) + (22 + (f.l.length : Nat)))) (by rfl) ⟨rfl, rfl⟩ hbn8 (by simp) ?_
    intro x9 hm9 hB9
    refine hK _ _ ?_
    clear hK K
    refine wpT_nil ?_
    have hL0 : ∀ k ∈ 0 :: EchL bs bb be vb, k ≠ bo ∧ k ≠ bn ∧ k ∉ blks (.slice aoo pre.length capo) ∧ k ≠ l := fun k hk => by
      obtain ⟨k1, k2, k3, k4⟩ := hLo k hk
      refine ⟨k1, k2, fun hh => ?_, by omega⟩
      rcases List.mem_cons.1 hk with rfl | hk
      · have := hfr.nw 0 hh
        have := hT.1
        omega
      · exact hEc.apart hfr.ow k hk hh
    have hMt : Mod (bo :: bn :: blks (.slice aoo pre.length capo)) W3 x9 :=
      (((hm4.ext hm5').weak (by simp)).then hm6' (fun g hg => .inl (by simp [hg]))).then ((hm8.weak (by simp) : Mod [bo, bn] x6 x8).trans (hm9.weak (by simp))) (fun g hg => .inl (by simp at hg; rcases hg with rfl | rfl <;> simp))
    have hE9 : Ech x9 bs bb be vb b e s := (hEc.mod h03 (fun k hk => by simpa using (hL0 k (by simp [hk])).2.2.2)).mod hMt (fun k hk hh => by
      obtain ⟨k1, k2, k3, k4⟩ := hL0 k (by simp [hk])
      rcases List.mem_cons.1 hh with h1 | h1
      · exact k1 h1
      · rcases List.mem_cons.1 h1 with h1 | h1
        · exact k2 h1
        · exact k3 h1)
    have hMW9 : Mod (l :: bo :: bn :: blks (.slice aoo pre.length capo)) W x9 := ((hm16.weak (by simp)).then hmL (fun g hg => .inl (by simp at hg; simp [hg]))).then hMt (fun g hg => .inl (List.mem_cons_of_mem _ hg))
    have hin : ∀ k ∈ bo :: bn :: blks (.slice aoo pre.length capo), w.heap.size ≤ k ∧ k < W0.heap.size := fun k hk => by
      have := hm1.size
      rcases List.mem_cons.1 hk with rfl | hk
      · exact ⟨by omega, hbo.lt⟩
      · rcases List.mem_cons.1 hk with rfl | hk
        · exact ⟨by omega, hbn.lt⟩
        · exact ⟨hfr.nw k hk, hbv k hk⟩
    show KeepsFrom w4.heap.size W3 x9 ∧ KpL (0 :: EchL bs bb be vb) W0.heap.size W x9 ∧ ScanI w bo bn bs bb be vb b e s (pre ++ [⟨p, .slice aox f.l.length capx, f⟩]) x9
    refine ⟨KeepsFrom.of_mod hMt (fun k hk => ?_), KpL.of_mod hMW9 (fun k hk => ?_), hE9, .slice ao6 (pre.length + 1) cap6, hB8.mod hm9 (by simpa using (hbn6.ne hbo6 (by decide)).symm), ?_, ?_, (hmw.ext hmW).fresh hMW9 (fun k hk => ?_)⟩
    · rcases List.mem_cons.1 hk with rfl | hk
      · exact .inr (.inr hbo3.isCells)
      · rcases List.mem_cons.1 hk with rfl | hk
        · exact .inr (.inr hbn3.isCells)
        · exact .inr (.inr (ow_cells hfr3.ow k hk))
    · refine ⟨fun hh => ?_, .inl ?_⟩
      · obtain ⟨k1, k2, k3, k4⟩ := hL0 k hh
        rcases List.mem_cons.1 hk with h1 | hk
        · exact k4 h1
        · rcases List.mem_cons.1 hk with h1 | hk
          · exact k1 h1
          · rcases List.mem_cons.1 hk with h1 | hk
            · exact k2 h1
            · exact k3 hk
      · rcases List.mem_cons.1 hk with rfl | hk
        · exact hlW
        · exact (hin k hk).2
    · rw [HEE.out]
      have e1 : (((p + (22 + f.l.length) : Nat)) : Int) = (p : Int) + (22 + (f.l.length : Nat)) := by omega
      rw [e1]
      exact hB9
    · exact hfr8.at hm9 hbn8 (by decide) (by decide)
    · rcases List.mem_cons.1 hk with rfl | hk
      · omega
      · exact (hin k hk).1
  case done =>
    rintro D xs W hD hS ⟨_, vo, hbo, hbn, hfr, hmw⟩ hK
    gi_wp2
    refine wpIn_wide.2 ?_
    go_hide hQ
    refine wp_region_T [⟨0, true, []⟩, ⟨1, true, []⟩, ⟨2, true, []⟩, ⟨3, true, []⟩] (by kernel_rfl) (by kernel_rfl) ?_
    have hbo' := hbo.ext (Mod.drew [] W)
    have hbn' := hbn.ext (Mod.drew [] W)
    have hfr' := hfr.ext (Mod.drew [] W)
    have hmw' := hmw.ext (Mod.drew [] W)
    have hK' : W.drew.heap[D]? = some (.deferred (some [])) := hK
    obtain ⟨x, hx⟩ : ∃ x, x = W.drew := ⟨_, rfl⟩
    rw [← hx] at hbo' hbn' hfr' hmw' hK' ⊢
    obtain ⟨aoo, capo, rfl, hco1, hco2⟩ := hfr.ow.sl.form
    have HQ := Lib.hid hQ
    have HS := Lib.hid hS
    clear hQ hx hbo hbn hfr hmw hK hS
    have o0 := hbo'.cell' (i := 0) rfl
    have o1 := hbn'.cell' (i := 0) rfl
    iterate 4 (refine wpT_n rfl rfl (fun K hK => ?_); repeat (first | go_values | go_guarded | go_step | go_upon))
    refine wpT_nil ?_
    have hQ := HQ.out
    subst hQ
    gi_wp2
    refine ⟨by simp, .inl ⟨_, _, rfl, run_takeDeferred hK', ?_⟩⟩
    have hMD : ∀ g ∈ [D], w4.heap.size ≤ g ∧ ∃ o : Obj, x.heap[g]? = some o ∧ o.isCells = false := fun g hg => by
      have e : g = D := by simpa using hg
      subst e
      exact ⟨hD, _, hK', rfl⟩
    have hmD := Mod.putObj x D (.deferred none)
    refine ⟨.tuple #[.slice aoo xs.length capo, .int .i64 (endF (xs.map Fi.d) 0 : Nat)], by simp [results, Tryz.results43, go_sem], _, xs, ?_, HS.out, hfr'.ab hMD hmD, hmw'.fresh hmD (fun g hg => by have := (hMD g hg).1; omega)⟩
    rw [HS.out]
  case stop =>
    intro D c pre W _ _ h _
    exact h.elim
end Go.Proofs.YtfepggdljhiemaaGreatDoor

/-! Frames: the reference's Put. -/
namespace Go.Proofs.YtfepggdljhiemaaGreatDoor
open Go.RowKit Gw

theorem Ob.onx {w : World} {v : Value} {l : List UInt8} {n : Nat} (h : Ob w v l) (hn : l.length = n) : Ow w 5 1 v n (bv l) := by
  subst hn
  exact h
theorem Bs.onx {w : World} {v : Value} {l : List UInt8} {n : Nat} (h : Bs w v l) (hn : l.length = n) : Sl w 1 v n (bv l) := by
  subst hn
  exact h
theorem Ob.of_onx {w : World} {v : Value} {l : List UInt8} {n : Nat} (h : Ow w 5 1 v n (bv l)) (hn : l.length = n) : Ob w v l := by
  subst hn
  exact h
set_option maxRecDepth 1000000 in
set_option maxHeartbeats 4000000 in
theorem rfput_any (e s : Nat) (l : List UInt8) (v : Value) (w : World) (hv : Bs w v l) (he : e < 18446744073709551616) (hs : s < 18446744073709551616) :
    Calls Tryz.prog 172 #[.agg #[.int .u64 (e : Nat), .int .u64 (s : Nat), v]] w (PutF e s l w) := by
  obtain ⟨ao, cap, rfl, hc1, hc2⟩ := hv.form
  unfold PutF
  by_cases h32 : 32 < l.length
  · rw [if_pos h32, if_pos h32]
    have y1 : (32 : Int) < l.length := by omega
    go_enter Tryz.func172, Tryz.ntmps172
    go_wp2_with (with_reducible refine st_box ?_)
    refine StopOp.go rfl fun K hK => ?_
    refine wp_box (v := .agg #[.int .u64 (e : Nat), .int .u64 (s : Nat), .slice ao l.length cap]) (by rfl) ?_
    intro g w1 hg1 hg2 hm1 hB1
    simp only [put_some, List.set_cons_succ, List.set_cons_zero]
    refine hK _ _ ?_
    clear hK K
    have hB : Blk w1 g 97 [.int .u64 (e : Nat), .int .u64 (s : Nat), .slice ao l.length cap] := hB1
    have b2 := hB.cell' (i := 2) rfl
    go_wp2_with fail
    go_ret2
    exact ⟨_, rfl, Ob.nil _, by simp [New, blks], hm1⟩
  · rw [if_neg h32, if_neg h32]
    have y1 : (l.length : Int) ≤ 32 := by omega
    have z1 : IntKind.u64.wrap (l.length : Int) = l.length := IntWalk.u64_in _ (by omega)
    have hF : frame e s l = frB e s l ++ low (crcS (frB e s l)) 4 := rfl
    have hcl := crcS_lt (frB e s l)
    have hBl : (frB e s l).length = 18 + l.length := by unfold frB; simp only [List.length_append, low_length]; try omega
    obtain ⟨B, hBb⟩ : ∃ B, B = frB e s l := ⟨_, rfl⟩
    rw [← hBb] at hF hcl hBl
    unfold frB at hBb
    have HBB := Lib.hid hBb
    have HBL := Lib.hid hBl
    have HF := Lib.hid hF
    obtain ⟨FR, hFR⟩ : ∃ x, x = frame e s l := ⟨_, rfl⟩
    rw [← hFR] at HF ⊢
    clear hBb hF hFR hBl
    obtain ⟨cs, hcs⟩ : ∃ x, x = crcS B := ⟨_, rfl⟩
    rw [← hcs] at hcl HF
    have z2 : IntKind.u64.wrap (cs : Int) = cs := IntWalk.u64_in _ (by omega)
    have y2 : (cs : Int) ≤ 4294967295 := by omega
    have y3 : (0 : Int) ≤ cs := by omega
    have RS := fun w v h => rsum_any B v w h
    rw [← hcs] at RS
    clear hcs
    go_enter Tryz.func172, Tryz.ntmps172
    go_wp2_with (with_reducible refine st_box ?_)
    refine StopOp.go rfl fun K hK => ?_
    refine wp_box (v := .agg #[.int .u64 (e : Nat), .int .u64 (s : Nat), .slice ao l.length cap]) (by rfl) ?_
    intro g w1 hg1 hg2 hm1 hB1
    simp only [put_some, List.set_cons_succ, List.set_cons_zero]
    refine hK _ _ ?_
    clear hK K
    have hB : Blk w1 g 97 [.int .u64 (e : Nat), .int .u64 (s : Nat), .slice ao l.length cap] := hB1
    have b0 := hB.cell' (i := 0) rfl
    have b1 := hB.cell' (i := 1) rfl
    have b2 := hB.cell' (i := 2) rfl
    clear hB1
    go_wp2_with (first
                  | (with_reducible refine st_append ?_)
                  | (go_at_call 191; refine (refNumber_any l.length 2 _ (by omega) (by omega)).mono ?_; rintro e x5 ⟨y5, rfl, hy5, hny5, hmy5⟩; obtain ⟨ay5, cy5, rfl, _, _⟩ := Ob.nx hy5 (low_length _ _)))
    have hyx5 : Sl x5 1 _ 2 (bv (low l.length 2)) := Bs.onx hy5.bs (low_length _ _)
    refine StopOp.go rfl fun K hK => ?_
    refine wp_append_ow stB (by rfl) (by rfl) (Ow.nil x5 5 1) hyx5 (bv_one _) (by omega) (by omega) ?_
    intro v5 w5 hp5 hm5 hb5
    simp only [put_some, List.set_cons_succ, List.set_cons_zero]
    refine hK _ _ ?_
    clear hK K
    rw [List.nil_append, Nat.zero_add] at hp5
    have hM5 : Mod [] w w5 := (hm1.ext hmy5).fresh hm5 (by simp [blks])
    have hN5 : New w v5 := fun k hk => (hb5 k hk).elim (by simp [blks]) fun h => by have := hm1.size; have := hmy5.size; omega
    have ho5 : Ob w5 v5 (low l.length 2) := Ob.of_onx hp5 (low_length _ _)
    obtain ⟨ao5, cap5, rfl, _, _⟩ := Ob.nx ho5 (low_length _ _)
    have hB5 := (hB.ext hmy5).mod hm5 (by simp [blks])
    clear b0 b1 b2
    have d0 := hB5.cell' (i := 0) rfl
    have d1 := hB5.cell' (i := 1) rfl
    have d2 := hB5.cell' (i := 2) rfl
    clear hB hyx5 hy5 hny5 hmy5 hm5 hb5 hp5 hm1
    go_wp2_with (first
                  | (with_reducible refine st_append ?_)
                  | (go_at_call 191; refine (refNumber_any e 8 _ (by omega) (by omega)).mono ?_; rintro e x6 ⟨y6, rfl, hy6, hny6, hmy6⟩; obtain ⟨ay6, cy6, rfl, _, _⟩ := Ob.nx hy6 (low_length _ _)))
    have hpx6 := ho5.ext hmy6
    have hox6 : Ow x6 5 1 _ 2 (bv (low l.length 2)) := hpx6.onx (low_length _ _)
    have hyx6 : Sl x6 1 _ 8 (bv (low e 8)) := Bs.onx hy6.bs (low_length _ _)
    refine StopOp.go rfl fun K hK => ?_
    refine wp_append_ow stB (by rfl) (by rfl) hox6 hyx6 (bv_one _) (by omega) (by omega) ?_
    intro v6 w6 hp6 hm6 hb6
    simp only [put_some, List.set_cons_succ, List.set_cons_zero]
    refine hK _ _ ?_
    clear hK K
    rw [← bv_append] at hp6
    have hN6 : New w v6 := fun k hk => (hb6 k hk).elim (hN5 k) fun h => by have := hM5.size; have := hmy6.size; omega
    have hM6 : Mod [] w w6 := (hM5.ext hmy6).fresh hm6 hN5
    have ho6 : Ob w6 v6 (low l.length 2 ++ low e 8) := Ob.of_onx hp6 (by simp [low_length])
    obtain ⟨ao6, cap6, rfl, _, _⟩ := Ob.nx (n := 10) ho6 (by simp [low_length])
    have hB6 := (hB5.ext hmy6).mod hm6 (Ow.ne hpx6 (hB5.ext hmy6) (by decide))
    clear d0 d1 d2
    have f0 := hB6.cell' (i := 0) rfl
    have f1 := hB6.cell' (i := 1) rfl
    have f2 := hB6.cell' (i := 2) rfl
    clear hB5 hpx6 hox6 hyx6 hy6 hny6 hmy6 hm6 hb6 hp6 hN5 hM5 ho5
    go_wp2_with (first
                  | (with_reducible refine st_append ?_)
                  | (go_at_call 191; refine (refNumber_any s 8 _ (by omega) (by omega)).mono ?_; rintro e x7 ⟨y7, rfl, hy7, hny7, hmy7⟩; obtain ⟨ay7, cy7, rfl, _, _⟩ := Ob.nx hy7 (low_length _ _)))
    have hpx7 := ho6.ext hmy7
    have hox7 : Ow x7 5 1 _ 10 (bv (low l.length 2 ++ low e 8)) := hpx7.onx (by simp [low_length])
    have hyx7 : Sl x7 1 _ 8 (bv (low s 8)) := Bs.onx hy7.bs (low_length _ _)
    refine StopOp.go rfl fun K hK => ?_
    refine wp_append_ow stB (by rfl) (by rfl) hox7 hyx7 (bv_one _) (by omega) (by omega) ?_
    intro v7 w7 hp7 hm7 hb7
    simp only [put_some, List.set_cons_succ, List.set_cons_zero]
    refine hK _ _ ?_
    clear hK K
    rw [← bv_append] at hp7
    have hN7 : New w v7 := fun k hk => (hb7 k hk).elim (hN6 k) fun h => by have := hM6.size; have := hmy7.size; omega
    have hM7 : Mod [] w w7 := (hM6.ext hmy7).fresh hm7 hN6
    have ho7 : Ob w7 v7 (low l.length 2 ++ low e 8 ++ low s 8) := Ob.of_onx hp7 (by simp [low_length])
    obtain ⟨ao7, cap7, rfl, _, _⟩ := Ob.nx (n := 18) ho7 (by simp [low_length])
    have hB7 := (hB6.ext hmy7).mod hm7 (Ow.ne hpx7 (hB6.ext hmy7) (by decide))
    clear f0 f1 f2
    have h0 := hB7.cell' (i := 0) rfl
    have h1 := hB7.cell' (i := 1) rfl
    have h2 := hB7.cell' (i := 2) rfl
    clear hB6 hpx7 hox7 hyx7 hy7 hny7 hmy7 hm7 hb7 hp7 hN6 hM6 ho6
    go_wp2_with (with_reducible refine st_append ?_)
    have hv7 := hv.ext hM7
    have hox8 : Ow w7 5 1 _ 18 (bv (low l.length 2 ++ low e 8 ++ low s 8)) := ho7.onx (by simp [low_length])
    refine StopOp.go rfl fun K hK => ?_
    refine wp_append_ow stB (by rfl) (by rfl) hox8 hv7 (bv_one _) (by omega) (by omega) ?_
    intro v8 w8 hp8 hm8 hb8
    simp only [put_some, List.set_cons_succ, List.set_cons_zero]
    refine hK _ _ ?_
    clear hK K
    rw [← bv_append, ← HBB.out] at hp8
    have hN8 : New w v8 := fun k hk => (hb8 k hk).elim (hN7 k) fun h => by have := hM7.size; omega
    have hM8 : Mod [] w w8 := hM7.fresh hm8 hN7
    have ho8 : Ob w8 v8 B := Ob.of_onx hp8 HBL.out
    obtain ⟨ao8, cap8, rfl, _, _⟩ := Ob.nx ho8 HBL.out
    clear h0 h1 h2 hB7 hox8 hm8 hb8 hp8 hN7 hM7 ho7 hv7
    have hb8 := ho8.bs
    go_wp2_with (first
                  | (with_reducible refine st_append ?_)
                  | (go_at_call 192; refine (RS _ _ hb8).mono ?_; rintro e x9 ⟨rfl, rfl⟩)
                  | (go_at_call 191; refine (refNumber_any cs 4 _ (by omega) (by omega)).mono ?_; rintro e x9 ⟨y9, rfl, hy9, hny9, hmy9⟩; obtain ⟨ay9, cy9, rfl, _, _⟩ := Ob.nx hy9 (low_length _ _)))
    have hpx9 := ho8.ext hmy9
    have hox9 : Ow x9 5 1 _ (18 + l.length) (bv B) := hpx9.onx HBL.out
    have hyx9 : Sl x9 1 _ 4 (bv (low cs 4)) := Bs.onx hy9.bs (low_length _ _)
    refine StopOp.go rfl fun K hK => ?_
    refine wp_append_ow stB (by rfl) (by rfl) hox9 hyx9 (bv_one _) (by omega) (by omega) ?_
    intro v9 w9 hp9 hm9 hb9
    simp only [put_some, List.set_cons_succ, List.set_cons_zero]
    refine hK _ _ ?_
    clear hK K
    rw [← bv_append, ← HF.out] at hp9
    have hN9 : New w v9 := fun k hk => (hb9 k hk).elim (hN8 k) fun h => by have := hM8.size; have := hmy9.size; omega
    have hM9 : Mod [] w w9 := (hM8.ext hmy9).fresh hm9 hN8
    have hFl : FR.length = 18 + l.length + 4 := by rw [HF.out, List.length_append, HBL.out, low_length]
    have ho9 : Ob w9 v9 FR := Ob.of_onx hp9 hFl
    obtain ⟨ao9, cap9, rfl, _, _⟩ := Ob.nx ho9 hFl
    go_wp2_with fail
    go_ret2
    exact ⟨_, rfl, ho9, hN9, hM9⟩
end Go.Proofs.YtfepggdljhiemaaGreatDoor

/-! Frames: the reference's Get. -/
namespace Go.Proofs.YtfepggdljhiemaaGreatDoor
open Go.RowKit Gw

/-- b[lo:hi] of bytes -/
theorem Bs.subx {w : World} {ao : Option Addr} {n cap lo hi : Nat} {l : List UInt8} (h : Bs w (.slice ao n cap) l) (h1 : lo < hi) (h2 : hi ≤ l.length) (hc : n ≤ cap) (hn : n = l.length) : Bs w (.slice (ao.map (·.add lo)) (hi - lo) (cap - lo)) ((l.drop lo).take (hi - lo)) := by
  subst hn
  have hcm : ¬ cap = lo := by omega
  have := Sl.cut (lo := lo) (hi := hi) (m := cap) h (by omega) h2 (by omega) (by omega)
  rw [if_neg hcm] at this
  unfold Bs
  rw [List.length_take, List.length_drop, Nat.min_eq_left (by omega)]
  have hb : bv ((l.drop lo).take (hi - lo)) = ((bv l).drop lo).take (hi - lo) := by simp [bv, List.map_take, List.map_drop]
  rw [hb]
  simpa using this
theorem Bs.suby {w : World} {ao : Option Addr} {n cap lo hi : Nat} {l : List UInt8} (h : Bs w (.slice ao n cap) l) (h1 : lo ≤ hi) (h2 : hi ≤ l.length) (hc : n ≤ cap) (hn : n = l.length) (hcm : lo < cap) : Bs w (.slice (ao.map (·.add lo)) (hi - lo) (cap - lo)) ((l.drop lo).take (hi - lo)) := by
  subst hn
  have := Sl.cut (lo := lo) (hi := hi) (m := cap) h h1 h2 (by omega) (by omega)
  rw [if_neg (by omega)] at this
  unfold Bs
  rw [List.length_take, List.length_drop, Nat.min_eq_left (by omega)]
  have hb : bv ((l.drop lo).take (hi - lo)) = ((bv l).drop lo).take (hi - lo) := by simp [bv, List.map_take, List.map_drop]
  rw [hb]
  simpa using this
set_option maxRecDepth 1000000 in
set_option maxHeartbeats 16000000 in
theorem rfget_any (b : List UInt8) (v : Value) (w : World) (hb : Bs w v b) (hl : b.length ≤ 140737488355328) : Calls Tryz.prog 194 #[v] w (GetF b w) := by
  obtain ⟨aob, capb, rfl, hc1, hc2⟩ := hb.form
  by_cases h2 : b.length < 2
  · have y : (b.length : Int) < 2 := by omega
    go_enter Tryz.func194, Tryz.ntmps194
    go_wp2_with (with_reducible refine st_alloc ?_)
    refine StopOp.go rfl fun K hK => ?_
    refine wp_alloc zero_frame ?_
    intro g w1 hg1 hg2 hm1 hB1
    simp only [put_some, List.set_cons_succ, List.set_cons_zero]
    refine hK _ _ ?_
    clear hK K
    go_wp2_with (with_reducible refine st_store ?_)
    refine StopOp.go rfl fun K hK => ?_
    refine wp_store (u := .agg #[.int .u64 0, .int .u64 0, .slice none 0 0]) (by rfl) (by rfl) (by kernel_rfl) hB1 (by simp [Value.cells]) (by simp [Value.cells, Value.oneCell']) ?_
    intro w90 hm90 hB90
    refine hK _ _ ?_
    clear hK K
    have z0 := hB90.cell' (i := 0) rfl
    have z1 := hB90.cell' (i := 1) rfl
    have z2 := hB90.cell' (i := 2) rfl
    go_wp2_with fail
    exact bodyPost_ret (v := .tuple #[.agg #[.int .u64 0, .int .u64 0, .slice none 0 0], .int .i64 0, .int .i64 4]) (by simp [results, Tryz.results194, go_sem, z0, z1, z2]) rfl (gf_no (by unfold errF; rw [if_pos h2]) (by decide) rfl (hm1.fresh hm90 (by simpa using hg1)))
  have y2 : (2 : Int) ≤ b.length := by omega
  have V0 := fun w h => refValue_any (b.take 2) (.slice aob 2 capb) w h (by rw [List.length_take]; omega)
  have hb2 := hb.pref rfl (k := 2) (by omega) (by omega)
  have e0 : val (b.take 2) = nb b 0 2 := by unfold nb; rw [List.drop_zero]
  rw [e0] at V0
  have kl := nb_lt b 0 2
  have herr : errF b = if 32 < nb b 0 2 then 80 else if b.length < 22 + nb b 0 2 then 4 else if nb b (18 + nb b 0 2) 4 ≠ crcS (b.take (18 + nb b 0 2)) then 81 else 0 := by unfold errF; rw [if_neg h2]
  have hpar : parF b = ⟨nb b 2 8, nb b 10 8, (b.drop 18).take (nb b 0 2)⟩ := rfl
  have hnum : numF b = if errF b = 0 then 22 + nb b 0 2 else 0 := rfl
  obtain ⟨k, hk⟩ : ∃ k, k = nb b 0 2 := ⟨_, rfl⟩
  rw [← hk] at V0 kl herr hpar hnum
  clear hk e0
  have k1 : (k : Int) ≤ 65535 := by omega
  have k2 : (0 : Int) ≤ k := by omega
  have HERR := Lib.hid herr
  have HPAR := Lib.hid hpar
  have HNUM := Lib.hid hnum
  clear herr hpar hnum kl
  by_cases h32 : 32 < k
  · have y : (32 : Int) < k := by omega
    go_enter Tryz.func194, Tryz.ntmps194
    go_wp2_with (with_reducible refine st_alloc ?_)
    refine StopOp.go rfl fun K hK => ?_
    refine wp_alloc zero_frame ?_
    intro g w1 hg1 hg2 hm1 hB1
    simp only [put_some, List.set_cons_succ, List.set_cons_zero]
    refine hK _ _ ?_
    clear hK K
    have hb21 := hb2.ext hm1
    go_wp2_with (first
                  | (with_reducible refine st_store ?_)
                  | (go_at_call 200; refine (V0 _ hb21).mono ?_; rintro e w3 ⟨rfl, rfl⟩))
    refine StopOp.go rfl fun K hK => ?_
    refine wp_store (u := .agg #[.int .u64 0, .int .u64 0, .slice none 0 0]) (by rfl) (by rfl) (by kernel_rfl) hB1 (by simp [Value.cells]) (by simp [Value.cells, Value.oneCell']) ?_
    intro w90 hm90 hB90
    refine hK _ _ ?_
    clear hK K
    have z0 := hB90.cell' (i := 0) rfl
    have z1 := hB90.cell' (i := 1) rfl
    have z2 := hB90.cell' (i := 2) rfl
    go_wp2_with fail
    exact bodyPost_ret (v := .tuple #[.agg #[.int .u64 0, .int .u64 0, .slice none 0 0], .int .i64 0, .int .i64 80]) (by simp [results, Tryz.results194, go_sem, z0, z1, z2]) rfl (gf_no (by rw [HERR.out, if_pos h32]) (by decide) rfl (hm1.fresh hm90 (by simpa using hg1)))
  have y32 : (k : Int) ≤ 32 := by omega
  have SZ := fun w => rsize_any (k : Int) w
  rw [show sizeF (k : Int) = 22 + k from if_neg (by omega)] at SZ
  by_cases hsh : b.length < 22 + k
  · have y : (b.length : Int) < 22 + k := by omega
    go_enter Tryz.func194, Tryz.ntmps194
    go_wp2_with (with_reducible refine st_alloc ?_)
    refine StopOp.go rfl fun K hK => ?_
    refine wp_alloc zero_frame ?_
    intro g w1 hg1 hg2 hm1 hB1
    simp only [put_some, List.set_cons_succ, List.set_cons_zero]
    refine hK _ _ ?_
    clear hK K
    have hb21 := hb2.ext hm1
    go_wp2_with (first
                  | (with_reducible refine st_store ?_)
                  | (go_at_call 200; refine (V0 _ hb21).mono ?_; rintro e w3 ⟨rfl, rfl⟩)
                  | (go_at_call 201; refine (SZ _).mono ?_; rintro e w3 ⟨rfl, rfl⟩))
    refine StopOp.go rfl fun K hK => ?_
    refine wp_store (u := .agg #[.int .u64 0, .int .u64 0, .slice none 0 0]) (by rfl) (by rfl) (by kernel_rfl) hB1 (by simp [Value.cells]) (by simp [Value.cells, Value.oneCell']) ?_
    intro w90 hm90 hB90
    refine hK _ _ ?_
    clear hK K
    have z0 := hB90.cell' (i := 0) rfl
    have z1 := hB90.cell' (i := 1) rfl
    have z2 := hB90.cell' (i := 2) rfl
    go_wp2_with fail
    exact bodyPost_ret (v := .tuple #[.agg #[.int .u64 0, .int .u64 0, .slice none 0 0], .int .i64 0, .int .i64 4]) (by simp [results, Tryz.results194, go_sem, z0, z1, z2]) rfl (gf_no (by rw [HERR.out, if_neg h32, if_pos hsh]) (by decide) rfl (hm1.fresh hm90 (by simpa using hg1)))
  have y : (22 : Int) + k ≤ b.length := by omega
  go_enter Tryz.func194, Tryz.ntmps194
  go_wp2_with (with_reducible refine st_alloc ?_)
  refine StopOp.go rfl fun K hK => ?_
  refine wp_alloc zero_frame ?_
  intro g w1 hg1 hg2 hm1 hB1
  simp only [put_some, List.set_cons_succ, List.set_cons_zero]
  refine hK _ _ ?_
  clear hK K
  have hb21 := hb2.ext hm1
  go_wp2_with (first
                | (go_at_call 200; refine (V0 _ hb21).mono ?_; rintro e w3 ⟨rfl, rfl⟩)
                | (go_at_call 201; refine (SZ _).mono ?_; rintro e w3 ⟨rfl, rfl⟩))
  have hbA := hb.ext (hm1.ext (Mod.drew [] w1))
  have hG1 : Blk w1.drew g 97 [.int .u64 0, .int .u64 0, .slice none 0 0] := Blk.ext hB1 (Mod.drew [] w1)
  have hM1 := hm1.ext (Mod.drew [] w1)
  refine wp_region_T [⟨0, true, []⟩, ⟨1, true, []⟩, ⟨2, true, []⟩, ⟨3, true, []⟩, ⟨4, true, []⟩, ⟨6, true, []⟩, ⟨7, true, []⟩, ⟨8, true, []⟩, ⟨9, true, []⟩, ⟨5, false, [8]⟩, ⟨10, false, []⟩, ⟨11, true, []⟩, ⟨12, true, []⟩] (by kernel_rfl) (by kernel_rfl) ?_
  obtain ⟨w2, hw2⟩ : ∃ x, x = w1.drew := ⟨_, rfl⟩
  rw [← hw2] at hbA hG1 hM1 ⊢
  clear hw2 hB1 hm1 hb21
  have h22 : 22 + k ≤ b.length := by omega
  have V4 := fun w h => refValue_any ((b.drop (22 + k - 4)).take (22 + k - (22 + k - 4))) (.slice (Option.map (fun x => x.add (22 + k - 4)) aob) (22 + k - (22 + k - 4)) (capb - (22 + k - 4))) w h (by rw [List.length_take, List.length_drop]; omega)
  have e4 : val ((b.drop (22 + k - 4)).take (22 + k - (22 + k - 4))) = nb b (18 + k) 4 := by
    unfold nb
    rw [show 22 + k - 4 = 18 + k by omega, show 22 + k - (18 + k) = 4 by omega]
  have hs4 := hbA.subx (lo := 22 + k - 4) (hi := 22 + k) (by omega) h22 hc1 rfl
  rw [e4] at V4
  have x4 := nb_lt b (18 + k) 4
  obtain ⟨S4, hS4⟩ : ∃ S, S = nb b (18 + k) 4 := ⟨_, rfl⟩
  rw [← hS4] at V4 x4
  have hpre := hbA.pref rfl (k := 22 + k - 4) (by omega) (by omega)
  obtain ⟨B, hB⟩ : ∃ B, B = b.take (18 + k) := ⟨_, rfl⟩
  rw [show b.take (22 + k - 4) = B by rw [hB]; congr 1; omega] at hpre
  have hcl := crcS_lt B
  have RS := fun w h => rsum_any B (.slice aob (22 + k - 4) capb) w h
  obtain ⟨cs, hcs⟩ : ∃ c, c = crcS B := ⟨_, rfl⟩
  rw [← hcs] at RS hcl
  have HS := Lib.hid (And.intro hS4 (And.intro hB hcs))
  have z2 : IntKind.u64.wrap (cs : Int) = cs := IntWalk.u64_in _ (by omega)
  have q2 : (cs : Int) ≤ 4294967295 := by omega
  have q3 : (0 : Int) ≤ cs := by omega
  clear hS4 hB hcs e4
  iterate 9 (refine wpT_n rfl rfl (fun K hK => ?_); go_wp2_with fail)
  refine wpT_callh rfl rfl (fun K hK => ?_)
  go_wp2_with (go_at_call 200; refine (V4 _ hs4).mono ?_; rintro e w3 ⟨rfl, rfl⟩)
  refine ⟨agains_same, ?_⟩
  refine wpT_call rfl rfl (fun K hK => ?_)
  go_wp2_with (go_at_call 192; refine (RS _ hpre).mono ?_; rintro e w3 ⟨rfl, rfl⟩)
  by_cases hsum : S4 = cs
  · subst hsum
    have q4 : ((S4 : Int) != (S4 : Int)) = false := by simp
    iterate 2 (refine wpT_n rfl rfl (fun K hK => ?_); go_wp2_with fail)
    refine wpT_nil ?_
    go_wp2_with fail
    have HSZ := Lib.hid SZ
    clear V0 SZ V4 RS hs4 hpre hb2 hb
    obtain ⟨pb, ob, rfl, _⟩ := hbA.byte (show 0 < b.length by omega)
    have V1 := fun w h => refValue_any ((b.drop 2).take 8) (.slice (some ⟨pb, ob + 2, none⟩) 8 (capb - 2)) w h (by rw [List.length_take]; omega)
    have V2 := fun w h => refValue_any ((b.drop 10).take 8) (.slice (some ⟨pb, ob + 10, none⟩) 8 (capb - 10)) w h (by rw [List.length_take]; omega)
    have p1 : Bs w2 (.slice (some ⟨pb, ob + 2, none⟩) 8 (capb - 2)) ((b.drop 2).take 8) := hbA.subx (lo := 2) (hi := 10) (by omega) (by omega) hc1 rfl
    have p2 : Bs w2 (.slice (some ⟨pb, ob + 10, none⟩) 8 (capb - 10)) ((b.drop 10).take 8) := hbA.subx (lo := 10) (hi := 18) (by omega) (by omega) hc1 rfl
    have x1 : (2 : Int) ≤ 10 ∧ (10 : Int) ≤ b.length ∧ (10 : Int) ≤ capb ∧ (18 : Int) ≤ capb ∧ (18 : Int) ≤ b.length := by omega
    obtain ⟨x1a, x1b, x1c, x1d, x1e⟩ := x1
    obtain ⟨N1, hN1⟩ : ∃ n, n = val ((b.drop 2).take 8) := ⟨_, rfl⟩
    obtain ⟨N2, hN2⟩ : ∃ n, n = val ((b.drop 10).take 8) := ⟨_, rfl⟩
    rw [← hN1] at V1
    rw [← hN2] at V2
    have HN := Lib.hid (And.intro hN1 hN2)
    clear hN1 hN2
    have pd1 := p1.ext (Mod.drew [] w2)
    have pd2 := p2.ext (Mod.drew [] w2)
    have pa1 := (p1.ext (Mod.alloc [] w2 (.cells #[.int .u64 0, .int .u64 0, .slice none 0 0] 97))).ext (Mod.drew [] _)
    have pa2 := (p2.ext (Mod.alloc [] w2 (.cells #[.int .u64 0, .int .u64 0, .slice none 0 0] 97))).ext (Mod.drew [] _)
    go_upto_region 11 with fail
    go_cut [7] (fun x wx => ∃ f, x = .pointer (some ⟨f, 0, none⟩) ∧ w2.heap.size ≤ f ∧ Blk wx f 97 [.int .u64 N1, .int .u64 N2, .slice none 0 0] ∧ Mod [] w2 wx)
    case first =>
      go_region_with (first
        | (go_at_call 200; (with_reducible refine (V1 _ pd1).mono ?_); rintro e w' ⟨rfl, rfl⟩)
        | (go_at_call 200; (with_reducible refine (V2 _ pd2).mono ?_); rintro e w' ⟨rfl, rfl⟩)
        | (go_at_call 200; (with_reducible refine (V1 _ pa1).mono ?_); rintro e w' ⟨rfl, rfl⟩)
        | (go_at_call 200; (with_reducible refine (V2 _ pa2).mono ?_); rintro e w' ⟨rfl, rfl⟩))
      all_goals (go_wp2_with fail; go_meet; exact ⟨w2.heap.size, rfl, Nat.le_refl _, Blk.ext (Blk.new _ _ _) (Mod.drew [] _), (Mod.alloc [] _ _).ext (Mod.drew [] _)⟩)
    case rest =>
    obtain ⟨f, rfl, hf1, hF, hmc⟩ := hcut
    have hbC := hbA.ext hmc
    have hGC := hG1.ext hmc
    have hMC := hM1.ext hmc
    have hgf : g ≠ f := by have := hG1.lt; omega
    have hw2 := hM1.size
    clear V1 V2 p1 p2 pd1 pd2 pa1 pa2 hbA hG1 hM1 hmc
    have hbody : Bs wc (.slice (some ⟨pb, ob + 18, none⟩) (22 + k - 4 - 18) (capb - 18)) ((b.drop 18).take (22 + k - 4 - 18)) := hbC.suby (lo := 18) (hi := 22 + k - 4) (by omega) (by omega) hc1 rfl (by omega)
    rw [show (b.drop 18).take (22 + k - 4 - 18) = (parF b).l by rw [HPAR.out]; congr 1; omega] at hbody
    have hbl : (parF b).l.length = 22 + k - 4 - 18 := by rw [HPAR.out]; dsimp only; rw [List.length_take, List.length_drop]; omega
    obtain ⟨L, hL⟩ : ∃ L, L = (parF b).l := ⟨_, rfl⟩
    rw [← hL] at hbody hbl
    have HL := Lib.hid (And.intro hL hbl)
    have hk64 : k ≤ 64 := by omega
    clear hL hbl
    go_wp2_with fail
    refine wp_region_T [⟨0, true, []⟩, ⟨1, true, []⟩, ⟨2, true, []⟩, ⟨3, true, []⟩, ⟨4, true, []⟩, ⟨5, true, []⟩, ⟨6, false, []⟩, ⟨7, true, []⟩, ⟨8, false, []⟩] (by kernel_rfl) (by kernel_rfl) ?_
    have hb3 := hbody.ext (Mod.drew [] wc)
    have hF3 := hF.ext (Mod.drew [] wc)
    have hG3 := hGC.ext (Mod.drew [] wc)
    have hM3 := hMC.ext (Mod.drew [] wc)
    have hwc : wc.heap.size = wc.drew.heap.size := rfl
    obtain ⟨w3, hw3⟩ : ∃ x, x = wc.drew := ⟨_, rfl⟩
    rw [← hw3] at hb3 hF3 hG3 hM3 hwc ⊢
    clear hw3 hbody hF hGC hMC hbC
    have f2 := hF3.cell' (i := 2) rfl
    iterate 6 (refine wpT_n rfl rfl (fun K hK => ?_); go_wp2_with fail)
    have hb3' : Sl w3 1 (.slice (some ⟨pb, ob + 18, none⟩) (22 + k - 4 - 18) (capb - 18)) (22 + k - 4 - 18) (bv L) := Bs.onx hb3 HL.out.2
    refine wpT_e0 rfl rfl (fun K hK => ?_)
    refine wp_append_ow stB (by rfl) (by rfl) (Ow.nil w3 5 1) hb3' (bv_one _) (by omega) (by omega) ?_
    intro v6 w6 hv6 hm6 hb6
    simp only [put_some, List.set_cons_succ, List.set_cons_zero]
    refine hK _ _ ?_
    clear hK K
    rw [List.nil_append, Nat.zero_add] at hv6
    have ho6 : Ob w6 v6 L := Ob.of_onx hv6 HL.out.2
    obtain ⟨ao6, cap6, rfl, _, _⟩ := Ob.nx ho6 HL.out.2
    have hF6 := hF3.mod hm6 (by simp [blks])
    have hG6 := hG3.mod hm6 (by simp [blks])
    have hM6 := hM3.fresh hm6 (by simp [blks])
    have hn6 : ∀ x ∈ blks (.slice ao6 (22 + k - 4 - 18) cap6), w3.heap.size ≤ x := fun x hx => (hb6 x hx).elim (by simp [blks]) id
    refine wpT_n rfl rfl (fun K hK => ?_)
    go_wp2_with fail
    refine wpT_e0 rfl rfl (fun K hK => ?_)
    refine wp_store1 (by kernel_rfl) (by rfl) (u := .slice ao6 (22 + k - 4 - 18) cap6) (by rfl) ⟨rfl, rfl⟩ hF6 (by simp) ?_
    intro w7 hm7 hB7
    refine hK _ _ ?_
    clear hK K
    have hF7 : Blk w7 f 97 [.int .u64 N1, .int .u64 N2, .slice ao6 (22 + k - 4 - 18) cap6] := hB7
    have hfw : w.heap.size ≤ f := by omega
    refine wpT_nil ?_
    have y0 := hF7.cell' (i := 0) rfl
    have y1 := hF7.cell' (i := 1) rfl
    have y2 := hF7.cell' (i := 2) rfl
    have hG7 := hG6.mod hm7 (by simpa using hgf)
    have ho7 : Ob w7 (.slice ao6 (22 + k - 4 - 18) cap6) L := ho6.mod hm7 (fun x hx hh => by have := hn6 x hx; have := hF3.lt; have e : x = f := (by simpa using hh); omega)
    have hM7 := hM6.fresh hm7 (by simpa using hfw)
    go_wp2_with (with_reducible refine st_store ?_)
    refine StopOp.go rfl fun K hK => ?_
    refine wp_store (u := .agg #[.int .u64 N1, .int .u64 N2, .slice ao6 (22 + k - 4 - 18) cap6]) (by rfl) (by rfl) (by kernel_rfl) hG7 (by simp [Value.cells]) (by simp [Value.cells, Value.oneCell']) ?_
    intro w90 hm90 hB90
    refine hK _ _ ?_
    clear hK K
    have z0 := hB90.cell' (i := 0) rfl
    have z1 := hB90.cell' (i := 1) rfl
    have z2 := hB90.cell' (i := 2) rfl
    go_wp2_with fail
    refine bodyPost_ret (v := .tuple #[.agg #[.int .u64 N1, .int .u64 N2, .slice ao6 (22 + k - 4 - 18) cap6], .int .i64 (22 + k), .int .i64 0]) (by simp [results, Tryz.results194, go_sem, z0, z1, z2]) rfl ?_
    have he : errF b = 0 := by rw [HERR.out, if_neg h32, if_neg hsh, ← HS.out.1, ← HS.out.2.1, ← HS.out.2.2, if_neg (by simp)]
    have hg : getF b = ⟨N1, N2, L⟩ := by
      unfold getF
      rw [if_pos he, HL.out.1, HN.out.1, HN.out.2, HPAR.out]
      rfl
    have hg9 : ∀ x ∈ blks (.slice ao6 (22 + k - 4 - 18) cap6), x ≠ g := fun x hx e => by have := hn6 x hx; have := hG3.lt; omega
    refine ⟨.slice ao6 (22 + k - 4 - 18) cap6, ?_, ?_, fun x hx => Nat.le_trans hM3.size (hn6 x hx), hM7.fresh hm90 (by simpa using hg1)⟩
    · rw [hg, he, show numF b = 22 + k by rw [HNUM.out, if_pos he]]
      simp
    · rw [hg]
      exact ho7.mod hm90 (fun x hx hh => hg9 x hx (by simpa using hh))
  · have q4 : ((S4 : Int) != (cs : Int)) = true := by simp; omega
    iterate 2 (refine wpT_n rfl rfl (fun K hK => ?_); go_wp2_with fail)
    refine wpT_nil ?_
    go_wp2_with (with_reducible refine st_store ?_)
    refine StopOp.go rfl fun K hK => ?_
    refine wp_store (u := .agg #[.int .u64 0, .int .u64 0, .slice none 0 0]) (by rfl) (by rfl) (by kernel_rfl) hG1 (by simp [Value.cells]) (by simp [Value.cells, Value.oneCell']) ?_
    intro w90 hm90 hB90
    refine hK _ _ ?_
    clear hK K
    have z0 := hB90.cell' (i := 0) rfl
    have z1 := hB90.cell' (i := 1) rfl
    have z2 := hB90.cell' (i := 2) rfl
    go_wp2_with fail
    exact bodyPost_ret (v := .tuple #[.agg #[.int .u64 0, .int .u64 0, .slice none 0 0], .int .i64 0, .int .i64 81]) (by simp [results, Tryz.results194, go_sem, z0, z1, z2]) rfl (gf_no (by rw [HERR.out, if_neg h32, if_neg hsh, ← HS.out.1, ← HS.out.2.1, ← HS.out.2.2, if_pos (by simpa using hsum)]) (by decide) rfl (hM1.fresh hm90 (by simpa using hg1)))
end Go.Proofs.YtfepggdljhiemaaGreatDoor

/-! Frames: held side by side; lent; awake. -/
namespace Go.Proofs.YtfepggdljhiemaaGreatDoor
open Go.RowKit Gw

/-- a frame as it is handed over -/
def Fv.v (f : Fv) (v : Value) : Value := .agg #[.int .u64 (f.e : Nat), .int .u64 (f.s : Nat), v]
set_option maxHeartbeats 1000000 in
theorem sameF_yes (f : Fv) (va vb : Value) (w : World) (ha : Bs w va f.l) (hb : Bs w vb f.l) : Calls Tryz.prog 45 #[f.v va, f.v vb] w fun e w' => e = .returned (.bool true) ∧ Mod [] w w' := by
  obtain ⟨e, s, l⟩ := f
  obtain ⟨aoa, capa, rfl, _, _⟩ := ha.form
  obtain ⟨aob, capb, rfl, _, _⟩ := hb.form
  unfold Fv.v
  dsimp only at ha hb ⊢
  go_enter Tryz.func45, Tryz.ntmps45
  go_wp2_with (with_reducible refine st_box ?_)
  refine StopOp.go rfl fun K hK => ?_
  refine wp_box (v := .agg #[.int .u64 (e : Nat), .int .u64 (s : Nat), .slice aoa l.length capa]) (by rfl) ?_
  intro g w1 hg1 hg2 hm1 hB1
  simp only [put_some, List.set_cons_succ, List.set_cons_zero]
  refine hK _ _ ?_
  clear hK K
  go_wp2_with (with_reducible refine st_box ?_)
  refine StopOp.go rfl fun K hK => ?_
  refine wp_box (v := .agg #[.int .u64 (e : Nat), .int .u64 (s : Nat), .slice aob l.length capb]) (by rfl) ?_
  intro h w2 hh1 hh2 hm2 hB2
  simp only [put_some, List.set_cons_succ, List.set_cons_zero]
  refine hK _ _ ?_
  clear hK K
  have hG : Blk w2 g 97 [.int .u64 (e : Nat), .int .u64 (s : Nat), .slice aoa l.length capa] := Blk.ext hB1 hm2
  have hH : Blk w2 h 97 [.int .u64 (e : Nat), .int .u64 (s : Nat), .slice aob l.length capb] := hB2
  have x0 := hG.cell' (i := 0) rfl
  have x1 := hG.cell' (i := 1) rfl
  have x2 := hG.cell' (i := 2) rfl
  have y0 := hH.cell' (i := 0) rfl
  have y1 := hH.cell' (i := 1) rfl
  have y2 := hH.cell' (i := 2) rfl
  have ha2 := (ha.ext hm1).ext hm2
  have hb2 := (hb.ext hm1).ext hm2
  go_wp2_with (go_at_call 44; refine (same_yes l l _ _ _ ha2 hb2 rfl).mono ?_; rintro e w3 ⟨rfl, hm3⟩)
  go_ret
  exact ⟨rfl, (hm1.ext hm2).ext hm3⟩
end Go.Proofs.YtfepggdljhiemaaGreatDoor

/-! FramePuts, FrameGets: their walks. -/
namespace Go.Proofs.YtfepggdljhiemaaGreatDoor
open Go.RowKit Gw

end Go.Proofs.YtfepggdljhiemaaGreatDoor

/-! Lists of frames, read; FrameAgain. -/
namespace Go.Proofs.YtfepggdljhiemaaGreatDoor
open Go.RowKit Gw

theorem frs_cells (rest : List Value) : ∀ (L : List Fi) (i : Nat) (hi : i < L.length), (L.flatMap Fi.cells ++ rest)[i * 3]? = some (.int .u64 (L[i].f.e : Nat)) ∧ (L.flatMap Fi.cells ++ rest)[i * 3 + 1]? = some (.int .u64 (L[i].f.s : Nat)) ∧ (L.flatMap Fi.cells ++ rest)[i * 3 + 2]? = some L[i].v
  | [], i, hi => absurd hi (by simp)
  | x :: L, 0, _ => ⟨rfl, rfl, rfl⟩
  | x :: L, i + 1, hi => by
    have h := frs_cells rest L i (by simpa using hi)
    have e : ∀ k, ((x :: L).flatMap Fi.cells ++ rest)[(i + 1) * 3 + k]? = (L.flatMap Fi.cells ++ rest)[i * 3 + k]? := fun k => by
      rw [show (i + 1) * 3 + k = (i * 3 + k) + 3 by omega]
      rfl
    refine ⟨(e 0).trans h.1, (e 1).trans h.2.1, (e 2).trans h.2.2⟩
theorem Frs.at3 {w : World} {base n cap : Nat} {ao : Option Addr} {L : List Fi} (h : Frs w base (.slice ao n cap) L) {i : Nat} (hi : i < L.length) :
    ∃ g t cs, ao = some ⟨g, 0, none⟩ ∧ Blk w g t cs ∧ w.cell? ⟨g, i * 3, none⟩ = some (.int .u64 (L[i].f.e : Nat)) ∧ w.cell? ⟨g, i * 3 + 1, none⟩ = some (.int .u64 (L[i].f.s : Nat)) ∧ w.cell? ⟨g, i * 3 + 2, none⟩ = some L[i].v ∧ Bs w L[i].v L[i].f.l := by
  rcases Ow.blk h.ow with ⟨h1, h2, _⟩ | ⟨g, c, rest, h1, hB, _⟩
  · omega
  · injection h1 with e1 e2 e3
    obtain ⟨c0, c1, c2⟩ := frs_cells rest L i hi
    exact ⟨g, _, _, e1, hB, hB.cell' c0, hB.cell' c1, hB.cell' c2, (h.ob (List.getElem_mem hi)).1.bs⟩
theorem Frs.nx {w : World} {base n : Nat} {v : Value} {L : List Fi} (h : Frs w base v L) (hl : L.length = n) : ∃ ao cap, v = .slice ao n cap ∧ n ≤ cap ∧ cap ≤ 9223372036854775807 := hl ▸ h.ow.sl.form
end Go.Proofs.YtfepggdljhiemaaGreatDoor

/-! Lists of frames and of numbers held side by side; the reference's Row. -/
namespace Go.Proofs.YtfepggdljhiemaaGreatDoor
open Go.RowKit Gw

/-- frames, readable -/
def FrsR (w : World) (v : Value) (L : List Fi) : Prop := Sl w 3 v L.length (L.flatMap Fi.cells) ∧ ∀ x ∈ L, Bs w x.v x.f.l
theorem FrsR.ext {w w' : World} {v : Value} {L : List Fi} (h : FrsR w v L) (hm : Mod [] w w') : FrsR w' v L := ⟨Sl.ext h.1 hm, fun p hp => (h.2 p hp).ext hm⟩
theorem Frs.r {w : World} {base : Nat} {v : Value} {L : List Fi} (h : Frs w base v L) : FrsR w v L := ⟨h.ow.sl, fun _ hx => (h.ob hx).1.bs⟩
theorem FrsR.at3 {w : World} {n cap : Nat} {ao : Option Addr} {L : List Fi} (h : FrsR w (.slice ao n cap) L) {i : Nat} (hi : i < L.length) :
    ∃ g o, ao = some ⟨g, o, none⟩ ∧ w.cell? ⟨g, o + i * 3, none⟩ = some (.int .u64 (L[i].f.e : Nat)) ∧ w.cell? ⟨g, o + i * 3 + 1, none⟩ = some (.int .u64 (L[i].f.s : Nat)) ∧ w.cell? ⟨g, o + i * 3 + 2, none⟩ = some L[i].v ∧ Bs w L[i].v L[i].f.l := by
  have hne : L.flatMap Fi.cells ≠ [] := fun h0 => by
    have := flen3 L
    rw [h0] at this
    simp at this
    omega
  obtain ⟨b, o, c, hv, _, _, hc⟩ := h.1.at hne
  injection hv with e1 e2 e3
  obtain ⟨c0, c1, c2⟩ := frs_cells [] L i hi
  rw [List.append_nil] at c0 c1 c2
  exact ⟨b, o, e1, hc _ _ c0, hc _ _ c1, hc _ _ c2, h.2 _ (List.getElem_mem hi)⟩
set_option maxHeartbeats 2000000 in
theorem sameFrs_yes (A B : List Fi) (va vb : Value) (w : World) (ha : FrsR w va A) (hb : FrsR w vb B) (h : A.map Fi.f = B.map Fi.f) :
    Calls Tryz.prog 14 #[va, vb] w fun e w' => e = .returned (.bool true) ∧ Mod [] w w' := by
  obtain ⟨aoa, capa, rfl, _, _⟩ := ha.1.form
  obtain ⟨aob, capb, rfl, _, _⟩ := hb.1.form
  have hl : A.length = B.length := by simpa using congrArg List.length h
  have hA1 := ha.1.small
  obtain ⟨n, hn⟩ : ∃ n, n = B.length := ⟨_, rfl⟩
  have hnA : A.length = n := by omega
  rw [hnA] at ha ⊢
  rw [show B.length = n from hn.symm] at hb ⊢
  have HA := Lib.hid hnA
  have HB := Lib.hid hn
  have H := Lib.hid h
  clear hl hn hnA h hA1
  go_enter Tryz.func14, Tryz.ntmps14
  go_wp2_with fail
  go_loopw [5] (fun i wr => ∃ j : Nat, j ≤ n ∧ i = .int .i64 j ∧ Mod [] w wr) (fun i _ => n - (intOf i).toNat)
  case atStart => exact ⟨0, Nat.zero_le _, rfl, Mod.refl _ _⟩
  case round =>
    obtain ⟨j, hj, rfl, hmr⟩ := hrel
    by_cases hlt : j < n
    · have jA : j < A.length := by have := HA.out; omega
      have jB : j < B.length := by have := HB.out; omega
      have hmr' := hmr.ext (Mod.drew [] wr)
      obtain ⟨b1, o1, rfl, c0, c1, c2, e1⟩ := (ha.ext hmr').at3 jA
      obtain ⟨b2, o2, rfl, d0, d1, d2, e2⟩ := (hb.ext hmr').at3 jB
      have hjj : A[j].f = B[j].f := by
        have h1 : (A.map Fi.f)[j]? = (B.map Fi.f)[j]? := by rw [H.out]
        rw [List.getElem?_map, List.getElem?_map, List.getElem?_eq_getElem jA, List.getElem?_eq_getElem jB] at h1
        exact Option.some.inj h1
      rw [← hjj] at e2 d0 d1
      obtain ⟨f, hf⟩ : ∃ l, l = A[j].f := ⟨_, rfl⟩
      rw [← hf] at e1 e2 c0 c1 d0 d1
      obtain ⟨u1, hu1⟩ : ∃ u, u = A[j].v := ⟨_, rfl⟩
      obtain ⟨u2, hu2⟩ : ∃ u, u = B[j].v := ⟨_, rfl⟩
      rw [← hu1] at e1 c2
      rw [← hu2] at e2 d2
      have SF := fun w h1 h2 => sameF_yes f u1 u2 w h1 h2
      unfold Fv.v at SF
      obtain ⟨fe, fs, fl⟩ := f
      dsimp only at SF c0 c1 d0 d1 e1 e2
      have y0 : (j : Int) < n := by omega
      clear hf hu1 hu2 hjj
      go_wp2_with fail
      refine wp_region_T [⟨0, true, []⟩, ⟨1, true, []⟩, ⟨2, true, []⟩, ⟨3, true, []⟩, ⟨4, true, []⟩, ⟨5, true, []⟩, ⟨6, true, []⟩, ⟨7, true, []⟩, ⟨8, false, []⟩, ⟨9, true, []⟩] (by kernel_rfl) (by kernel_rfl) ?_
      obtain ⟨x, hx⟩ : ∃ x, x = wr.drew := ⟨_, rfl⟩
      rw [← hx] at hmr' c0 c1 c2 d0 d1 d2 e1 e2 ⊢
      clear hx
      iterate 8 (refine wpT_n rfl rfl (fun K hK => ?_); go_wp2_with fail)
      refine wpT_call rfl rfl (fun K hK => ?_)
      go_wp2_with (go_at_call 45; refine (SF _ e1 e2).mono ?_; rintro e w3 ⟨rfl, hm3⟩)
      refine wpT_n rfl rfl (fun K hK => ?_)
      go_wp2_with fail
      refine wpT_nil ?_
      go_wp2_with fail
      go_roundw
      case rel => exact ⟨j + 1, by omega, by go_num, hmr'.ext hm3⟩
      case measure => simp [intOf]; omega
    · obtain rfl : j = n := by omega
      go_wp2_with fail
      go_ret
      exact ⟨rfl, hmr⟩
theorem stInt : ST Tryz.prog 200 3 (.int .i64 0) 1 8 := ⟨Tryz.underlying200, by kernel_rfl, rfl, by decide⟩
def iN (L : List Nat) : List Value := L.map fun n => .int .i64 (n : Nat)
theorem iN_snoc (L : List Nat) (n : Nat) : iN L ++ [.int .i64 (n : Nat)] = iN (L ++ [n]) := by simp [iN]
/-! ### the reference's Row -/
def RowP (b : List UInt8) (e s : Nat) (w : World) (en : Ending) (w' : World) : Prop :=
  ∃ v pv L, en = .returned (.tuple #[v, pv, .int .i64 (endF (rowS b e s 0) 0 : Nat)]) ∧ L.map Fi.d = rowS b e s 0 ∧ Frs w' w.heap.size v L ∧ Ow w' 3 1 pv L.length (iN (L.map Fi.p)) ∧ (∀ k ∈ blks pv, w.heap.size ≤ k) ∧ Mod [] w w'
theorem dF (D : List Fi) (x : Fi) : endF ((D ++ [x]).map Fi.d) 0 = endF (D.map Fi.d) 0 + (22 + x.f.l.length) := by rw [List.map_append, List.map_singleton, endF_snoc]; rfl
set_option maxRecDepth 1000000 in
set_option maxHeartbeats 8000000 in
theorem row_any (b : List UInt8) (e s : Nat) (v : Value) (w : World) (hb : Bs w v b) (hl : b.length ≤ 1099511627776) (hs : s < 18446744073709551616) (he : e < 18446744073709551616) :
    Calls Tryz.prog 175 #[v, .int .u64 (e : Nat), .int .u64 (s : Nat)] w (RowP b e s w) := by
  obtain ⟨ao, cap, rfl, hc1, hc2⟩ := hb.form
  go_enter Tryz.func175, Tryz.ntmps175
  go_wp2_with fail
  go_loopw [2, 9, 10, 11] (fun sv ov pv iv wr => ∃ (D : List Fi) (p s' : Nat), sv = .int .u64 (s' : Nat) ∧ iv = .int .i64 (p : Nat) ∧ p = endF (D.map Fi.d) 0 ∧ p ≤ b.length ∧ s' < 18446744073709551616 ∧ rowS b e s 0 = D.map Fi.d ++ rowS b e s' p ∧ Frs wr w.heap.size ov D ∧ Ow wr 3 1 pv D.length (iN (D.map Fi.p)) ∧ (∀ k ∈ blks pv, w.heap.size ≤ k) ∧ Mod [] w wr ∧ 22 * D.length ≤ p) (fun _ _ _ iv _ => b.length - (intOf iv).toNat)
  case atStart => exact ⟨[], 0, s, rfl, rfl, rfl, Nat.zero_le _, hs, rfl, Frs.nil _ _, Ow.nil _ _ _, by simp [blks], Mod.refl _ _, by simp⟩
  case round =>
    obtain ⟨D, p, s', rfl, rfl, hp, hpb, hs', hR, hF, hO, hN, hm, hD⟩ := hrel
    have hbr := hb.ext hm
    have hsf := hbr.suf (p := p) rfl hpb hc1
    have GE := fun w h => rfget_any (b.drop p) (.slice (if cap = p then ao else Option.map (fun x => x.add p) ao) (b.length - p) (cap - p)) w h (by rw [List.length_drop]; omega)
    unfold GetF at GE
    have z1 : (p : Int) ≤ b.length := by omega
    have z2 : (b.length : Int) ≤ cap := by omega
    have hD2 : D.length ≤ 1099511627776 := by omega
    obtain ⟨aoo, capo, rfl, _, _⟩ := hF.ow.sl.form
    obtain ⟨aop, capp, rfl, _, _⟩ := hO.sl.form
    cases hst : stepF b e s' p with
    | false =>
      rw [rowS_no hst, List.append_nil] at hR
      have hend : endF (rowS b e s 0) 0 = p := by rw [hR, ← hp]
      have HEND := Lib.hid hend
      have HR := Lib.hid hR
      clear hR hend hp
      by_cases h0 : errF (b.drop p) = 0
      · have hg : getF (b.drop p) = parF (b.drop p) := if_pos h0
        rw [hg, h0] at GE
        unfold stepF at hst
        rw [h0] at hst
        obtain ⟨f, hf⟩ : ∃ f, f = parF (b.drop p) := ⟨_, rfl⟩
        obtain ⟨m, hm'⟩ : ∃ m, m = numF (b.drop p) := ⟨_, rfl⟩
        rw [← hf] at GE hst
        rw [← hm'] at GE
        have hok : f.ok := by rw [hf]; exact (parF_ok h0).1
        obtain ⟨fe, fs, fl⟩ := f
        obtain ⟨k1, k2, k3⟩ := hok
        dsimp only at GE hst k1 k2 k3
        clear hf hm' h0 hg
        by_cases h1 : fe = e
        · subst h1
          by_cases h2 : s' + 1 < 18446744073709551616
          · have h3 : fs ≠ s' + 1 := fun h3 => by simp [h2, h3] at hst
            have h4 : (fs : Int) ≠ s' + 1 := by omega
            have h5 : (s' : Int) ≤ 18446744073709551614 := by omega
            clear hst h3 h2
            go_wp2_with (first
                          | (with_reducible refine st_alloc ?_)
                          | (go_at_call 194; (with_reducible refine (GE _ hsf).mono ?_); rintro e w1 ⟨v1, rfl, ho1, hn1, hm1⟩; obtain ⟨ao1, cap1, rfl, _, _⟩ := ho1.sl.form; generalize (if cap = p then ao else Option.map (fun x => x.add p) ao) = so))
            refine StopOp.go rfl fun K hK => ?_
            refine wp_alloc zero_frame ?_
            intro g w2 hg1 hg2 hm2 hB2
            simp only [put_some, List.set_cons_succ, List.set_cons_zero]
            refine hK _ _ ?_
            clear hK K
            go_wp2_with (with_reducible refine st_store ?_)
            refine StopOp.go rfl fun K hK => ?_
            refine wp_store (u := .agg #[.int .u64 fe, .int .u64 fs, .slice ao1 fl.length cap1]) (by rfl) (by rfl) (by kernel_rfl) hB2 (by simp [Value.cells]) (by simp [Value.cells, Value.oneCell']) ?_
            intro w3 hm3 hB3
            refine hK _ _ ?_
            clear hK K
            have hG3 : Blk w3 g 97 [.int .u64 fe, .int .u64 fs, .slice ao1 fl.length cap1] := hB3
            have hmr3 : Mod [] wr w3 := hm1.ext (hm2.fresh hm3 (by simpa using hg1))
            have x0 := hG3.cell' (i := 0) rfl
            have x1 := hG3.cell' (i := 1) rfl
            have x2 := hG3.cell' (i := 2) rfl
            go_wp2_with fail
            exact bodyPost_ret (v := .tuple #[.slice aoo D.length capo, .slice aop D.length capp, .int .i64 p]) (by simp [results, Tryz.results175, go_sem]) rfl ⟨_, _, D, by rw [HEND.out], HR.out.symm, hF.ext hmr3, hO.ext hmr3, hN, hm.ext hmr3⟩
          · obtain rfl : s' = 18446744073709551615 := by omega
            clear hst h2
            by_cases h3 : fs = 0
            · subst h3
              go_wp2_with (first
                            | (with_reducible refine st_alloc ?_)
                            | (go_at_call 194; (with_reducible refine (GE _ hsf).mono ?_); rintro e w1 ⟨v1, rfl, ho1, hn1, hm1⟩; obtain ⟨ao1, cap1, rfl, _, _⟩ := ho1.sl.form; generalize (if cap = p then ao else Option.map (fun x => x.add p) ao) = so))
              refine StopOp.go rfl fun K hK => ?_
              refine wp_alloc zero_frame ?_
              intro g w2 hg1 hg2 hm2 hB2
              simp only [put_some, List.set_cons_succ, List.set_cons_zero]
              refine hK _ _ ?_
              clear hK K
              go_wp2_with (with_reducible refine st_store ?_)
              refine StopOp.go rfl fun K hK => ?_
              refine wp_store (u := .agg #[.int .u64 fe, .int .u64 0, .slice ao1 fl.length cap1]) (by rfl) (by rfl) (by kernel_rfl) hB2 (by simp [Value.cells]) (by simp [Value.cells, Value.oneCell']) ?_
              intro w3 hm3 hB3
              refine hK _ _ ?_
              clear hK K
              have hG3 : Blk w3 g 97 [.int .u64 fe, .int .u64 0, .slice ao1 fl.length cap1] := hB3
              have hmr3 : Mod [] wr w3 := hm1.ext (hm2.fresh hm3 (by simpa using hg1))
              have x0 := hG3.cell' (i := 0) rfl
              have x1 := hG3.cell' (i := 1) rfl
              have x2 := hG3.cell' (i := 2) rfl
              go_wp2_with fail
              exact bodyPost_ret (v := .tuple #[.slice aoo D.length capo, .slice aop D.length capp, .int .i64 p]) (by simp [results, Tryz.results175, go_sem]) rfl ⟨_, _, D, by rw [HEND.out], HR.out.symm, hF.ext hmr3, hO.ext hmr3, hN, hm.ext hmr3⟩
            · have h4 : (fs : Int) ≠ 0 := by omega
              go_wp2_with (first
                            | (with_reducible refine st_alloc ?_)
                            | (go_at_call 194; (with_reducible refine (GE _ hsf).mono ?_); rintro e w1 ⟨v1, rfl, ho1, hn1, hm1⟩; obtain ⟨ao1, cap1, rfl, _, _⟩ := ho1.sl.form; generalize (if cap = p then ao else Option.map (fun x => x.add p) ao) = so))
              refine StopOp.go rfl fun K hK => ?_
              refine wp_alloc zero_frame ?_
              intro g w2 hg1 hg2 hm2 hB2
              simp only [put_some, List.set_cons_succ, List.set_cons_zero]
              refine hK _ _ ?_
              clear hK K
              go_wp2_with (with_reducible refine st_store ?_)
              refine StopOp.go rfl fun K hK => ?_
              refine wp_store (u := .agg #[.int .u64 fe, .int .u64 fs, .slice ao1 fl.length cap1]) (by rfl) (by rfl) (by kernel_rfl) hB2 (by simp [Value.cells]) (by simp [Value.cells, Value.oneCell']) ?_
              intro w3 hm3 hB3
              refine hK _ _ ?_
              clear hK K
              have hG3 : Blk w3 g 97 [.int .u64 fe, .int .u64 fs, .slice ao1 fl.length cap1] := hB3
              have hmr3 : Mod [] wr w3 := hm1.ext (hm2.fresh hm3 (by simpa using hg1))
              have x0 := hG3.cell' (i := 0) rfl
              have x1 := hG3.cell' (i := 1) rfl
              have x2 := hG3.cell' (i := 2) rfl
              go_wp2_with fail
              exact bodyPost_ret (v := .tuple #[.slice aoo D.length capo, .slice aop D.length capp, .int .i64 p]) (by simp [results, Tryz.results175, go_sem]) rfl ⟨_, _, D, by rw [HEND.out], HR.out.symm, hF.ext hmr3, hO.ext hmr3, hN, hm.ext hmr3⟩
        · have h4 : (fe : Int) ≠ e := by omega
          clear hst h1
          go_wp2_with (first
                        | (with_reducible refine st_alloc ?_)
                        | (go_at_call 194; (with_reducible refine (GE _ hsf).mono ?_); rintro e w1 ⟨v1, rfl, ho1, hn1, hm1⟩; obtain ⟨ao1, cap1, rfl, _, _⟩ := ho1.sl.form; generalize (if cap = p then ao else Option.map (fun x => x.add p) ao) = so))
          refine StopOp.go rfl fun K hK => ?_
          refine wp_alloc zero_frame ?_
          intro g w2 hg1 hg2 hm2 hB2
          simp only [put_some, List.set_cons_succ, List.set_cons_zero]
          refine hK _ _ ?_
          clear hK K
          go_wp2_with (with_reducible refine st_store ?_)
          refine StopOp.go rfl fun K hK => ?_
          refine wp_store (u := .agg #[.int .u64 fe, .int .u64 fs, .slice ao1 fl.length cap1]) (by rfl) (by rfl) (by kernel_rfl) hB2 (by simp [Value.cells]) (by simp [Value.cells, Value.oneCell']) ?_
          intro w3 hm3 hB3
          refine hK _ _ ?_
          clear hK K
          have hG3 : Blk w3 g 97 [.int .u64 fe, .int .u64 fs, .slice ao1 fl.length cap1] := hB3
          have hmr3 : Mod [] wr w3 := hm1.ext (hm2.fresh hm3 (by simpa using hg1))
          have x0 := hG3.cell' (i := 0) rfl
          have x1 := hG3.cell' (i := 1) rfl
          have x2 := hG3.cell' (i := 2) rfl
          go_wp2_with fail
          exact bodyPost_ret (v := .tuple #[.slice aoo D.length capo, .slice aop D.length capp, .int .i64 p]) (by simp [results, Tryz.results175, go_sem]) rfl ⟨_, _, D, by rw [HEND.out], HR.out.symm, hF.ext hmr3, hO.ext hmr3, hN, hm.ext hmr3⟩
      · have hg : getF (b.drop p) = fz := if_neg h0
        rw [hg] at GE
        unfold fz at GE
        dsimp only at GE
        obtain ⟨E, hE⟩ : ∃ E, E = errF (b.drop p) := ⟨_, rfl⟩
        obtain ⟨m, hm'⟩ : ∃ m, m = numF (b.drop p) := ⟨_, rfl⟩
        rw [← hE] at GE h0
        rw [← hm'] at GE
        clear hE hm' hg hst
        go_wp2_with (first
                      | (with_reducible refine st_alloc ?_)
                      | (go_at_call 194; (with_reducible refine (GE _ hsf).mono ?_); rintro e w1 ⟨v1, rfl, ho1, hn1, hm1⟩; obtain ⟨ao1, cap1, rfl, _, _⟩ := Ob.nx ho1 (n := 0) rfl; generalize (if cap = p then ao else Option.map (fun x => x.add p) ao) = so))
        refine StopOp.go rfl fun K hK => ?_
        refine wp_alloc zero_frame ?_
        intro g w2 hg1 hg2 hm2 hB2
        simp only [put_some, List.set_cons_succ, List.set_cons_zero]
        refine hK _ _ ?_
        clear hK K
        go_wp2_with (with_reducible refine st_store ?_)
        refine StopOp.go rfl fun K hK => ?_
        refine wp_store (u := .agg #[.int .u64 0, .int .u64 0, .slice ao1 0 cap1]) (by rfl) (by rfl) (by kernel_rfl) hB2 (by simp [Value.cells]) (by simp [Value.cells, Value.oneCell']) ?_
        intro w3 hm3 hB3
        refine hK _ _ ?_
        clear hK K
        have hG3 : Blk w3 g 97 [.int .u64 0, .int .u64 0, .slice ao1 0 cap1] := hB3
        have hmr3 : Mod [] wr w3 := hm1.ext (hm2.fresh hm3 (by simpa using hg1))
        have x0 := hG3.cell' (i := 0) rfl
        have x1 := hG3.cell' (i := 1) rfl
        have x2 := hG3.cell' (i := 2) rfl
        go_wp2_with fail
        exact bodyPost_ret (v := .tuple #[.slice aoo D.length capo, .slice aop D.length capp, .int .i64 p]) (by simp [results, Tryz.results175, go_sem]) rfl ⟨_, _, D, by rw [HEND.out], HR.out.symm, hF.ext hmr3, hO.ext hmr3, hN, hm.ext hmr3⟩
    | true =>
      obtain ⟨h1, h2, h3, h4⟩ := stepF_parts hst
      have hnum := step_num hst
      have hg : getF (b.drop p) = parF (b.drop p) := if_pos h2
      rw [hg, h2] at GE
      rw [rowS_yes hst] at hR
      have hok := (parF_ok h2).1.l
      obtain ⟨f, hf⟩ : ∃ f, f = parF (b.drop p) := ⟨_, rfl⟩
      obtain ⟨m, hm'⟩ : ∃ m, m = numF (b.drop p) := ⟨_, rfl⟩
      rw [← hf] at GE hnum h3 h4 hok
      rw [← hm'] at GE hnum
      rw [← hf, ← hm'] at hR
      obtain ⟨fe, fs, fl⟩ := f
      dsimp only at GE hnum h3 h4 hok
      subst h3 h4
      have HH := Lib.hid (And.intro hnum (And.intro hp (And.intro hR h1)))
      have h5 : (s' : Int) ≤ 18446744073709551614 := by omega
      have hsz : (((s' + 1 : Nat)) : Int) = (s' : Int) + 1 := by omega
      rw [hsz] at GE
      have z3 : (p : Int) + m ≤ 1099511627776 := by omega
      clear hf hm' h2 hg hst hnum hp hR h1
      go_wp2_with (first
                    | (with_reducible refine st_alloc ?_)
                    | (go_at_call 194; (with_reducible refine (GE _ hsf).mono ?_); rintro e w1 ⟨v1, rfl, ho1, hn1, hm1⟩; obtain ⟨ao1, cap1, rfl, _, _⟩ := ho1.sl.form; generalize (if cap = p then ao else Option.map (fun x => x.add p) ao) = so))
      refine StopOp.go rfl fun K hK => ?_
      refine wp_alloc zero_frame ?_
      intro g w2 hg1 hg2 hm2 hB2
      simp only [put_some, List.set_cons_succ, List.set_cons_zero]
      refine hK _ _ ?_
      clear hK K
      go_wp2_with (with_reducible refine st_store ?_)
      refine StopOp.go rfl fun K hK => ?_
      refine wp_store (u := .agg #[.int .u64 fe, .int .u64 ((s' : Nat) + 1), .slice ao1 fl.length cap1]) (by rfl) (by rfl) (by kernel_rfl) hB2 (by simp [Value.cells]) (by simp [Value.cells, Value.oneCell']) ?_
      intro w3 hm3 hB3
      refine hK _ _ ?_
      clear hK K
      have hG3 : Blk w3 g 97 [.int .u64 fe, .int .u64 ((s' : Nat) + 1), .slice ao1 fl.length cap1] := hB3
      have hmr3 : Mod [] wr w3 := hm1.ext (hm2.fresh hm3 (by simpa using hg1))
      have ho3 := ho1.ext (hm2.fresh hm3 (by simpa using hg1))
      have x0 := hG3.cell' (i := 0) rfl
      have x1 := hG3.cell' (i := 1) rfl
      have x2 := hG3.cell' (i := 2) rfl
      go_wp2_with (with_reducible refine st_bslice ?_)
      refine StopOp.go rfl fun K hK => ?_
      refine wp_bslice stFr [.agg #[.int .u64 fe, .int .u64 ((s' : Nat) + 1), .slice ao1 fl.length cap1]] rfl (by decide) (by rfl) (by simp [Value.cells]) ?_
      intro q w4 hq1 hq2 hm4 hB4
      simp only [put_some, List.set_cons_succ, List.set_cons_zero]
      refine hK _ _ ?_
      clear hK K
      have hS4 : Sl w4 3 (.slice (some ⟨q, 0, none⟩) 1 1) 1 (Fi.cells ⟨p, .slice ao1 fl.length cap1, ⟨fe, s' + 1, fl⟩⟩) := by
        have h : Ow w4 97 3 (.slice (some ⟨q, 0, none⟩) 1 1) 1 [.int .u64 fe, .int .u64 ((s' : Nat) + 1), .slice ao1 fl.length cap1] := Ow.of_blk (rest := []) hB4 (Nat.le_refl _) (by omega) rfl rfl
        exact h.sl
      have hF4 := (hF.ext hmr3).ext hm4
      have hO4 := (hO.ext hmr3).ext hm4
      go_wp2_with (with_reducible refine st_append ?_)
      refine StopOp.go rfl fun K hK => ?_
      refine wp_append_ow stFr (by rfl) (by rfl) hF4.ow hS4 (by simp [Fi.cells, Value.oneCell']) (by omega) (by omega) ?_
      intro v5 w5 hv5 hm5 hb5
      simp only [put_some, List.set_cons_succ, List.set_cons_zero]
      refine hK _ _ ?_
      clear hK K
      obtain ⟨ao5, cap5, rfl, _, _⟩ := hv5.sl.form
      have ho4 := ho3.ext hm4
      have hF5 := hF4.snoc (B := wr.heap.size) ⟨p, .slice ao1 fl.length cap1, ⟨fe, s' + 1, fl⟩⟩ hm.size (by have := hmr3.size; have := hm4.size; omega) hF.lt ho4 hn1 hv5 hm5 hb5
      have hO5 := hO4.mod hm5 (ow_far hO4 hF4.ow (by decide))
      go_wp2_with (with_reducible refine st_bslice ?_)
      refine StopOp.go rfl fun K hK => ?_
      refine wp_bslice stInt [.int .i64 (p : Nat)] rfl (by decide) (by rfl) (by simp [Value.cells]) ?_
      intro q2 w6 hq3 hq4 hm6 hB6
      simp only [put_some, List.set_cons_succ, List.set_cons_zero]
      refine hK _ _ ?_
      clear hK K
      have hS6 : Sl w6 1 (.slice (some ⟨q2, 0, none⟩) 1 1) 1 [.int .i64 (p : Nat)] := (Ow.of_blk (rest := []) hB6 (Nat.le_refl _) (by omega) rfl rfl : Ow w6 3 1 (.slice (some ⟨q2, 0, none⟩) 1 1) 1 [.int .i64 (p : Nat)]).sl
      have hO6 := hO5.ext hm6
      have hF6 := hF5.ext hm6
      go_wp2_with (with_reducible refine st_append ?_)
      refine StopOp.go rfl fun K hK => ?_
      refine wp_append_ow stInt (by rfl) (by rfl) hO6 hS6 (by simp [Value.oneCell']) (by omega) (by omega) ?_
      intro v7 w7 hv7 hm7 hb7
      simp only [put_some, List.set_cons_succ, List.set_cons_zero]
      refine hK _ _ ?_
      clear hK K
      obtain ⟨ao7, cap7, rfl, _, _⟩ := hv7.sl.form
      have hF7 := hF6.mod hm7 (ow_far hF6.ow hO6 (by decide)) (fun x hx => ow_far (hF6.ob hx).1 hO6 (by decide))
      go_wp2_with fail
      go_roundw
      case rel =>
        obtain ⟨hnum, hp, hR, h1⟩ := HH.out
        have hs35 := (hmr3.ext hm4).size
        refine ⟨D ++ [⟨p, .slice ao1 fl.length cap1, ⟨fe, s' + 1, fl⟩⟩], p + m, s' + 1, by go_num, by go_num, ?_, hnum.2, h1, ?_, by simpa using hF7, ?_, ?_, ?_, ?_⟩
        · rw [dF, ← hp, hnum.1]
        · rw [hR, List.map_append, List.append_assoc]; rfl
        · rw [List.map_append, List.length_append]
          have := hv7
          rw [show iN (D.map Fi.p) ++ [.int .i64 (p : Nat)] = iN (D.map Fi.p ++ [p]) from iN_snoc _ _] at this
          exact this
        · intro k hk
          rcases hb7 k hk with hk | hk
          · exact hN k hk
          · have := hm.size; have := hm5.size; have := hm6.size; omega
        · refine ((((hm.ext hmr3).ext hm4).fresh hm5 (fun k hk => hF.nw k hk)).ext hm6).fresh hm7 (fun k hk => hN k hk)
        · rw [List.length_append]; simp; omega
      case measure =>
        obtain ⟨hnum, _, _⟩ := HH.out
        simp [intOf]
        omega
end Go.Proofs.YtfepggdljhiemaaGreatDoor

/-! Frames: the law's own told. -/
namespace Go.Proofs.YtfepggdljhiemaaGreatDoor
open Go.RowKit Gw
attribute [local go_sem] Oper.semAt_some

theorem run_equalIn_fn_nil {P : Program} (w : World) (d : Nat) (t : TypeId) (f : Fn) (g c : Array Value) {ps rs : Array TypeId} {vr : Bool} (h : P.underlying t = some (.func ps rs vr)) : (Op.equalIn (d + 1) t (.func f g c) .nilFunc).run P w = .ok false w := by
  simp [Op.equalIn, run_underlying h]
theorem run_eql_fn_nil {P : Program} (w : World) (t : TypeId) (f : Fn) (g c : Array Value) {ps rs : Array TypeId} {vr : Bool} (h : P.underlying t = some (.func ps rs vr)) : (binOp .eql t (.func f g c) .nilFunc).run P w = .ok (.bool false) w := by
  simp only [binOp]
  simp [Op.equal, Op.maxDepth, run_equalIn_fn_nil w 9999 t f g c h]
theorem run_eql_seq_nil (w : World) (f : Fn) (g c : Array Value) : (binOp .eql 162 (.func f g c) .nilFunc).run Tryz.prog w = .ok (.bool false) w :=
  run_eql_fn_nil w _ f g c Tryz.underlying162
attribute [local go_sem] run_eql_seq_nil
end Go.Proofs.YtfepggdljhiemaaGreatDoor

/-! Frames one behind another: the plain law of FrameBack. -/
namespace Go.Proofs.YtfepggdljhiemaaGreatDoor
open Go.RowKit Gw

/-- frames of one epoch, one behind another -/
def catB (e : Nat) : Nat → List (List UInt8) → List UInt8
  | _, [] => []
  | s, l :: ls => frame e (s + 1) l ++ catB e (s + 1) ls
def rowB (e : Nat) : Nat → Nat → List (List UInt8) → List (Nat × Fv)
  | _, _, [] => []
  | s, p, l :: ls => (p, ⟨e, s + 1, l⟩) :: rowB e (s + 1) (p + (22 + l.length)) ls
theorem catB_snoc (e : Nat) (l : List UInt8) : ∀ (s : Nat) (ls : List (List UInt8)), catB e s (ls ++ [l]) = catB e s ls ++ frame e (s + ls.length + 1) l
  | s, [] => by simp [catB]
  | s, x :: ls => by
    rw [List.cons_append]
    unfold catB
    rw [catB_snoc e l (s + 1) ls, List.append_assoc, List.length_cons, show s + 1 + ls.length + 1 = s + (ls.length + 1) + 1 by omega]
theorem rowB_len (e : Nat) : ∀ (s p : Nat) (ls : List (List UInt8)), (rowB e s p ls).length = ls.length
  | _, _, [] => rfl
  | s, p, x :: ls => by unfold rowB; rw [List.length_cons, rowB_len e (s + 1) _ ls, List.length_cons]
theorem rowB_end (e : Nat) : ∀ (s p : Nat) (ls : List (List UInt8)), endF (rowB e s p ls) p = p + (catB e s ls).length
  | _, _, [] => rfl
  | s, p, x :: ls => by
    unfold rowB
    rw [endF_cons]
    dsimp only
    rw [rowB_end e (s + 1) _ ls]
    show _ = p + (frame e (s + 1) x ++ catB e (s + 1) ls).length
    rw [List.length_append, frame_len]
    omega
theorem rowS_cat {e : Nat} (he : e < 18446744073709551616) (T : List UInt8) : ∀ (ls : List (List UInt8)) (P : List UInt8) (s : Nat), (∀ l ∈ ls, l.length ≤ 32) → s + ls.length < 18446744073709551616 →
    stepF (P ++ (catB e s ls ++ T)) e (s + ls.length) (P.length + (catB e s ls).length) = false → rowS (P ++ (catB e s ls ++ T)) e s P.length = rowB e s P.length ls
  | [], P, s, _, _, h => by
    have h' : stepF (P ++ (catB e s [] ++ T)) e s P.length = false := h
    rw [rowS_no h']; rfl
  | x :: ls, P, s, hl, hs, h => by
    have hx := hl x (by simp)
    rw [List.length_cons] at hs h
    have hg := getF_of he (show s + 1 < 18446744073709551616 by omega) hx (catB e (s + 1) ls ++ T)
    have e0 : (P ++ (catB e s (x :: ls) ++ T)).drop P.length = frame e (s + 1) x ++ (catB e (s + 1) ls ++ T) := by
      rw [List.drop_left]
      show frame e (s + 1) x ++ catB e (s + 1) ls ++ T = _
      rw [List.append_assoc]
    have hst : stepF (P ++ (catB e s (x :: ls) ++ T)) e s P.length = true := by
      unfold stepF
      rw [e0, hg.1, hg.2.1]
      simp
      omega
    have hn : numF ((P ++ (catB e s (x :: ls) ++ T)).drop P.length) = 22 + x.length := by
      unfold numF
      rw [e0, if_pos hg.1, hg.2.2]
    have e1 : P ++ (catB e s (x :: ls) ++ T) = (P ++ frame e (s + 1) x) ++ (catB e (s + 1) ls ++ T) := by
      show P ++ ((frame e (s + 1) x ++ catB e (s + 1) ls) ++ T) = _
      simp only [List.append_assoc]
    have e2 : (P ++ frame e (s + 1) x).length = P.length + (22 + x.length) := by rw [List.length_append, frame_len]
    have ih := rowS_cat he T ls (P ++ frame e (s + 1) x) (s + 1) (fun l h => hl l (by simp [h])) (by omega)
    rw [← e1, e2] at ih
    rw [rowS_yes hst, hn, e0, hg.2.1]
    unfold rowB
    rw [ih (by
      rw [← h, show s + 1 + ls.length = s + (ls.length + 1) by omega]
      congr 1
      show _ = P.length + (frame e (s + 1) x ++ catB e (s + 1) ls).length
      rw [List.length_append, frame_len]
      omega)]
end Go.Proofs.YtfepggdljhiemaaGreatDoor

/-! FrameBack: its walk. -/
namespace Go.Proofs.YtfepggdljhiemaaGreatDoor
open Go.RowKit Gw

/-- rows of bytes, readable -/
def RowsF (w : World) (v : Value) (L : List (Value × List UInt8)) : Prop := Sl w 1 v L.length (L.map (·.1)) ∧ ∀ p ∈ L, Bs w p.1 p.2
theorem RowsF.ext {w w' : World} {v : Value} {L : List (Value × List UInt8)} (h : RowsF w v L) (hm : Mod [] w w') : RowsF w' v L := ⟨Sl.ext h.1 hm, fun p hp => (h.2 p hp).ext hm⟩
theorem RowsF.nil (w : World) : RowsF w (.slice none 0 0) [] := ⟨Sl.nil w 1, fun _ h => nomatch h⟩
theorem RowsF.at {w : World} {n cap : Nat} {ao : Option Addr} {L : List (Value × List UInt8)} (h : RowsF w (.slice ao n cap) L) {i : Nat} (hi : i < L.length) :
    ∃ g o, ao = some ⟨g, o, none⟩ ∧ w.cell? ⟨g, o + i, none⟩ = some L[i].1 ∧ Bs w L[i].1 L[i].2 := by
  have hne : L.map (·.1) ≠ [] := fun h0 => by have := congrArg List.length h0; simp at this; rw [this] at hi; simp at hi
  obtain ⟨b, o, c, hv, _, _, hc⟩ := h.1.at hne
  injection hv with e1 e2 e3
  exact ⟨b, o, e1, hc i _ (by simp [hi]), h.2 _ (List.getElem_mem hi)⟩
/-- what the loop of FrameBack keeps -/
structure BkF (w wr : World) (e s : Nat) (av wv pv : Value) (ls : List (List UInt8)) (L : List Fi) : Prop where
  d : L.map Fi.d = rowB e s 0 ls
  l : ∀ l ∈ ls, l.length ≤ 32
  sm : s + ls.length < 18446744073709551616
  c : ls.length ≤ 300
  all : Ob wr av (catB e s ls)
  an : ∀ k ∈ blks av, w.heap.size ≤ k
  fr : Frs wr w.heap.size wv L
  pl : Ow wr 3 1 pv L.length (iN (L.map Fi.p))
  pn : ∀ k ∈ blks pv, w.heap.size ≤ k
  m : Mod [] w wr
  ap : ∀ x ∈ L, ∀ k ∈ blks x.v, k ∉ blks av
theorem BkF.ext {w wr wx : World} {e s : Nat} {av wv pv : Value} {ls : List (List UInt8)} {L : List Fi} (h : BkF w wr e s av wv pv ls L) (hm : Mod [] wr wx) : BkF w wx e s av wv pv ls L :=
  ⟨h.d, h.l, h.sm, h.c, Ob.ext h.all hm, h.an, h.fr.ext hm, h.pl.ext hm, h.pn, h.m.ext hm, h.ap⟩
theorem BkF.n {w wr : World} {e s : Nat} {av wv pv : Value} {ls : List (List UInt8)} {L : List Fi} (h : BkF w wr e s av wv pv ls L) : L.length = ls.length := by
  have := congrArg List.length h.d
  rwa [List.length_map, rowB_len] at this
theorem flat_take3 : ∀ (k : Nat) (L : List Fi), (L.flatMap Fi.cells).take (k * 3) = (L.take k).flatMap Fi.cells
  | 0, _ => by simp
  | k + 1, [] => by simp
  | k + 1, x :: L => by
    rw [List.take_succ_cons, List.flatMap_cons, List.flatMap_cons, ← flat_take3 k L, show (k + 1) * 3 = k * 3 + 3 by omega]
    rfl
theorem FrsR.take {w : World} {ao : Option Addr} {n cap k : Nat} {L : List Fi} (h : FrsR w (.slice ao n cap) L) (hn : n = L.length) (hk : k ≤ n) (hc : k ≤ cap) : FrsR w (.slice ao k cap) (L.take k) := by
  subst hn
  have h2 := Sl.cut (lo := 0) (hi := k) (m := cap) h.1 (Nat.zero_le _) hk hc (Nat.le_refl _)
  have hl : (L.take k).length = k := by rw [List.length_take]; omega
  refine ⟨?_, fun x hx => h.2 x (List.mem_of_mem_take hx)⟩
  rw [hl]
  have e : (L.take k).flatMap Fi.cells = ((L.flatMap Fi.cells).drop (0 * 3)).take ((k - 0) * 3) := by rw [Nat.zero_mul, List.drop_zero, Nat.sub_zero, flat_take3]
  rw [e]
  have e2 : ao.map (·.add (0 * 3)) = ao := by cases ao <;> simp [Addr.add]
  rw [e2] at h2
  simpa using h2
end Go.Proofs.YtfepggdljhiemaaGreatDoor
