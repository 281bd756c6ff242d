import Derived.Test.YtboigcnpamldlaaDoorCrB
import Derived.Test.YtboigcnpamldlaaDoorOctG
import Derived.Deep.DeepCutAuto
/-! Frames: Size, Put. -/
set_option linter.unusedVariables false
set_option linter.unusedSimpArgs false
set_option maxRecDepth 100000
namespace Go.Proofs.YtboigcnpamldlaaDoor
open Go.RowKit Gw

/-- a frame's bytes -/
def frB (e s : Nat) (l : List UInt8) : List UInt8 := low l.length 2 ++ low e 8 ++ low s 8 ++ l
def frame (e s : Nat) (l : List UInt8) : List UInt8 := frB e s l ++ low (crcS (frB e s l)) 4
def sizeF (n : Int) : Int := if n < 0 ∨ 32 < n then 0 else 22 + n
def PutF (e s : Nat) (l : List UInt8) (w : World) (en : Ending) (w' : World) : Prop :=
  ∃ v, en = .returned (.tuple #[v, .int .i64 (if 32 < l.length then 3 else 0)]) ∧ Ob w' v (if 32 < l.length then [] else frame e s l) ∧ New w v ∧ Mod [] w w'
theorem size_any (n : Int) (w : World) : Calls Tryd.prog 17 #[.int .i64 n] w fun e w' => e = .returned (.int .i64 (sizeF n)) ∧ w = w' := by
  by_cases h : n < 0
  · rw [show sizeF n = 0 from if_pos (.inl h)]
    go_enter Tryd.func17, Tryd.ntmps17
    go_wp2_with fail
    go_ret
    exact ⟨rfl, rfl⟩
  · by_cases h2 : 32 < n
    · rw [show sizeF n = 0 from if_pos (.inr h2)]
      have h0 : 0 ≤ n := by omega
      go_enter Tryd.func17, Tryd.ntmps17
      go_wp2_with fail
      go_ret
      exact ⟨rfl, rfl⟩
    · rw [show sizeF n = 22 + n from if_neg (by omega)]
      have h0 : 0 ≤ n := by omega
      have h3 : n ≤ 32 := by omega
      go_enter Tryd.func17, Tryd.ntmps17
      go_wp2_with fail
      go_ret
      exact ⟨rfl, rfl⟩
theorem rsize_any (n : Int) (w : World) : Calls Tryd.prog 18 #[.int .i64 n] w fun e w' => e = .returned (.int .i64 (sizeF n)) ∧ w = w' := by
  by_cases h : n < 0
  · rw [show sizeF n = 0 from if_pos (.inl h)]
    go_enter Tryd.func18, Tryd.ntmps18
    go_wp2_with fail
    go_ret
    exact ⟨rfl, rfl⟩
  · by_cases h2 : 32 < n
    · rw [show sizeF n = 0 from if_pos (.inr h2)]
      have h0 : 0 ≤ n := by omega
      go_enter Tryd.func18, Tryd.ntmps18
      go_wp2_with fail
      go_ret
      exact ⟨rfl, rfl⟩
    · rw [show sizeF n = 22 + n from if_neg (by omega)]
      have h0 : 0 ≤ n := by omega
      have h3 : n ≤ 32 := by omega
      go_enter Tryd.func18, Tryd.ntmps18
      go_wp2_with fail
      go_ret
      exact ⟨rfl, rfl⟩
set_option maxHeartbeats 4000000 in
theorem fput_any (e s : Nat) (l : List UInt8) (v : Value) (w : World) (hv : Bs w v l) (he : e < 18446744073709551616) (hs : s < 18446744073709551616) (hT : TabC w) :
    Calls Tryd.prog 12 #[.agg #[.int .u64 (e : Nat), .int .u64 (s : Nat), v]] w (PutF e s l w) := by
  obtain ⟨ao, cap, rfl, hc1, hc2⟩ := hv.form
  unfold PutF
  by_cases h32 : 32 < l.length
  · rw [if_pos h32, if_pos h32]
    have y1 : (32 : Int) < l.length := by omega
    go_enter Tryd.func12, Tryd.ntmps12
    go_wp2_with (with_reducible refine st_box ?_)
    refine StopOp.go rfl fun K hK => ?_
    refine wp_box (v := .agg #[.int .u64 (e : Nat), .int .u64 (s : Nat), .slice ao l.length cap]) (by rfl) ?_
    intro g w1 hg1 hg2 hm1 hB1
    simp only [put_some, List.set_cons_succ, List.set_cons_zero]
    refine hK _ _ ?_
    clear hK K
    have hB : Blk w1 g 25 [.int .u64 (e : Nat), .int .u64 (s : Nat), .slice ao l.length cap] := hB1
    have b2 := hB.cell' (i := 2) rfl
    go_wp2_with fail
    go_ret2
    exact ⟨_, rfl, Ob.nil _, by simp [New, blks], hm1⟩
  · rw [if_neg h32, if_neg h32]
    have y1 : (l.length : Int) ≤ 32 := by omega
    have z1 : IntKind.u16.wrap (l.length : Int) = l.length := by rw [IntKind.wrap_u16]; omega
    obtain ⟨B, hBb⟩ : ∃ B, B = frB e s l := ⟨_, rfl⟩
    have hBl : B.length ≤ 100 := by rw [hBb]; unfold frB; simp only [List.length_append, low_length]; omega
    have hF : frame e s l = B ++ low (crcS B) 4 := by rw [hBb]; rfl
    have hcl := crcS_lt B
    unfold frB at hBb
    have HBB := Lib.hid hBb
    have HF := Lib.hid hF
    obtain ⟨FR, hFR⟩ : ∃ x, x = frame e s l := ⟨_, rfl⟩
    rw [← hFR] at HF ⊢
    clear hBb hF hFR
    obtain ⟨cs, hcs⟩ : ∃ x, x = crcS B := ⟨_, rfl⟩
    rw [← hcs] at hcl HF
    have HCS := Lib.hid hcs
    clear hcs
    go_enter Tryd.func12, Tryd.ntmps12
    go_wp2_with (with_reducible refine st_box ?_)
    refine StopOp.go rfl fun K hK => ?_
    refine wp_box (v := .agg #[.int .u64 (e : Nat), .int .u64 (s : Nat), .slice ao l.length cap]) (by rfl) ?_
    intro g w1 hg1 hg2 hm1 hB1
    simp only [put_some, List.set_cons_succ, List.set_cons_zero]
    refine hK _ _ ?_
    clear hK K
    have hB : Blk w1 g 25 [.int .u64 (e : Nat), .int .u64 (s : Nat), .slice ao l.length cap] := hB1
    have b2 := hB.cell' (i := 2) rfl
    have hv1 := hv.ext hm1
    go_wp2_with (with_reducible refine st_alloc ?_)
    refine StopOp.go rfl fun K hK => ?_
    refine wp_alloc zero_writer ?_
    intro p w2 hp1 hp2 hm2 hP2
    simp only [put_some, List.set_cons_succ, List.set_cons_zero]
    refine hK _ _ ?_
    clear hK K
    have hW2 := Wr.new hP2
    have hM2 := hm1.ext hm2
    have hB2 := hB.ext hm2
    have c2 := hB2.cell' (i := 2) rfl
    have c0 := hB2.cell' (i := 0) rfl
    have c1 := hB2.cell' (i := 1) rfl
    have hgp : g ≠ p := by omega
    have hpw : w.heap.size ≤ p := by have := hm1.size; omega
    clear b2 hm1 hm2 hP2 hB1
    go_wp2_with (first
                  | (go_at_call 35; (with_reducible refine (two_any p _ _ _ hW2 (by omega) (by omega) (by simp)).mono ?_); rintro e w3 ⟨rfl, hW3, hm3⟩; have hB3 := hB2.mod hm3 (by simpa using hgp); have x0 := hB3.cell' (i := 0) rfl; have hM3 := hM2.fresh hm3 (by simpa using hpw))
                  | (go_at_call 36; (with_reducible refine (eight_any p _ e _ hW3 (by omega) (by omega) (by simp [low_length])).mono ?_); rintro e w4 ⟨rfl, hW4, hm4⟩; have hB4 := hB3.mod hm4 (by simpa using hgp); have y1 := hB4.cell' (i := 1) rfl; have hM4 := hM3.fresh hm4 (by simpa using hpw))
                  | (go_at_call 36; (with_reducible refine (eight_any p _ s _ hW4 (by omega) (by omega) (by simp [low_length])).mono ?_); rintro e w5 ⟨rfl, hW5, hm5⟩; have hB5 := hB4.mod hm5 (by simpa using hgp); have u2 := hB5.cell' (i := 2) rfl; have hM5 := hM4.fresh hm5 (by simpa using hpw); have hv5 := hv.ext hM5)
                  | (go_at_call 37; (with_reducible refine (put_any p _ l _ _ hW5 hv5 (by simp [low_length]; omega)).mono ?_); rintro e w6 ⟨rfl, hW6, hm6⟩; have hM6 := hM5.fresh hm6 (by simpa using hpw); have hW6' : Wr w6 p B := (by rw [HBB.out]; simpa using hW6); have hT6 := hT.ext hM6)
                  | (go_at_call 40; (with_reducible refine (out_any p B _ hW6' (by omega)).mono ?_); rintro e w7 ⟨v7, rfl, ho7, hn7, hm7⟩; have hb7 := Ob.bs ho7; have hT7 := hT6.ext hm7; have hW7 := hW6'.ext hm7)
                  | (go_at_call 39; refine (sum_any B v7 _ hb7 hT7).mono ?_; rintro e w8 ⟨he8, hw8⟩; subst hw8; rw [← HCS.out] at he8; subst he8)
                  | (go_at_call 38; (with_reducible refine (four_any p B cs _ hW7 (by omega) (by omega) (by omega)).mono ?_); rintro e w9 ⟨rfl, hW9, hm9⟩; have hW9' : Wr w9 p FR := (by rw [HF.out]; simpa using hW9); have hM9 := (hM6.ext hm7).fresh hm9 (by simpa using hpw))
                  | (go_at_call 40; (with_reducible refine (out_any p FR _ hW9' (by rw [HF.out, List.length_append, low_length]; omega)).mono ?_); rintro e w10 ⟨v10, rfl, ho10, hn10, hm10⟩))
    go_ret2
    have s9 := hM9.size
    exact ⟨v10, rfl, ho10, fun k hk => Nat.le_trans s9 (hn10 k hk), hM9.ext hm10⟩
end Go.Proofs.YtboigcnpamldlaaDoor
