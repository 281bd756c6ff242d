import Derived.Test.YtdmnogmhnhjdgaaGreatFlatB
import Derived.Test.YtdmnogmhnhjdgaaGreatFlatZ
set_option linter.unusedVariables false
set_option linter.unusedSimpArgs false
set_option maxRecDepth 100000
namespace Go.Proofs.YtdmnogmhnhjdgaaGreat
open Go.RowKit Gw

def bagCells (v : Value) : List Value := [.slice none 0 0, .slice none 0 0, .slice none 0 0, .slice none 0 0, v, .slice none 0 0, .slice none 0 0, .slice none 0 0, .slice none 0 0, .slice none 0 0, .slice none 0 0, .slice none 0 0, .slice none 0 0, .slice none 0 0, .slice none 0 0, .slice none 0 0, .slice none 0 0, .slice none 0 0, .slice none 0 0]
theorem ne_bag : 32 ≠ 107 := by decide
theorem ne_bag2 : 5 ≠ 107 := by decide
theorem rc_succ (V : Nat → Value) (k : Nat) : rc V (k + 1) = rc V k ++ [V k] := by simp [rc, List.range_succ]

set_option maxHeartbeats 2000000 in
theorem putBytes_any (b k : Nat) (v : Value) (ao : Option Addr) (n cap : Nat) (xs : List Value) (w : World) (hB : Blk w b 107 (bagCells v)) (ho : Ow w 32 1 v k xs) (hk : k ≤ 1048576) :
    Calls Tryz.prog 70 #[.pointer (some ⟨b, 0, none⟩), .slice ao n cap] w fun e w' => ∃ v', e = .returned (.tuple #[]) ∧ Blk w' b 107 (bagCells v') ∧ Ow w' 32 1 v' (k + 1) (xs ++ [.slice ao n cap]) ∧ Mod (b :: blks v) w w' ∧ (∀ y ∈ blks v', y ∈ blks v ∨ w.heap.size ≤ y) := by
  obtain ⟨aov, capv, rfl, _, _⟩ := ho.sl.form
  have c4 := hB.cell' (i := 4) rfl
  go_enter Tryz.func70, Tryz.ntmps70
  go_wp2_with (with_reducible refine st_bslice ?_)
  refine StopOp.go rfl fun K hK => ?_
  refine wp_bslice stRow [.slice ao n cap] rfl (by decide) (by rfl) (by simp [Value.cells]) ?_
  intro q w1 hq1 hq2 hm1 hB1
  simp only [put_some, List.set_cons_succ, List.set_cons_zero]
  refine hK _ _ ?_
  clear hK K
  have hs1 : Sl w1 1 (.slice (some ⟨q, 0, none⟩) 1 1) 1 [.slice ao n cap] := (Ow.of_blk (rest := []) hB1 (Nat.le_refl _) (by omega) rfl rfl : Ow w1 32 1 (.slice (some ⟨q, 0, none⟩) 1 1) 1 [.slice ao n cap]).sl
  have ho1 := ho.ext hm1
  go_wp2_with (with_reducible refine st_append ?_)
  refine StopOp.go rfl fun K hK => ?_
  refine wp_append_ow stRow (by rfl) (by rfl) ho1 hs1 (by simp [Value.oneCell']) (by omega) (by omega) ?_
  intro v2 w2 ho2 hm2 hb2
  simp only [put_some, List.set_cons_succ, List.set_cons_zero]
  refine hK _ _ ?_
  clear hK K
  have hB2 := (hB.ext hm1).mod hm2 (Ow.ne ho1 (hB.ext hm1) ne_bag)
  go_wp2_with (with_reducible refine st_store ?_)
  refine StopOp.go rfl fun K hK => ?_
  refine wp_store1 (by kernel_rfl) (by rfl) (by rfl) ho2.sl.one hB2 (by simp [bagCells]) ?_
  intro w3 hm3 hB3
  refine hK _ _ ?_
  clear hK K
  go_wp2_with fail
  go_end0
  have s1 := hm1.size
  refine ⟨v2, rfl, hB3, Ow.mod ho2 hm3 (fun y hy hyb => ?_), ((hm1.weak (by simp)).trans (hm2.weak fun g hg => .inl (List.mem_cons_of_mem _ hg))).trans (hm3.weak fun g hg => .inl (by have : g = b := (by simpa using hg); simp [this])), fun y hy => (hb2 y hy).imp id fun h => by omega⟩
  have : y = b := by simpa using hyb
  exact Ow.ne ho2 hB2 ne_bag (this ▸ hy)

set_option maxRecDepth 1000000 in
set_option maxHeartbeats 8000000 in
theorem bagApart_any (b : Nat) (V : Nat → Value) (c : Nat → List UInt8) (n : Nat → Nat) (N : Nat) (lv : Value) (w0 : World) (hB : Blk w0 b 107 (bagCells lv)) (hl : Ow w0 32 1 lv N (rc V N)) (hr : RS w0 N V c) (hd : Dj N V) (hN : N ≤ 1048576) (hn : ∀ a, (c a).length = n a) (hn2 : ∀ a, a < N → n a ≤ 140737488355000) :
    Calls Tryz.prog 71 #[.pointer (some ⟨b, 0, none⟩)] w0 fun e w' => e = .returned (.bool true) ∧ Mod (LB V N) w0 w' := by
  obtain ⟨lao, lcap, rfl, hlc, hlc2⟩ := hl.sl.form
  have d0 := hB.cell' (i := 0) rfl
  have hM0 : Mod (LB V N) w0 w0 := Mod.refl _ _
  have hE0 : Mod [] w0 w0 := Mod.refl _ _
  have hBn : b ∉ LB V N := fun h => by
    obtain ⟨a, ha, hb⟩ := of_LB h
    exact Ow.ne (hr a ha) hB ne_bag2 hb
  go_enter Tryz.func71, Tryz.ntmps71
  go_wp2_with (first
                | (go_at_call 88; refine (flatLimbs_nil _).mono ?_; rintro e w1 ⟨rfl, hx1⟩; have hE1 := hE0.ext hx1; have hM1 := hM0.ext hx1; have d1 := (hB.mod hM1 hBn).cell' (i := 1) rfl)
                | (go_at_call 89; refine (flatInts_nil _).mono ?_; rintro e w2 ⟨rfl, hx2⟩; have hE2 := hE1.ext hx2; have hM2 := hM1.ext hx2; have d2 := (hB.mod hM2 hBn).cell' (i := 2) rfl)
                | (go_at_call 90; refine (flatLongs_nil _).mono ?_; rintro e w3 ⟨rfl, hx3⟩; have hE3 := hE2.ext hx3; have hM3 := hM2.ext hx3; have d3 := (hB.mod hM3 hBn).cell' (i := 3) rfl)
                | (go_at_call 91; refine (flatTexts_nil _).mono ?_; rintro e w4 ⟨rfl, hx4⟩; have hE4 := hE3.ext hx4; have hM4 := hM3.ext hx4; have d4 := (hB.mod hM4 hBn).cell' (i := 4) rfl)
                | (go_at_call 92; refine (flatBytes_any V c n N _ _ (hl.ext hE4) (hr.ext hE4) hd hN hn hn2).mono ?_; rintro e w5 ⟨rfl, hx5⟩; have hM5 := hM4.trans hx5; have d5 := (hB.mod hM5 hBn).cell' (i := 5) rfl)
                | (go_at_call 93; refine (flatReals_nil _).mono ?_; rintro e w6 ⟨rfl, hx6⟩; have hM6 := hM5.ext hx6; have d6 := (hB.mod hM6 hBn).cell' (i := 6) rfl)
                | (go_at_call 94; refine (flatFates_nil _).mono ?_; rintro e w7 ⟨rfl, hx7⟩; have hM7 := hM6.ext hx7; have d7 := (hB.mod hM7 hBn).cell' (i := 7) rfl)
                | (go_at_call 95; refine (flatSpans_nil _).mono ?_; rintro e w8 ⟨rfl, hx8⟩; have hM8 := hM7.ext hx8; have d8 := (hB.mod hM8 hBn).cell' (i := 8) rfl)
                | (go_at_call 96; refine (flatFrames_nil _).mono ?_; rintro e w9 ⟨rfl, hx9⟩; have hM9 := hM8.ext hx9; have d9 := (hB.mod hM9 hBn).cell' (i := 9) rfl)
                | (go_at_call 97; refine (flatCabins_nil _).mono ?_; rintro e w10 ⟨rfl, hx10⟩; have hM10 := hM9.ext hx10; have d10 := (hB.mod hM10 hBn).cell' (i := 10) rfl)
                | (go_at_call 98; refine (flatRecords_nil _).mono ?_; rintro e w11 ⟨rfl, hx11⟩; have hM11 := hM10.ext hx11; have d11 := (hB.mod hM11 hBn).cell' (i := 11) rfl)
                | (go_at_call 99; refine (flatBookings_nil _).mono ?_; rintro e w12 ⟨rfl, hx12⟩; have hM12 := hM11.ext hx12; have d12 := (hB.mod hM12 hBn).cell' (i := 12) rfl)
                | (go_at_call 100; refine (flatRequests_nil _).mono ?_; rintro e w13 ⟨rfl, hx13⟩; have hM13 := hM12.ext hx13; have d13 := (hB.mod hM13 hBn).cell' (i := 13) rfl)
                | (go_at_call 101; refine (flatReplies_nil _).mono ?_; rintro e w14 ⟨rfl, hx14⟩; have hM14 := hM13.ext hx14; have d14 := (hB.mod hM14 hBn).cell' (i := 14) rfl)
                | (go_at_call 102; refine (flatFares_nil _).mono ?_; rintro e w15 ⟨rfl, hx15⟩; have hM15 := hM14.ext hx15; have d15 := (hB.mod hM15 hBn).cell' (i := 15) rfl)
                | (go_at_call 103; refine (flatWaits_nil _).mono ?_; rintro e w16 ⟨rfl, hx16⟩; have hM16 := hM15.ext hx16; have d16 := (hB.mod hM16 hBn).cell' (i := 16) rfl)
                | (go_at_call 104; refine (flatLines_nil _).mono ?_; rintro e w17 ⟨rfl, hx17⟩; have hM17 := hM16.ext hx17; have d17 := (hB.mod hM17 hBn).cell' (i := 17) rfl)
                | (go_at_call 105; refine (flatTurns_nil _).mono ?_; rintro e w18 ⟨rfl, hx18⟩; have hM18 := hM17.ext hx18; have d18 := (hB.mod hM18 hBn).cell' (i := 18) rfl)
                | (go_at_call 106; refine (flatCommands_nil _).mono ?_; rintro e w19 ⟨rfl, hx19⟩; have hM19 := hM18.ext hx19))
  go_ret
  exact ⟨rfl, hM19⟩

theorem zero_bag : bagCells (.slice none 0 0) = List.replicate 19 (.slice none 0 0) := rfl
set_option maxHeartbeats 4000000 in
theorem apartBytes_any (V : Nat → Value) (c : Nat → List UInt8) (n : Nat → Nat) (N : Nat) (lv : Value) (w : World) (hl : Sl w 1 lv N (rc V N)) (hr : RS w N V c) (hd : Dj N V) (hN : N ≤ 1048576) (hn : ∀ a, (c a).length = n a) (hn2 : ∀ a, a < N → n a ≤ 140737488355000) :
    Calls Tryz.prog 36 #[lv] w fun e w' => e = .returned (.bool true) ∧ Mod (LB V N) w w' := by
  obtain ⟨lao, lcap, rfl, hlc, hlc2⟩ := hl.form
  go_enter Tryz.func36, Tryz.ntmps36
  go_wp2_with (with_reducible refine st_box ?_)
  refine StopOp.go rfl fun K hK => ?_
  refine wp_box (v := .agg #[.slice none 0 0, .slice none 0 0, .slice none 0 0, .slice none 0 0, .slice none 0 0, .slice none 0 0, .slice none 0 0, .slice none 0 0, .slice none 0 0, .slice none 0 0, .slice none 0 0, .slice none 0 0, .slice none 0 0, .slice none 0 0, .slice none 0 0, .slice none 0 0, .slice none 0 0, .slice none 0 0, .slice none 0 0]) (by rfl) ?_
  intro b w1 hb1 hb2 hm1 hB1
  simp only [put_some, List.set_cons_succ, List.set_cons_zero]
  refine hK _ _ ?_
  clear hK K
  have hB1' : Blk w1 b 107 (bagCells (.slice none 0 0)) := hB1
  clear hB1
  go_wp2_with fail
  go_loopw [4] (fun i wr => ∃ (k : Nat) (v : Value), k ≤ N ∧ i = .int .i64 k ∧ Mod [] w wr ∧ Blk wr b 107 (bagCells v) ∧ Ow wr 32 1 v k (rc V k) ∧ (∀ y ∈ blks v, w.heap.size ≤ y)) (fun i _ => N - (intOf i).toNat)
  case atStart => exact ⟨0, _, by omega, rfl, hm1, hB1', Ow.nil _ _ _, by simp [blks]⟩
  case round =>
    obtain ⟨k, v, hk, rfl, hm2, hB2, ho2, hy2⟩ := hrel
    by_cases hlt : k < N
    · have y1 : (k : Int) < N := by omega
      have hl2 := hl.ext hm2
      obtain ⟨lb, lo, lc, he, _, _, hcell⟩ := Sl.at hl2 (fun h => by have := congrArg List.length h; rw [rc_length] at this; simp at this; omega)
      injection he with he1 he2 he3
      subst he1 he3
      have hc := hcell k _ (rc_at V hlt)
      obtain ⟨ao, cap, hv, hv1, hv2⟩ := (hr k hlt).n (hn k)
      rw [hv] at hc
      have Hv := Lib.hid hv
      clear hv hcell
      obtain ⟨m, hmj⟩ : ∃ m, m = n k := ⟨_, rfl⟩
      rw [← hmj] at hc Hv hv1
      clear hmj
      go_wp2_with (go_at_call 70; refine (putBytes_any b k v ao m cap _ _ hB2 ho2 (by omega)).mono ?_; rintro e w3 ⟨v3, rfl, hB3, ho3, hm3, hy3⟩)
      go_roundw
      case rel =>
        have s2 := hm2.size
        refine ⟨k + 1, v3, by omega, by go_num, hm2.fresh hm3 (by simpa using ⟨hb1, hy2⟩), hB3, by rw [rc_succ, Hv.out]; exact ho3, fun y hy => (hy3 y hy).elim (hy2 y) fun h => by omega⟩
      case measure => simp [intOf]; omega
    · obtain rfl : k = N := by omega
      obtain ⟨aov, capv, rfl, _, _⟩ := ho2.sl.form
      go_wp2_with (go_at_call 71; refine (bagApart_any b V c n k _ _ hB2 ho2 (hr.ext hm2) hd hN hn hn2).mono ?_; rintro e w4 ⟨rfl, hm4⟩)
      go_ret
      exact ⟨rfl, (hm2.weak (by simp)).trans hm4⟩
end Go.Proofs.YtdmnogmhnhjdgaaGreat
