import Derived.Test.YtboigcnpamldlaaDoorFrL
import Derived.Deep.DeepCutAuto
/-! Frames: Get. -/
set_option linter.unusedVariables false
set_option linter.unusedSimpArgs false
set_option maxRecDepth 100000
namespace Go.Proofs.YtboigcnpamldlaaDoor
open Go.RowKit Gw

/-! a number that is there -/
theorem tkn_drop (b : List UInt8) (p k : Nat) (h : p + k ≤ b.length) : tkGot (b.drop p) 0 k = (b.drop p).take k ∧ got (b.drop p) 0 k = nb b p k ∧ tkRest (b.drop p) 0 k = b.drop (p + k) ∧ tkErr (b.drop p) 0 k = 0 := by
  have h1 : (0 : Int) ≤ (k : Int) ∧ (k : Int) ≤ ((b.drop p).length : Int) := by rw [List.length_drop]; omega
  have e : tkGot (b.drop p) 0 k = (b.drop p).take k := by unfold tkGot; rw [if_pos ⟨rfl, h1.1, h1.2⟩, Int.toNat_natCast]
  refine ⟨e, ?_, ?_, ?_⟩
  · unfold got nb; rw [e]
  · unfold tkRest; rw [if_pos rfl, if_pos h1, Int.toNat_natCast, List.drop_drop]
  · unfold tkErr; rw [if_pos rfl, if_neg (by omega), if_neg (by omega)]
def NextN (b : List UInt8) (r q p k : Nat) (kd : IntKind) (w : World) (e : Ending) (w' : World) : Prop := e = .returned (.int kd (nb b p k)) ∧ Rd w' r q (b.drop (p + k)) 0 ∧ Mod [q] w w'
theorem nextN_of {b : List UInt8} {r q p k : Nat} {kd : IntKind} {w : World} (h : p + k ≤ b.length) {e : Ending} {w' : World} (he : e = .returned (.int kd (got (b.drop p) 0 k))) (hp : TakePost w r q (b.drop p) 0 k w') : NextN b r q p k kd w e w' := by
  obtain ⟨_, t1, t2, t3⟩ := tkn_drop b p k h
  unfold TakePost at hp
  rw [t2, t3] at hp
  exact ⟨by rw [he, t1], hp⟩
theorem nn2 (r q : Nat) (b : List UInt8) (p : Nat) (w : World) (h : Rd w r q (b.drop p) 0) (hp : p + 2 ≤ b.length) : Calls Tryd.prog 45 #[.pointer (some ⟨r, 0, none⟩)] w (NextN b r q p 2 .u16 w) :=
  (rtwo_any r q _ 0 w h).mono fun e w' ⟨h1, h2⟩ => nextN_of hp h1 h2
theorem nn4 (r q : Nat) (b : List UInt8) (p : Nat) (w : World) (h : Rd w r q (b.drop p) 0) (hp : p + 4 ≤ b.length) : Calls Tryd.prog 49 #[.pointer (some ⟨r, 0, none⟩)] w (NextN b r q p 4 .u32 w) :=
  (rfour_any r q _ 0 w h).mono fun e w' ⟨h1, h2⟩ => nextN_of hp h1 h2
theorem nn8 (r q : Nat) (b : List UInt8) (p : Nat) (w : World) (h : Rd w r q (b.drop p) 0) (hp : p + 8 ≤ b.length) : Calls Tryd.prog 47 #[.pointer (some ⟨r, 0, none⟩)] w (NextN b r q p 8 .u64 w) :=
  (reight_any r q _ 0 w h).mono fun e w' ⟨h1, h2⟩ => nextN_of hp h1 h2
theorem nntake (r q : Nat) (b : List UInt8) (p k : Nat) (w : World) (h : Rd w r q (b.drop p) 0) (hp : p + k ≤ b.length) (hl : b.length ≤ 140737488355328) :
    Calls Tryd.prog 48 #[.pointer (some ⟨r, 0, none⟩), .int .i64 (k : Nat)] w fun e w' => ∃ v, e = .returned v ∧ Ob w' v ((b.drop p).take k) ∧ New w v ∧ Rd w' r q (b.drop (p + k)) 0 ∧ Mod [q] w w' := by
  obtain ⟨t0, _, t2, t3⟩ := tkn_drop b p k hp
  refine (rtake_any r q (b.drop p) 0 k w h (by omega) (by omega) (by rw [List.length_drop]; omega)).mono ?_
  rintro e w' ⟨v, he, ho, hn, hp'⟩
  unfold TakePost at hp'
  rw [t2, t3] at hp'
  rw [t0] at ho
  exact ⟨v, he, ho, hn, hp'⟩
theorem tkRest_len (l : List UInt8) (e n : Int) : (tkRest l e n).length ≤ l.length := by
  unfold tkRest
  split
  · split <;> simp
  · exact Nat.le_refl _
/-- a chain of reads -/
def chE : List UInt8 → Int → List Nat → Int
  | _, e, [] => e
  | l, e, n :: ns => chE (tkRest l e n) (tkErr l e n) ns
theorem tkErr_4 (l : List UInt8) (n : Int) : tkErr l 4 n = 4 := by unfold tkErr; rw [if_neg (by decide)]
theorem chE_4 : ∀ (ns : List Nat) (l : List UInt8), chE l 4 ns = 4
  | [], _ => rfl
  | n :: ns, l => by unfold chE; rw [tkErr_4]; exact chE_4 ns _
theorem chE_short : ∀ (ns : List Nat) (l : List UInt8), l.length < ns.sum → chE l 0 ns = 4
  | [], l, h => by simp at h
  | n :: ns, l, h => by
    unfold chE
    by_cases h1 : l.length < n
    · have e : tkErr l 0 n = 4 := by unfold tkErr; rw [if_pos rfl, if_neg (by omega), if_pos (by omega)]
      rw [e]; exact chE_4 ns _
    · have e : tkErr l 0 n = 0 := by unfold tkErr; rw [if_pos rfl, if_neg (by omega), if_neg (by omega)]
      have e2 : tkRest l 0 n = l.drop n := by unfold tkRest; rw [if_pos rfl, if_pos (by omega), Int.toNat_natCast]
      rw [e, e2]
      exact chE_short ns _ (by rw [List.length_drop]; simp at h; omega)
theorem Bs.pref {w : World} {ao : Option Addr} {n cap k : Nat} {l : List UInt8} (h : Bs w (.slice ao n cap) l) (hn : n = l.length) (hk : k ≤ n) (hc : k ≤ cap) : Bs w (.slice ao k cap) (l.take k) := by
  subst hn
  have h2 := Sl.cut (lo := 0) (hi := k) (m := cap) h (Nat.zero_le _) hk hc (Nat.le_refl _)
  have hl : (l.take k).length = k := by rw [List.length_take]; omega
  unfold Bs
  rw [hl]
  have e : bv (l.take k) = ((bv l).drop (0 * 1)).take ((k - 0) * 1) := by unfold bv; simp
  rw [e]
  have e2 : ao.map (·.add (0 * 1)) = ao := by cases ao <;> simp [Addr.add]
  rw [e2] at h2
  simpa using h2
theorem Ob.nx {w : World} {v : Value} {l : List UInt8} {n : Nat} (h : Ob w v l) (hl : l.length = n) : ∃ ao cap, v = .slice ao n cap ∧ n ≤ cap ∧ cap ≤ 9223372036854775807 := by
  subst hl; exact h.sl.form
/-- what Get tells -/
def GetF (b : List UInt8) (w : World) (e : Ending) (w' : World) : Prop := ∃ v, e = .returned (.tuple #[.agg #[.int .u64 ((getF b).e : Nat), .int .u64 ((getF b).s : Nat), v], .int .i64 (numF b : Nat), .int .i64 (errF b)]) ∧ Ob w' v (getF b).l ∧ New w v ∧ Mod [] w w'
theorem gf_no {b : List UInt8} {n : Int} (h : errF b = n) (hn : n ≠ 0) {w w' : World} {e : Ending} (he : e = .returned (.tuple #[.agg #[.int .u64 0, .int .u64 0, .slice none 0 0], .int .i64 0, .int .i64 n])) (hm : Mod [] w w') : GetF b w e w' := by
  have e1 : getF b = fz := if_neg (by rw [h]; exact hn)
  have e2 : numF b = 0 := if_neg (by rw [h]; exact hn)
  refine ⟨.slice none 0 0, ?_, ?_, by simp [New, blks], hm⟩
  · rw [e1, e2, h]; exact he
  · rw [e1]; exact Ob.nil _
theorem zero_frame : (Tryd.prog.info? 25).map (·.zero) = some (some (.agg #[.int .u64 0, .int .u64 0, .slice none 0 0])) := by kernel_rfl
set_option maxRecDepth 1000000 in
set_option maxHeartbeats 8000000 in
theorem fget_any (b : List UInt8) (v : Value) (w : World) (hb : Bs w v b) (hl : b.length ≤ 140737488355328) (hT : TabC w) : Calls Tryd.prog 20 #[v] w (GetF b w) := by
  obtain ⟨aob, capb, rfl, hc1, hc2⟩ := hb.form
  obtain ⟨m, hm⟩ : ∃ m, m = min b.length 54 := ⟨_, rfl⟩
  have hbC := hb.pref rfl (k := m) (by omega) (by omega)
  obtain ⟨C, hC⟩ : ∃ C, C = b.take m := ⟨_, rfl⟩
  have hCl : C.length = m := by rw [hC, List.length_take]; omega
  rw [← hC] at hbC
  have hnb : ∀ p k, p + k ≤ m → nb C p k = nb b p k := fun p k h => by rw [hC]; exact nb_take _ _ _ _ h
  have HC := Lib.hid hC
  have HCl := Lib.hid hCl
  clear hC
  go_enter Tryd.func20, Tryd.ntmps20
  go_wp2_with (with_reducible refine st_alloc ?_)
  refine StopOp.go rfl fun K hK => ?_
  refine wp_alloc zero_frame ?_
  intro g w1 hg1 hg2 hm1 hB1
  simp only [put_some, List.set_cons_succ, List.set_cons_zero]
  refine hK _ _ ?_
  clear hK K
  go_upto_region 1 with fail
  go_cut [5] (fun x wx => ∃ r q, x = .pointer (some ⟨r, 0, none⟩) ∧ w1.heap.size ≤ r ∧ w1.heap.size ≤ q ∧ Rd wx r q C 0 ∧ Mod [] w1 wx)
  case first =>
    by_cases h54 : b.length ≤ 54
    · have y : (b.length : Int) ≤ 54 := by omega
      rw [show m = b.length by omega] at hbC
      go_wp2_with (go_at_call 44; refine (of_any C _ _ (hbC.ext hm1) (by omega)).mono ?_; rintro e w2 ⟨r, q, rfl, hr, hq, hqr, hR2, hm2⟩)
      go_meet
      exact ⟨r, q, rfl, hr, hq, hR2, hm2⟩
    · have y : (54 : Int) < b.length := by omega
      rw [show m = 54 by omega] at hbC
      go_wp2_with (go_at_call 44; refine (of_any C _ _ (hbC.ext hm1) (by omega)).mono ?_; rintro e w2 ⟨r, q, rfl, hr, hq, hqr, hR2, hm2⟩)
      go_meet
      exact ⟨r, q, rfl, hr, hq, hR2, hm2⟩
  case rest =>
  obtain ⟨r, q, rfl, hr, hq, hR, hm2⟩ := hcut
  obtain ⟨w2, hw2⟩ : ∃ x, x = wc := ⟨_, rfl⟩
  rw [← hw2] at hR hm2 ⊢
  clear hw2
  have hG2 : Blk w2 g 25 [.int .u64 0, .int .u64 0, .slice none 0 0] := Blk.ext hB1 hm2
  have hM2 := hm1.ext hm2
  have hgq : g ≠ q := by omega
  have hqw : w.heap.size ≤ q := by have := hm1.size; omega
  clear hB1 hm2 hbC
  by_cases h2 : b.length < 2
  · have RT := rtwo_any r q C 0
    unfold TakePost at RT
    rw [show tkErr C 0 2 = 4 by unfold tkErr; rw [if_pos rfl, if_neg (by omega), if_pos (by omega)]] at RT
    have gl := got_lt C 0 2
    have gl2 : (got C 0 2 : Int) ≤ 65535 := by omega
    have gl3 : (0 : Int) ≤ got C 0 2 := by omega
    obtain ⟨G, hG⟩ : ∃ G, G = got C 0 2 := ⟨_, rfl⟩
    rw [← hG] at RT gl2 gl3
    clear gl hG hnb hCl
    have hgw := hg1
    go_wp2_with (first
                  | (with_reducible refine st_store ?_)
                  | (go_at_call 45; refine (RT _ hR).mono ?_; rintro e w3 ⟨rfl, hR3, hm3⟩)
                  | (go_at_call 46; refine (err_any r q _ 4 _ hR3).mono ?_; rintro e w4 ⟨rfl, rfl⟩))
    have hG3 := hG2.mod hm3 (by simpa using hgq)
    have hM3 := hM2.fresh hm3 (by simpa using hqw)
    refine StopOp.go rfl fun K hK => ?_
    refine wp_store (u := .agg #[.int .u64 0, .int .u64 0, .slice none 0 0]) (by rfl) (by rfl) (by kernel_rfl) hG3 (by simp [Value.cells]) (by simp [Value.cells, Value.oneCell']) ?_
    intro w90 hm90 hB90
    refine hK _ _ ?_
    clear hK K
    have z0 := hB90.cell' (i := 0) rfl
    have z1 := hB90.cell' (i := 1) rfl
    have z2 := hB90.cell' (i := 2) rfl
    go_wp2_with fail
    exact bodyPost_ret (v := .tuple #[.agg #[.int .u64 0, .int .u64 0, .slice none 0 0], .int .i64 0, .int .i64 4]) (by simp [results, Tryd.results20, go_sem, z0, z1, z2]) rfl (gf_no (by unfold errF; rw [if_pos h2]) (by decide) rfl (hM3.fresh hm90 (by simpa using hgw)))
  have RT := fun w h => nn2 r q C 0 w h (by omega)
  unfold NextN at RT
  rw [hnb 0 2 (by omega)] at RT
  simp only [List.drop_zero, Nat.zero_add] at RT
  have kl := nb_lt b 0 2
  have herr : errF b = if 32 < nb b 0 2 then 80 else if b.length < 22 + nb b 0 2 then 4 else if nb b (18 + nb b 0 2) 4 ≠ crcS (b.take (18 + nb b 0 2)) then 81 else 0 := by unfold errF; rw [if_neg h2]
  have hpar : parF b = ⟨nb b 2 8, nb b 10 8, (b.drop 18).take (nb b 0 2)⟩ := rfl
  have hnum : numF b = if errF b = 0 then 22 + nb b 0 2 else 0 := rfl
  obtain ⟨k, hk⟩ : ∃ k, k = nb b 0 2 := ⟨_, rfl⟩
  rw [← hk] at RT kl herr hpar hnum
  clear hk
  have k1 : (k : Int) ≤ 65535 := by omega
  have k2 : (0 : Int) ≤ k := by omega
  have HERR := Lib.hid herr
  have HPAR := Lib.hid hpar
  have HNUM := Lib.hid hnum
  have HNB := Lib.hid hnb
  clear herr hpar hnum kl hnb
  by_cases h32 : 32 < k
  · have y : (32 : Int) < k := by omega
    have hgw := hg1
    go_wp2_with (first
                  | (with_reducible refine st_store ?_)
                  | (go_at_call 45; refine (RT _ hR).mono ?_; rintro e w3 ⟨rfl, hR3, hm3⟩)
                  | (go_at_call 46; refine (err_any r q _ 0 _ hR3).mono ?_; rintro e w4 ⟨rfl, rfl⟩))
    have hG3 := hG2.mod hm3 (by simpa using hgq)
    have hM3 := hM2.fresh hm3 (by simpa using hqw)
    refine StopOp.go rfl fun K hK => ?_
    refine wp_store (u := .agg #[.int .u64 0, .int .u64 0, .slice none 0 0]) (by rfl) (by rfl) (by kernel_rfl) hG3 (by simp [Value.cells]) (by simp [Value.cells, Value.oneCell']) ?_
    intro w90 hm90 hB90
    refine hK _ _ ?_
    clear hK K
    have z0 := hB90.cell' (i := 0) rfl
    have z1 := hB90.cell' (i := 1) rfl
    have z2 := hB90.cell' (i := 2) rfl
    go_wp2_with fail
    exact bodyPost_ret (v := .tuple #[.agg #[.int .u64 0, .int .u64 0, .slice none 0 0], .int .i64 0, .int .i64 80]) (by simp [results, Tryd.results20, go_sem, z0, z1, z2]) rfl (gf_no (by rw [HERR.out, if_pos h32]) (by decide) rfl (hM3.fresh hm90 (by simpa using hgw)))
  have y32 : (k : Int) ≤ 32 := by omega
  have SZ := fun w => size_any (k : Int) w
  rw [show sizeF (k : Int) = 22 + k from if_neg (by omega)] at SZ
  by_cases hsh : b.length < 22 + k
  · have hch := chE_short [8, 8, k, 4] (C.drop 2) (by rw [List.length_drop]; simp; omega)
    have q8 : ((8 : Nat) : Int) = 8 := rfl
    have q4 : ((4 : Nat) : Int) = 4 := rfl
    simp only [chE, q8, q4] at hch
    clear q8 q4
    have R1 := reight_any r q (C.drop 2) 0
    have b1 := got_lt (C.drop 2) 0 8
    obtain ⟨L1, hL1⟩ : ∃ L, L = tkRest (C.drop 2) 0 8 := ⟨_, rfl⟩
    obtain ⟨e1, he1⟩ : ∃ e, e = tkErr (C.drop 2) 0 8 := ⟨_, rfl⟩
    obtain ⟨g1, hg1'⟩ : ∃ e, e = got (C.drop 2) 0 8 := ⟨_, rfl⟩
    unfold TakePost at R1
    rw [← hL1, ← he1, ← hg1'] at R1
    rw [← hL1, ← he1] at hch
    have l1 : L1.length ≤ b.length := by rw [hL1]; exact Nat.le_trans (tkRest_len _ _ _) (by rw [List.length_drop]; omega)
    clear hL1 he1 hg1' b1
    have R2 := reight_any r q L1 e1
    obtain ⟨L2, hL2⟩ : ∃ L, L = tkRest L1 e1 8 := ⟨_, rfl⟩
    obtain ⟨e2, he2⟩ : ∃ e, e = tkErr L1 e1 8 := ⟨_, rfl⟩
    obtain ⟨g2, hg2'⟩ : ∃ e, e = got L1 e1 8 := ⟨_, rfl⟩
    unfold TakePost at R2
    rw [← hL2, ← he2, ← hg2'] at R2
    rw [← hL2, ← he2] at hch
    have l2 : L2.length ≤ b.length := by rw [hL2]; exact Nat.le_trans (tkRest_len _ _ _) l1
    clear hL2 he2 hg2'
    have R3 := fun w h => rtake_any r q L2 e2 k w h (by omega) (by omega) (by omega)
    have R4 := rfour_any r q (tkRest L2 e2 k) (tkErr L2 e2 k)
    unfold TakePost at R3 R4
    rw [hch] at R4
    obtain ⟨L3, hL3⟩ : ∃ L, L = tkRest L2 e2 k := ⟨_, rfl⟩
    obtain ⟨e3, he3⟩ : ∃ e, e = tkErr L2 e2 k := ⟨_, rfl⟩
    obtain ⟨g3, hg3'⟩ : ∃ e, e = tkGot L2 e2 k := ⟨_, rfl⟩
    rw [← hL3, ← he3] at R3 R4
    rw [← hg3'] at R3
    obtain ⟨L4, hL4⟩ : ∃ L, L = tkRest L3 e3 4 := ⟨_, rfl⟩
    obtain ⟨g4, hg4'⟩ : ∃ e, e = got L3 e3 4 := ⟨_, rfl⟩
    rw [← hL4, ← hg4'] at R4
    clear hL3 he3 hg3' hL4 hg4' hch l1 l2
    have hgw := hg1
    go_wp2_with (first
                  | (with_reducible refine st_alloc ?_)
                  | (go_at_call 45; refine (RT _ hR).mono ?_; rintro e w3 ⟨rfl, hR3, hm3⟩)
                  | (go_at_call 46; refine (err_any r q _ 0 _ hR3).mono ?_; rintro e w4 ⟨rfl, rfl⟩)
                  | (go_at_call 47; refine (R1 _ hR3).mono ?_; rintro e w4 ⟨rfl, hR4, hm4⟩)
                  | (go_at_call 47; refine (R2 _ hR4).mono ?_; rintro e w5 ⟨rfl, hR5, hm5⟩)
                  | (go_at_call 48; refine (R3 _ hR5).mono ?_; rintro e w6 ⟨v6, rfl, ho6, hn6, hR6, hm6⟩; obtain ⟨ao6, cap6, rfl, _, _⟩ := ho6.sl.form))
    refine StopOp.go rfl fun K hK => ?_
    refine wp_alloc zero_frame ?_
    intro f w7 hf1 hf2 hm7 hB7
    simp only [put_some, List.set_cons_succ, List.set_cons_zero]
    refine hK _ _ ?_
    clear hK K
    go_wp2_with (with_reducible refine st_store ?_)
    refine StopOp.go rfl fun K hK => ?_
    refine wp_store (u := .agg #[.int .u64 g1, .int .u64 g2, .slice ao6 g3.length cap6]) (by rfl) (by rfl) (by kernel_rfl) hB7 (by simp [Value.cells]) (by simp [Value.cells, Value.oneCell']) ?_
    intro w8 hm8 hB8
    refine hK _ _ ?_
    clear hK K
    have hR8 : Rd w8 r q L3 e3 := (hR6.ext hm7).mod hB7 (by simp [Value.cells]) (by have := hR6.1.lt; omega) (by obtain ⟨_, hB, _⟩ := hR6.2; have := hB.lt; omega) hm8
    have hM3 := hM2.fresh hm3 (by simpa using hqw)
    have hM4 := hM3.fresh hm4 (by simpa using hqw)
    have hM5 := hM4.fresh hm5 (by simpa using hqw)
    have hM6 := hM5.fresh hm6 (by simpa using hqw)
    have hM7 := hM6.ext hm7
    have hM8 := hM7.fresh hm8 (by have := hM6.size; simp; omega)
    have sR6 := hR6.1.lt
    have sQ6 : q < w6.heap.size := by obtain ⟨_, hB, _⟩ := hR6.2; exact hB.lt
    have hfg : g < w6.heap.size := by have := hG2.lt; have := hm3.size; have := hm4.size; have := hm5.size; have := hm6.size; omega
    have hG8 : Blk w8 g 25 [.int .u64 0, .int .u64 0, .slice none 0 0] := ((((((hG2.mod hm3 (by simpa using hgq)).mod hm4 (by simpa using hgq)).mod hm5 (by simpa using hgq)).mod hm6 (by simpa using hgq)).ext hm7).mod hm8 (by simp; omega))
    clear hR3 hR4 hR5 hR6 hm3 hm4 hm5 hm6 hm7 hm8 hB7 hB8 hM3 hM4 hM5 hM6 hM7 ho6 hn6 hG2 hM2 RT R1 R2 R3
    go_wp2_with (first
                  | (with_reducible refine st_store ?_)
                  | (go_at_call 49; refine (R4 _ hR8).mono ?_; rintro e w9 ⟨rfl, hR9, hm9⟩)
                  | (go_at_call 17; refine (SZ _).mono ?_; rintro e w10 ⟨rfl, rfl⟩)
                  | (go_at_call 46; refine (err_any r q _ 4 _ hR9).mono ?_; rintro e w10 ⟨rfl, rfl⟩))
    have hG9 := hG8.mod hm9 (by simpa using hgq)
    have hM9 := hM8.fresh hm9 (by simpa using hqw)
    refine StopOp.go rfl fun K hK => ?_
    refine wp_store (u := .agg #[.int .u64 0, .int .u64 0, .slice none 0 0]) (by rfl) (by rfl) (by kernel_rfl) hG9 (by simp [Value.cells]) (by simp [Value.cells, Value.oneCell']) ?_
    intro w90 hm90 hB90
    refine hK _ _ ?_
    clear hK K
    have z0 := hB90.cell' (i := 0) rfl
    have z1 := hB90.cell' (i := 1) rfl
    have z2 := hB90.cell' (i := 2) rfl
    go_wp2_with fail
    exact bodyPost_ret (v := .tuple #[.agg #[.int .u64 0, .int .u64 0, .slice none 0 0], .int .i64 0, .int .i64 4]) (by simp [results, Tryd.results20, go_sem, z0, z1, z2]) rfl (gf_no (by rw [HERR.out, if_neg h32, if_pos hsh]) (by decide) rfl (hM9.fresh hm90 (by simpa using hgw)))
  have h22 : 22 + k ≤ m := by omega
  have hCl2 := HCl.out
  have R1 := fun w h => nn8 r q C 2 w h (by omega)
  have R2 := fun w h => nn8 r q C 10 w h (by omega)
  have R3 := fun w h => nntake r q C 18 k w h (by omega) (by omega)
  have R4 := fun w h => nn4 r q C (18 + k) w h (by omega)
  unfold NextN at R1 R2 R4
  rw [HNB.out 2 8 (by omega)] at R1
  rw [HNB.out 10 8 (by omega)] at R2
  rw [HNB.out (18 + k) 4 (by omega)] at R4
  simp only [Nat.reduceAdd] at R1 R2
  have hbody : (C.drop 18).take k = (parF b).l := by
    rw [HPAR.out, HC.out, List.drop_take, List.take_take, Nat.min_eq_left (by omega)]
  rw [hbody] at R3
  have hbl : (parF b).l.length = k := by rw [← hbody, List.length_take, List.length_drop]; omega
  have he1 : nb b 2 8 = (parF b).e := by rw [HPAR.out]
  have hs1 : nb b 10 8 = (parF b).s := by rw [HPAR.out]
  rw [he1] at R1
  rw [hs1] at R2
  obtain ⟨f, hf⟩ : ∃ f, f = parF b := ⟨_, rfl⟩
  rw [← hf] at R1 R2 R3 hbl
  clear he1 hs1 hbody hCl2
  obtain ⟨fe, fs, fl⟩ := f
  dsimp only at R1 R2 R3 hbl
  have x4 := nb_lt b (18 + k) 4
  obtain ⟨S4, hS4⟩ : ∃ S, S = nb b (18 + k) 4 := ⟨_, rfl⟩
  rw [← hS4] at R4 x4
  have hpre := hb.pref rfl (k := 22 + k - 4) (by omega) (by omega)
  obtain ⟨B, hB⟩ : ∃ B, B = b.take (18 + k) := ⟨_, rfl⟩
  rw [show b.take (22 + k - 4) = B by rw [hB]; congr 1; omega] at hpre
  have hcl := crcS_lt B
  have SU := fun w h1 h2 => sum_any B (.slice aob (22 + k - 4) capb) w h1 h2
  have hgw := hg1
  obtain ⟨cs, hcs⟩ : ∃ c, c = crcS B := ⟨_, rfl⟩
  rw [← hcs] at SU hcl
  have HS := Lib.hid (And.intro hS4 (And.intro hB hcs))
  have HF := Lib.hid hf
  clear hS4 hB hcs hf
  go_wp2_with (first
                | (with_reducible refine st_alloc ?_)
                | (go_at_call 45; refine (RT _ hR).mono ?_; rintro e w3 ⟨rfl, hR3, hm3⟩)
                | (go_at_call 46; refine (err_any r q _ 0 _ hR3).mono ?_; rintro e w4 ⟨rfl, rfl⟩)
                | (go_at_call 47; refine (R1 _ hR3).mono ?_; rintro e w4 ⟨rfl, hR4, hm4⟩)
                | (go_at_call 47; refine (R2 _ hR4).mono ?_; rintro e w5 ⟨rfl, hR5, hm5⟩)
                | (go_at_call 48; refine (R3 _ hR5).mono ?_; rintro e w6 ⟨v6, rfl, ho6, hn6, hR6, hm6⟩; obtain ⟨ao6, cap6, rfl, _, _⟩ := Ob.nx ho6 hbl))
  refine StopOp.go rfl fun K hK => ?_
  refine wp_alloc zero_frame ?_
  intro f w7 hf1 hf2 hm7 hB7
  simp only [put_some, List.set_cons_succ, List.set_cons_zero]
  refine hK _ _ ?_
  clear hK K
  go_wp2_with (with_reducible refine st_store ?_)
  refine StopOp.go rfl fun K hK => ?_
  refine wp_store (u := .agg #[.int .u64 fe, .int .u64 fs, .slice ao6 k cap6]) (by rfl) (by rfl) (by kernel_rfl) hB7 (by simp [Value.cells]) (by simp [Value.cells, Value.oneCell']) ?_
  intro w8 hm8 hB8
  refine hK _ _ ?_
  clear hK K
  have hR8 : Rd w8 r q (C.drop (18 + k)) 0 := (hR6.ext hm7).mod hB7 (by simp [Value.cells]) (by have := hR6.1.lt; omega) (by obtain ⟨_, hB, _⟩ := hR6.2; have := hB.lt; omega) hm8
  have hM3 := hM2.fresh hm3 (by simpa using hqw)
  have hM4 := hM3.fresh hm4 (by simpa using hqw)
  have hM5 := hM4.fresh hm5 (by simpa using hqw)
  have hM6 := hM5.fresh hm6 (by simpa using hqw)
  have hM7 := hM6.ext hm7
  have hM8 := hM7.fresh hm8 (by have := hM6.size; simp; omega)
  have sR6 := hR6.1.lt
  have sQ6 : q < w6.heap.size := by obtain ⟨_, hB, _⟩ := hR6.2; exact hB.lt
  have hfg : g < w6.heap.size := by have := hG2.lt; have := hm3.size; have := hm4.size; have := hm5.size; have := hm6.size; omega
  have hG8 : Blk w8 g 25 [.int .u64 0, .int .u64 0, .slice none 0 0] := ((((((hG2.mod hm3 (by simpa using hgq)).mod hm4 (by simpa using hgq)).mod hm5 (by simpa using hgq)).mod hm6 (by simpa using hgq)).ext hm7).mod hm8 (by simp; omega))
  have hF8 : Blk w8 f 25 [.int .u64 fe, .int .u64 fs, .slice ao6 k cap6] := hB8
  have ho8 : Ob w8 (.slice ao6 k cap6) fl := (ho6.ext hm7).mod hm8 (fun b hb hh => by have := Ow.lt ho6 b hb; have e : b = f := (by simpa using hh); omega)
  have hn8 : New w (.slice ao6 k cap6) := fun b hb => Nat.le_trans hM5.size (hn6 b hb)
  have hfq : f ≠ q := by omega
  have hfw : w.heap.size ≤ f := by have := hM6.size; omega
  have hT8 := hT.ext hM8
  clear hR3 hR4 hR5 hR6 hm3 hm4 hm5 hm6 hm7 hm8 hB7 hB8 hM3 hM4 hM5 hM6 hM7 ho6 hn6 hG2 hM2 RT R1 R2 R3
  have hoq : ∀ w', Mod [q] w8 w' → Ob w' (.slice ao6 k cap6) fl := fun w' hm => ho8.mod hm (fun b hb hh => by
    have e : b = q := by simpa using hh
    obtain ⟨_, hB, _⟩ := hR8.2
    exact Ow.ne ho8 hB (by decide) (e ▸ hb))
  by_cases hsum : S4 = cs
  · subst hsum
    go_wp2_with (first
                  | (with_reducible refine st_store ?_)
                  | (go_at_call 49; refine (R4 _ hR8).mono ?_; rintro e w9 ⟨rfl, hR9, hm9⟩; have hT9 := hT.ext (hM8.fresh hm9 (by simpa using hqw)); have hp9 := hpre.ext (hM8.fresh hm9 (by simpa using hqw)); have hF9 := hF8.mod hm9 (by simpa using hfq); have y0 := hF9.cell' (i := 0) rfl; have y1' := hF9.cell' (i := 1) rfl; have y2 := hF9.cell' (i := 2) rfl)
                  | (go_at_call 17; refine (SZ _).mono ?_; rintro e w10 ⟨rfl, rfl⟩)
                  | (go_at_call 46; refine (err_any r q _ 0 _ hR9).mono ?_; rintro e w10 ⟨rfl, rfl⟩)
                  | (go_at_call 39; refine (SU _ hp9 hT9).mono ?_; rintro e w11 ⟨rfl, rfl⟩))
    have hG9 := hG8.mod hm9 (by simpa using hgq)
    have hM9 := hM8.fresh hm9 (by simpa using hqw)
    refine StopOp.go rfl fun K hK => ?_
    refine wp_store (u := .agg #[.int .u64 fe, .int .u64 fs, .slice ao6 k cap6]) (by rfl) (by rfl) (by kernel_rfl) hG9 (by simp [Value.cells]) (by simp [Value.cells, Value.oneCell']) ?_
    intro w90 hm90 hB90
    refine hK _ _ ?_
    clear hK K
    have z0 := hB90.cell' (i := 0) rfl
    have z1 := hB90.cell' (i := 1) rfl
    have z2 := hB90.cell' (i := 2) rfl
    go_wp2_with fail
    refine bodyPost_ret (v := .tuple #[.agg #[.int .u64 fe, .int .u64 fs, .slice ao6 k cap6], .int .i64 (22 + k), .int .i64 0]) (by simp [results, Tryd.results20, go_sem, z0, z1, z2]) rfl ?_
    have he : errF b = 0 := by rw [HERR.out, if_neg h32, if_neg hsh, ← HS.out.1, ← HS.out.2.1, ← HS.out.2.2, if_neg (by simp)]
    have hg : getF b = ⟨fe, fs, fl⟩ := by unfold getF; rw [if_pos he, ← HF.out]
    have ho9 := hoq _ hm9
    have hg9 : ∀ b ∈ blks (.slice ao6 k cap6), b ≠ g := fun b hb e => Ow.ne ho9 hG9 (by decide) (e ▸ hb)
    refine ⟨.slice ao6 k cap6, ?_, ?_, hn8, hM9.fresh hm90 (by simpa using hgw)⟩
    · rw [hg, he, show numF b = 22 + k by rw [HNUM.out, if_pos he]]
      simp
    · rw [hg]
      exact ho9.mod hm90 (fun b hb hh => hg9 b hb (by simpa using hh))
  · have e1 : ((S4 : Int) != (cs : Int)) = true := by simp; omega
    go_wp2_with (first
                  | (with_reducible refine st_store ?_)
                  | (go_at_call 49; refine (R4 _ hR8).mono ?_; rintro e w9 ⟨rfl, hR9, hm9⟩; have hT9 := hT.ext (hM8.fresh hm9 (by simpa using hqw)); have hp9 := hpre.ext (hM8.fresh hm9 (by simpa using hqw)))
                  | (go_at_call 17; refine (SZ _).mono ?_; rintro e w10 ⟨rfl, rfl⟩)
                  | (go_at_call 46; refine (err_any r q _ 0 _ hR9).mono ?_; rintro e w10 ⟨rfl, rfl⟩)
                  | (go_at_call 39; refine (SU _ hp9 hT9).mono ?_; rintro e w11 ⟨rfl, rfl⟩))
    have hG9 := hG8.mod hm9 (by simpa using hgq)
    have hM9 := hM8.fresh hm9 (by simpa using hqw)
    refine StopOp.go rfl fun K hK => ?_
    refine wp_store (u := .agg #[.int .u64 0, .int .u64 0, .slice none 0 0]) (by rfl) (by rfl) (by kernel_rfl) hG9 (by simp [Value.cells]) (by simp [Value.cells, Value.oneCell']) ?_
    intro w90 hm90 hB90
    refine hK _ _ ?_
    clear hK K
    have z0 := hB90.cell' (i := 0) rfl
    have z1 := hB90.cell' (i := 1) rfl
    have z2 := hB90.cell' (i := 2) rfl
    go_wp2_with fail
    exact bodyPost_ret (v := .tuple #[.agg #[.int .u64 0, .int .u64 0, .slice none 0 0], .int .i64 0, .int .i64 81]) (by simp [results, Tryd.results20, go_sem, z0, z1, z2]) rfl (gf_no (by rw [HERR.out, if_neg h32, if_neg hsh, ← HS.out.1, ← HS.out.2.1, ← HS.out.2.2, if_pos (by simpa using hsum)]) (by decide) rfl (hM9.fresh hm90 (by simpa using hgw)))
end Go.Proofs.YtboigcnpamldlaaDoor
