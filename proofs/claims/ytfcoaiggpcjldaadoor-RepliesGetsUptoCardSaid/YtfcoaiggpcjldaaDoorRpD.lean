import Derived.Test.YtfcoaiggpcjldaaDoorRpC
/-! Replies: Get. -/
set_option linter.unusedVariables false
set_option linter.unusedSimpArgs false
set_option maxRecDepth 100000
namespace Go.Proofs.YtfcoaiggpcjldaaDoor
open Go.RowKit Gw

theorem cellsR_u8 (r : Rp) : ∀ c ∈ cellsR r, ∀ n, c ≠ .int .u8 n := by simp [cellsR]
/-- what was read so far: the reply, what is left, the error -/
structure Rs where
  r : Rp
  l : List UInt8
  e : Int
def nextI (b : Bool) (s : Rs) : Rs := if b = true then ⟨{ s.r with id := got s.l s.e 4 }, tkRest s.l s.e (4 : Nat), tkErr s.l s.e (4 : Nat)⟩ else s
def nextS (b : Bool) (s : Rs) : Rs := if b = true then ⟨{ s.r with seat := got s.l s.e 2 }, tkRest s.l s.e (2 : Nat), tkErr s.l s.e (2 : Nat)⟩ else s
def nextU (b : Bool) (s : Rs) : Rs := if b = true then ⟨{ s.r with till := wrap64 (got s.l s.e 8) }, tkRest s.l s.e (8 : Nat), tkErr s.l s.e (8 : Nat)⟩ else s
def nextC (b : Bool) (s : Rs) : Rs := if b = true then ⟨{ s.r with count := got s.l s.e 2 }, tkRest s.l s.e (2 : Nat), tkErr s.l s.e (2 : Nat)⟩ else s
def rparse0 (b : List UInt8) : Rs :=
  let l1 := tkRest b 0 (4 : Nat); let e1 := tkErr b 0 (4 : Nat)
  let l2 := tkRest l1 e1 (1 : Nat); let e2 := tkErr l1 e1 (1 : Nat)
  ⟨⟨got b 0 4, got l1 e1 1, got l2 e2 2, 0, 0, 0, 0⟩, tkRest l2 e2 (2 : Nat), tkErr l2 e2 (2 : Nat)⟩
def rgetS (b : List UInt8) : Rs :=
  let s := rparse0 b
  nextC (hC s.r.kind s.r.err) (nextU (hU s.r.kind s.r.err) (nextS (hS s.r.kind s.r.err) (nextI (hI s.r.kind s.r.err) s)))
def rgetOk (b : List UInt8) : Bool := decide (endOf (rgetS b).l (rgetS b).e = 0) && mayR (rgetS b).r
def rz : Rp := ⟨0, 0, 0, 0, 0, 0, 0⟩
def rgetV (b : List UInt8) : Rp := if rgetOk b = true then (rgetS b).r else rz
def GetR (b : List UInt8) (w : World) (e : Ending) (w' : World) : Prop :=
  e = .returned (.tuple #[(rgetV b).v, .int .i64 (if rgetOk b = true then 0 else 210)]) ∧ Mod [] w w'
theorem rgetOk_no {b : List UInt8} (h : rgetOk b = false) (w : World) (e : Ending) (w' : World) (he : e = .returned (.tuple #[rz.v, .int .i64 210])) (hm : Mod [] w w') : GetR b w e w' := by
  unfold GetR rgetV
  rw [h]
  exact ⟨he, hm⟩
theorem rgetOk_yes {b : List UInt8} (h : rgetOk b = true) (w : World) (e : Ending) (w' : World) (he : e = .returned (.tuple #[(rgetS b).r.v, .int .i64 0])) (hm : Mod [] w w') : GetR b w e w' := by
  unfold GetR rgetV
  rw [h]
  exact ⟨he, hm⟩
theorem zero_rep : (Tryd.prog.info? 26).map (·.zero) = some (some (.agg #[.int .u32 0, .int .i64 0, .int .i64 0, .int .u32 0, .int .i64 0, .int .i64 0, .int .i64 0])) := by kernel_rfl
theorem Rd.qblk {w : World} {r q : Nat} {l : List UInt8} {e : Int} (h : Rd w r q l e) : ∃ cs, Blk w q 113 cs := by
  obtain ⟨_, v, h2, _⟩ := h
  exact ⟨_, h2⟩
theorem Rd.keepP {w w' : World} {r q g : Nat} {l : List UInt8} {e : Int} {x : Rp} (h : Rd w r q l e) (hb : Blk w g 26 (cellsR x)) (hm : Mod [g] w w') : Rd w' r q l e := by
  obtain ⟨_, hB⟩ := h.qblk
  exact h.mod hb (cellsR_u8 x) (h.1.ne hb (by decide)) (hB.ne hb (by decide)) hm
/-- what stands while it reads -/
def St4 (w : World) (r q p g : Nat) (s : Rs) (wx : World) : Prop :=
  Rd wx r q s.l s.e ∧ Blk wx p 26 (cellsR s.r) ∧ Blk wx g 26 (cellsR rz) ∧ Mod [] w wx
section
variable {w wx : World} {r q p g : Nat} {s : Rs}
theorem nextI_no (h : St4 w r q p g s wx) : St4 w r q p g (nextI false s) wx := by unfold nextI; rw [if_neg (by simp)]; exact h
theorem nextS_no (h : St4 w r q p g s wx) : St4 w r q p g (nextS false s) wx := by unfold nextS; rw [if_neg (by simp)]; exact h
theorem nextU_no (h : St4 w r q p g s wx) : St4 w r q p g (nextU false s) wx := by unfold nextU; rw [if_neg (by simp)]; exact h
theorem nextC_no (h : St4 w r q p g s wx) : St4 w r q p g (nextC false s) wx := by unfold nextC; rw [if_neg (by simp)]; exact h
theorem nextI_yes (hR : Rd wx r q (tkRest s.l s.e (4 : Nat)) (tkErr s.l s.e (4 : Nat))) (hP : Blk wx p 26 ((cellsR s.r).set 3 (.int .u32 (got s.l s.e 4)))) (hG : Blk wx g 26 (cellsR rz)) (hM : Mod [] w wx) : St4 w r q p g (nextI true s) wx := by
  unfold nextI; rw [if_pos rfl]; exact ⟨hR, hP, hG, hM⟩
theorem nextS_yes (hR : Rd wx r q (tkRest s.l s.e (2 : Nat)) (tkErr s.l s.e (2 : Nat))) (hP : Blk wx p 26 ((cellsR s.r).set 4 (.int .i64 (got s.l s.e 2)))) (hG : Blk wx g 26 (cellsR rz)) (hM : Mod [] w wx) : St4 w r q p g (nextS true s) wx := by
  unfold nextS; rw [if_pos rfl]; exact ⟨hR, hP, hG, hM⟩
theorem nextU_yes (x : Int) (hx : x = wrap64 (got s.l s.e 8)) (hR : Rd wx r q (tkRest s.l s.e (8 : Nat)) (tkErr s.l s.e (8 : Nat))) (hP : Blk wx p 26 ((cellsR s.r).set 5 (.int .i64 x))) (hG : Blk wx g 26 (cellsR rz)) (hM : Mod [] w wx) : St4 w r q p g (nextU true s) wx := by
  unfold nextU; rw [if_pos rfl, ← hx]; exact ⟨hR, hP, hG, hM⟩
theorem nextC_yes (hR : Rd wx r q (tkRest s.l s.e (2 : Nat)) (tkErr s.l s.e (2 : Nat))) (hP : Blk wx p 26 ((cellsR s.r).set 6 (.int .i64 (got s.l s.e 2)))) (hG : Blk wx g 26 (cellsR rz)) (hM : Mod [] w wx) : St4 w r q p g (nextC true s) wx := by
  unfold nextC; rw [if_pos rfl]; exact ⟨hR, hP, hG, hM⟩
end

set_option maxRecDepth 1000000 in
set_option maxHeartbeats 8000000 in
theorem rget_any (b : List UInt8) (bv0 : Value) (w : World) (hT : Tab w) (hb : Bs w bv0 b) (hl : b.length ≤ 140737488355328) : Calls Tryd.prog 16 #[bv0] w (GetR b w) := by
  obtain ⟨aob, capb, rfl, hc1, hc2⟩ := hb.form
  obtain ⟨s0, hs0⟩ : ∃ s, s = rparse0 b := ⟨_, rfl⟩
  have hgs : rgetS b = nextC (hC s0.r.kind s0.r.err) (nextU (hU s0.r.kind s0.r.err) (nextS (hS s0.r.kind s0.r.err) (nextI (hI s0.r.kind s0.r.err) s0))) := by rw [hs0]; rfl
  have e1 : s0.r = ⟨got b 0 4, got (tkRest b 0 (4 : Nat)) (tkErr b 0 (4 : Nat)) 1, got (tkRest (tkRest b 0 (4 : Nat)) (tkErr b 0 (4 : Nat)) (1 : Nat)) (tkErr (tkRest b 0 (4 : Nat)) (tkErr b 0 (4 : Nat)) (1 : Nat)) 2, 0, 0, 0, 0⟩ := by rw [hs0]; rfl
  have e2 : s0.l = tkRest (tkRest (tkRest b 0 (4 : Nat)) (tkErr b 0 (4 : Nat)) (1 : Nat)) (tkErr (tkRest b 0 (4 : Nat)) (tkErr b 0 (4 : Nat)) (1 : Nat)) (2 : Nat) := by rw [hs0]; rfl
  have e3 : s0.e = tkErr (tkRest (tkRest b 0 (4 : Nat)) (tkErr b 0 (4 : Nat)) (1 : Nat)) (tkErr (tkRest b 0 (4 : Nat)) (tkErr b 0 (4 : Nat)) (1 : Nat)) (2 : Nat) := by rw [hs0]; rfl
  obtain ⟨x1, hx1⟩ : ∃ x, x = got b 0 4 := ⟨_, rfl⟩
  obtain ⟨x2, hx2⟩ : ∃ x, x = got (tkRest b 0 (4 : Nat)) (tkErr b 0 (4 : Nat)) 1 := ⟨_, rfl⟩
  obtain ⟨x3, hx3⟩ : ∃ x, x = got (tkRest (tkRest b 0 (4 : Nat)) (tkErr b 0 (4 : Nat)) (1 : Nat)) (tkErr (tkRest b 0 (4 : Nat)) (tkErr b 0 (4 : Nat)) (1 : Nat)) 2 := ⟨_, rfl⟩
  rw [← hx1, ← hx2, ← hx3] at e1
  have y1 : (x1 : Int) ≤ 4294967295 := by have := got_lt b 0 4; omega
  have y2 : (x2 : Int) ≤ 255 := by have := got_lt (tkRest b 0 (4 : Nat)) (tkErr b 0 (4 : Nat)) 1; omega
  have y3 : (x3 : Int) ≤ 65535 := by have := got_lt (tkRest (tkRest b 0 (4 : Nat)) (tkErr b 0 (4 : Nat)) (1 : Nat)) (tkErr (tkRest b 0 (4 : Nat)) (tkErr b 0 (4 : Nat)) (1 : Nat)) 2; omega
  have y4 : (0 : Int) ≤ x1 := by omega
  have y5 : (0 : Int) ≤ x2 := by omega
  have y6 : (0 : Int) ≤ x3 := by omega
  have hx1' : got b 0 4 = x1 := hx1.symm
  have R1 := fun w r q h => rfour_any r q b 0 w h
  have R2 := fun w r q h => rbyte_any r q (tkRest b 0 (4 : Nat)) (tkErr b 0 (4 : Nat)) w h
  have R3 := fun w r q h => rtwo_any r q (tkRest (tkRest b 0 (4 : Nat)) (tkErr b 0 (4 : Nat)) (1 : Nat)) (tkErr (tkRest b 0 (4 : Nat)) (tkErr b 0 (4 : Nat)) (1 : Nat)) w h
  rw [← hx1] at R1
  rw [← hx2] at R2
  rw [← hx3] at R3
  have E23 := Lib.hid (And.intro e2 e3)
  have E1 := Lib.hid e1
  have hkind : s0.r.kind = x2 := by rw [e1]
  have herr : s0.r.err = x3 := by rw [e1]
  rw [hkind, herr] at hgs
  have OF := fun w h => off_any (x2 : Int) (x3 : Int) w h
  obtain ⟨a1, a2, a4, a8⟩ := fOf_and (x2 : Int) (x3 : Int)
  obtain ⟨F, hF⟩ : ∃ F, F = fOf (x2 : Int) (x3 : Int) := ⟨_, rfl⟩
  rw [← hF] at OF a1 a2 a4 a8
  obtain ⟨bI, hbI⟩ : ∃ b, b = hI (x2 : Int) (x3 : Int) := ⟨_, rfl⟩
  obtain ⟨bS, hbS⟩ : ∃ b, b = hS (x2 : Int) (x3 : Int) := ⟨_, rfl⟩
  obtain ⟨bU, hbU⟩ : ∃ b, b = hU (x2 : Int) (x3 : Int) := ⟨_, rfl⟩
  obtain ⟨bC, hbC⟩ : ∃ b, b = hC (x2 : Int) (x3 : Int) := ⟨_, rfl⟩
  rw [← hbI, ← hbS, ← hbU, ← hbC] at hgs
  rw [← hbI] at a1
  rw [← hbS] at a2
  rw [← hbU] at a4
  rw [← hbC] at a8
  have n1 : (bits .and .i64 F 1 != 0) = bI := by rw [a1]; cases bI <;> rfl
  have n2 : (bits .and .i64 F 2 != 0) = bS := by rw [a2]; cases bS <;> rfl
  have n4 : (bits .and .i64 F 4 != 0) = bU := by rw [a4]; cases bU <;> rfl
  have n8 : (bits .and .i64 F 8 != 0) = bC := by rw [a8]; cases bC <;> rfl
  have HGS := Lib.hid hgs
  clear hs0 hgs e1 e2 e3 hx1 hx1' hx2 hx3 hkind herr hF hbI hbS hbU hbC a1 a2 a4 a8
  go_enter Tryd.func16, Tryd.ntmps16
  go_wp2_with (with_reducible refine st_alloc ?_)
  refine StopOp.go rfl fun K hK => ?_
  refine wp_alloc zero_rep ?_
  intro g w1 hg1 hg2 hm1 hB1
  simp only [put_some, List.set_cons_succ, List.set_cons_zero]
  refine hK _ _ ?_
  clear hK K
  go_wp2_with (first
                | (with_reducible refine st_alloc ?_)
                | (go_at_call 33; refine (of_any b _ _ (hb.ext hm1) hl).mono ?_; rintro e w2 ⟨r, q, rfl, hr, hq, hqr, hR2, hm2⟩)
                | (go_at_call 34; refine (R1 _ r q hR2).mono ?_; rintro e w3 ⟨rfl, hR3, hm3⟩)
                | (go_at_call 35; refine (R2 _ r q hR3).mono ?_; rintro e w4 ⟨rfl, hR4, hm4⟩)
                | (go_at_call 36; refine (R3 _ r q hR4).mono ?_; rintro e w5 ⟨rfl, hR5, hm5⟩))
  have hqw : w.heap.size ≤ q := Nat.le_trans hm1.size hq
  have hM5 : Mod [] w w5 := (((hm1.ext hm2).fresh hm3 (by simpa using hqw)).fresh hm4 (by simpa using hqw)).fresh hm5 (by simpa using hqw)
  have hG5 : Blk w5 g 26 (cellsR rz) := (((hB1.ext hm2).mod hm3 (by simp; omega)).mod hm4 (by simp; omega)).mod hm5 (by simp; omega)
  have hR5' : Rd w5 r q s0.l s0.e := by rw [E23.out.1, E23.out.2]; exact hR5
  refine StopOp.go rfl fun K hK => ?_
  refine wp_alloc zero_rep ?_
  intro p w6 hp1 hp2 hm6 hB6
  simp only [put_some, List.set_cons_succ, List.set_cons_zero]
  refine hK _ _ ?_
  clear hK K
  go_wp2_with (with_reducible refine st_store ?_)
  refine StopOp.go rfl fun K hK => ?_
  refine wp_store (u := .agg #[.int .u32 (x1 : Nat), .int .i64 (x2 : Nat), .int .i64 (x3 : Nat), .int .u32 0, .int .i64 0, .int .i64 0, .int .i64 0]) (by rfl) (by rfl) (by kernel_rfl) hB6 (by simp [Value.cells]) (by simp [Value.cells, Value.oneCell']) ?_
  intro w7 hm7 hB7
  refine hK _ _ ?_
  clear hK K
  have hB7' : Blk w7 p 26 (cellsR s0.r) := by
    unfold cellsR
    rw [E1.out]
    exact hB7
  have d1 : w7.cell? ⟨p, 1, none⟩ = some (.int .i64 (x2 : Nat)) := hB7.cell' (i := 1) rfl
  have d2 : w7.cell? ⟨p, 2, none⟩ = some (.int .i64 (x3 : Nat)) := hB7.cell' (i := 2) rfl
  have hm57 : Mod [] w5 w7 := hm6.fresh hm7 (by simpa using hp1)
  have hR := hR5'.ext hm57
  have hG := hG5.ext hm57
  have hM := hM5.ext hm57
  have hP := hB7'
  have hpw : w.heap.size ≤ p := Nat.le_trans hM5.size hp1
  have hgw : w.heap.size ≤ g := hg1
  have hgp : g ≠ p := by have := hG5.lt; omega
  clear hB7 hB7' hB6 hm6 hm7 hm57 hR5 hR5' hR4 hR3 hR2 hm5 hm4 hm3 hm2 hm1 hB1 hG5 hM5 R1 R2 R3
  go_upto_if 25 with (go_at_call 24; (with_reducible refine (OF _ (hT.ext hM)).mono ?_); rintro e w8 ⟨rfl, rfl⟩)
  clear d1 d2 OF
  have hS : St4 w r q p g s0 w7 := ⟨hR, hP, hG, hM⟩
  clear hR hP hG hM
  go_cut [] (fun wx => St4 w r q p g (nextI bI s0) wx)
  case first =>
    cases bI with
    | false =>
      go_wp2_with fail
      go_meet
      exact nextI_no hS
    | true =>
      obtain ⟨hR, hP, hG, hM⟩ := hS
      have z1 : (got s0.l s0.e 4 : Int) ≤ 4294967295 := by have := got_lt s0.l s0.e 4; omega
      have z2 : (0 : Int) ≤ (got s0.l s0.e 4 : Int) := by omega
      have hpq : p ≠ q := by obtain ⟨_, hB⟩ := hR.qblk; exact hP.ne hB (by decide)
      have hgq : g ≠ q := by obtain ⟨_, hB⟩ := hR.qblk; exact hG.ne hB (by decide)
      go_wp2_with (first | (with_reducible refine st_store ?_) | (go_at_call 34; refine (rfour_any r q s0.l s0.e _ hR).mono ?_; rintro e wa ⟨rfl, hRa, hma⟩))
      have hPa := hP.mod hma (by simpa using hpq)
      have hGa := hG.mod hma (by simpa using hgq)
      refine StopOp.go rfl fun K hK => ?_
      refine wp_store1 (by kernel_rfl) (by rfl) (u := (.int .u32 (got s0.l s0.e 4))) (by rfl) ⟨rfl, rfl⟩ hPa (by simp [cellsR]) ?_
      intro wb hmb hBb
      refine hK _ _ ?_
      clear hK K
      go_wp2_with fail
      go_meet
      exact nextI_yes (hRa.keepP hPa hmb) hBb (hGa.mod hmb (by simpa using hgp)) ((hM.fresh hma (by simpa using hqw)).fresh hmb (by simpa using hpw))
  case rest =>
  clear hS
  have hS := hcut
  obtain ⟨s1, hs1⟩ : ∃ s, s = nextI bI s0 := ⟨_, rfl⟩
  rw [← hs1] at hS
  have Hs1 := Lib.hid hs1
  clear hs1 hcut
  go_upto_if 31 with fail
  go_cut [] (fun wx => St4 w r q p g (nextS bS s1) wx)
  case first =>
    cases bS with
    | false =>
      go_wp2_with fail
      go_meet
      exact nextS_no hS
    | true =>
      obtain ⟨hR, hP, hG, hM⟩ := hS
      have z1 : (got s1.l s1.e 2 : Int) ≤ 65535 := by have := got_lt s1.l s1.e 2; omega
      have z2 : (0 : Int) ≤ (got s1.l s1.e 2 : Int) := by omega
      have hpq : p ≠ q := by obtain ⟨_, hB⟩ := hR.qblk; exact hP.ne hB (by decide)
      have hgq : g ≠ q := by obtain ⟨_, hB⟩ := hR.qblk; exact hG.ne hB (by decide)
      go_wp2_with (first | (with_reducible refine st_store ?_) | (go_at_call 36; refine (rtwo_any r q s1.l s1.e _ hR).mono ?_; rintro e wa ⟨rfl, hRa, hma⟩))
      have hPa := hP.mod hma (by simpa using hpq)
      have hGa := hG.mod hma (by simpa using hgq)
      refine StopOp.go rfl fun K hK => ?_
      refine wp_store1 (by kernel_rfl) (by rfl) (u := (.int .i64 (got s1.l s1.e 2))) (by rfl) ⟨rfl, rfl⟩ hPa (by simp [cellsR]) ?_
      intro wb hmb hBb
      refine hK _ _ ?_
      clear hK K
      go_wp2_with fail
      go_meet
      exact nextS_yes (hRa.keepP hPa hmb) hBb (hGa.mod hmb (by simpa using hgp)) ((hM.fresh hma (by simpa using hqw)).fresh hmb (by simpa using hpw))
  case rest =>
  clear hS
  have hS := hcut
  obtain ⟨s2, hs2⟩ : ∃ s, s = nextS bS s1 := ⟨_, rfl⟩
  rw [← hs2] at hS
  have Hs2 := Lib.hid hs2
  clear hs2 hcut
  go_upto_if 38 with fail
  go_cut [] (fun wx => St4 w r q p g (nextU bU s2) wx)
  case first =>
    cases bU with
    | false =>
      go_wp2_with fail
      go_meet
      exact nextU_no hS
    | true =>
      obtain ⟨hR, hP, hG, hM⟩ := hS
      have z1 : (got s2.l s2.e 8 : Int) ≤ 18446744073709551615 := by have := got_lt s2.l s2.e 8; omega
      have z2 : (0 : Int) ≤ (got s2.l s2.e 8 : Int) := by omega
      have hpq : p ≠ q := by obtain ⟨_, hB⟩ := hR.qblk; exact hP.ne hB (by decide)
      have hgq : g ≠ q := by obtain ⟨_, hB⟩ := hR.qblk; exact hG.ne hB (by decide)
      go_wp2_with (first | (with_reducible refine st_store ?_) | (go_at_call 37; refine (reight_any r q s2.l s2.e _ hR).mono ?_; rintro e wa ⟨rfl, hRa, hma⟩))
      have hPa := hP.mod hma (by simpa using hpq)
      have hGa := hG.mod hma (by simpa using hgq)
      refine StopOp.go rfl fun K hK => ?_
      refine wp_store1 (by kernel_rfl) (by rfl) (u := (.int .i64 (wrap64 (got s2.l s2.e 8)))) (by rfl) ⟨rfl, rfl⟩ hPa (by simp [cellsR]) ?_
      intro wb hmb hBb
      refine hK _ _ ?_
      clear hK K
      go_wp2_with fail
      go_meet
      exact nextU_yes _ rfl (hRa.keepP hPa hmb) hBb (hGa.mod hmb (by simpa using hgp)) ((hM.fresh hma (by simpa using hqw)).fresh hmb (by simpa using hpw))
  case rest =>
  clear hS
  have hS := hcut
  obtain ⟨s3, hs3⟩ : ∃ s, s = nextU bU s2 := ⟨_, rfl⟩
  rw [← hs3] at hS
  have Hs3 := Lib.hid hs3
  clear hs3 hcut
  go_upto_if 45 with fail
  go_cut [] (fun wx => St4 w r q p g (nextC bC s3) wx)
  case first =>
    cases bC with
    | false =>
      go_wp2_with fail
      go_meet
      exact nextC_no hS
    | true =>
      obtain ⟨hR, hP, hG, hM⟩ := hS
      have z1 : (got s3.l s3.e 2 : Int) ≤ 65535 := by have := got_lt s3.l s3.e 2; omega
      have z2 : (0 : Int) ≤ (got s3.l s3.e 2 : Int) := by omega
      have hpq : p ≠ q := by obtain ⟨_, hB⟩ := hR.qblk; exact hP.ne hB (by decide)
      have hgq : g ≠ q := by obtain ⟨_, hB⟩ := hR.qblk; exact hG.ne hB (by decide)
      go_wp2_with (first | (with_reducible refine st_store ?_) | (go_at_call 36; refine (rtwo_any r q s3.l s3.e _ hR).mono ?_; rintro e wa ⟨rfl, hRa, hma⟩))
      have hPa := hP.mod hma (by simpa using hpq)
      have hGa := hG.mod hma (by simpa using hgq)
      refine StopOp.go rfl fun K hK => ?_
      refine wp_store1 (by kernel_rfl) (by rfl) (u := (.int .i64 (got s3.l s3.e 2))) (by rfl) ⟨rfl, rfl⟩ hPa (by simp [cellsR]) ?_
      intro wb hmb hBb
      refine hK _ _ ?_
      clear hK K
      go_wp2_with fail
      go_meet
      exact nextC_yes (hRa.keepP hPa hmb) hBb (hGa.mod hmb (by simpa using hgp)) ((hM.fresh hma (by simpa using hqw)).fresh hmb (by simpa using hpw))
  case rest =>
  clear hS
  have hS := hcut
  obtain ⟨s4, hs4⟩ : ∃ s, s = nextC bC s3 := ⟨_, rfl⟩
  rw [← hs4] at hS
  have Hs4 := Lib.hid hs4
  clear hs4 hcut
  have hgs : rgetS b = s4 := by rw [HGS.out, ← Hs1.out, ← Hs2.out, ← Hs3.out, ← Hs4.out]
  obtain ⟨hR, hP, hG, hM⟩ := hS
  have hokb : rgetOk b = (decide (endOf s4.l s4.e = 0) && mayR s4.r) := by unfold rgetOk; rw [hgs]
  obtain ⟨M, hM0⟩ : ∃ M, M = mayR s4.r := ⟨_, rfl⟩
  have hck : chkR s4.r = if M = true then 0 else 210 := by unfold chkR; rw [← hM0]
  have CK := fun w h => rcheck_any s4.r w h
  unfold Rp.v at CK
  rw [hck] at CK
  rw [← hM0] at hokb
  have END := fun w h => end_any r q s4.l s4.e w h
  obtain ⟨E, hE⟩ : ∃ E, E = endOf s4.l s4.e := ⟨_, rfl⟩
  rw [← hE] at END hokb
  have HOK := Lib.hid hokb
  have HG2 := Lib.hid hgs
  clear hokb hgs hM0 hck hE
  have c0 := hP.cell' (i := 0) rfl
  have c1 := hP.cell' (i := 1) rfl
  have c2 := hP.cell' (i := 2) rfl
  have c3 := hP.cell' (i := 3) rfl
  have c4 := hP.cell' (i := 4) rfl
  have c5 := hP.cell' (i := 5) rfl
  have c6 := hP.cell' (i := 6) rfl
  by_cases hE0 : E = 0
  · subst hE0
    cases M with
    | false =>
      simp only [reduceIte, Bool.false_eq_true] at CK
      go_wp2_with (first | (with_reducible refine st_store ?_) | (go_at_call 38; (with_reducible refine (END _ hR).mono ?_); rintro e w9 ⟨rfl, rfl⟩) | (go_at_call 10; (with_reducible refine (CK _ (hT.ext hM)).mono ?_); rintro e w10 ⟨rfl, hm10⟩; have hG' := hG.ext hm10))
      refine StopOp.go rfl fun K hK => ?_
      refine wp_store (u := .agg #[.int .u32 0, .int .i64 0, .int .i64 0, .int .u32 0, .int .i64 0, .int .i64 0, .int .i64 0]) (by rfl) (by rfl) (by kernel_rfl) hG' (by simp [Value.cells, cellsR]) (by simp [Value.cells, Value.oneCell']) ?_
      intro w12 hm12 hB12
      refine hK _ _ ?_
      clear hK K
      have z0 := hB12.cell' (i := 0) rfl
      have z1 := hB12.cell' (i := 1) rfl
      have z2 := hB12.cell' (i := 2) rfl
      have z3 := hB12.cell' (i := 3) rfl
      have z4 := hB12.cell' (i := 4) rfl
      have z5 := hB12.cell' (i := 5) rfl
      have z6 := hB12.cell' (i := 6) rfl
      go_wp2_with fail
      exact bodyPost_ret (v := .tuple #[.agg #[.int .u32 0, .int .i64 0, .int .i64 0, .int .u32 0, .int .i64 0, .int .i64 0, .int .i64 0], .int .i64 210]) (by simp [results, Tryd.results16, go_sem, z0, z1, z2, z3, z4, z5, z6]) rfl (rgetOk_no (by rw [HOK.out]; rfl) _ _ _ rfl ((hM.ext hm10).fresh hm12 (by simpa using hgw)))
    | true =>
      simp only [reduceIte] at CK
      go_wp2_with (first | (with_reducible refine st_store ?_) | (go_at_call 38; (with_reducible refine (END _ hR).mono ?_); rintro e w9 ⟨rfl, rfl⟩) | (go_at_call 10; (with_reducible refine (CK _ (hT.ext hM)).mono ?_); rintro e w10 ⟨rfl, hm10⟩; have hG' := hG.ext hm10; have hP' := hP.ext hm10; have f0 := hP'.cell' (i := 0) rfl; have f1 := hP'.cell' (i := 1) rfl; have f2 := hP'.cell' (i := 2) rfl; have f3 := hP'.cell' (i := 3) rfl; have f4 := hP'.cell' (i := 4) rfl; have f5 := hP'.cell' (i := 5) rfl; have f6 := hP'.cell' (i := 6) rfl))
      refine StopOp.go rfl fun K hK => ?_
      refine wp_store (u := .agg #[.int .u32 s4.r.tag, .int .i64 s4.r.kind, .int .i64 s4.r.err, .int .u32 s4.r.id, .int .i64 s4.r.seat, .int .i64 s4.r.till, .int .i64 s4.r.count]) (by rfl) (by rfl) (by kernel_rfl) hG' (by simp [Value.cells, cellsR]) (by simp [Value.cells, Value.oneCell']) ?_
      intro w12 hm12 hB12
      refine hK _ _ ?_
      clear hK K
      have z0 := hB12.cell' (i := 0) rfl
      have z1 := hB12.cell' (i := 1) rfl
      have z2 := hB12.cell' (i := 2) rfl
      have z3 := hB12.cell' (i := 3) rfl
      have z4 := hB12.cell' (i := 4) rfl
      have z5 := hB12.cell' (i := 5) rfl
      have z6 := hB12.cell' (i := 6) rfl
      go_wp2_with fail
      exact bodyPost_ret (v := .tuple #[.agg #[.int .u32 s4.r.tag, .int .i64 s4.r.kind, .int .i64 s4.r.err, .int .u32 s4.r.id, .int .i64 s4.r.seat, .int .i64 s4.r.till, .int .i64 s4.r.count], .int .i64 0]) (by simp [results, Tryd.results16, go_sem, z0, z1, z2, z3, z4, z5, z6]) rfl (rgetOk_yes (by rw [HOK.out]; rfl) _ _ _ (by rw [HG2.out]; rfl) ((hM.ext hm10).fresh hm12 (by simpa using hgw)))
  · have en : (E != 0) = true := by simpa using hE0
    have hG' := hG
    go_wp2_with (first | (with_reducible refine st_store ?_) | (go_at_call 38; (with_reducible refine (END _ hR).mono ?_); rintro e w9 ⟨rfl, rfl⟩))
    refine StopOp.go rfl fun K hK => ?_
    refine wp_store (u := .agg #[.int .u32 0, .int .i64 0, .int .i64 0, .int .u32 0, .int .i64 0, .int .i64 0, .int .i64 0]) (by rfl) (by rfl) (by kernel_rfl) hG' (by simp [Value.cells, cellsR]) (by simp [Value.cells, Value.oneCell']) ?_
    intro w12 hm12 hB12
    refine hK _ _ ?_
    clear hK K
    have z0 := hB12.cell' (i := 0) rfl
    have z1 := hB12.cell' (i := 1) rfl
    have z2 := hB12.cell' (i := 2) rfl
    have z3 := hB12.cell' (i := 3) rfl
    have z4 := hB12.cell' (i := 4) rfl
    have z5 := hB12.cell' (i := 5) rfl
    have z6 := hB12.cell' (i := 6) rfl
    go_wp2_with fail
    exact bodyPost_ret (v := .tuple #[.agg #[.int .u32 0, .int .i64 0, .int .i64 0, .int .u32 0, .int .i64 0, .int .i64 0, .int .i64 0], .int .i64 210]) (by simp [results, Tryd.results16, go_sem, z0, z1, z2, z3, z4, z5, z6]) rfl (rgetOk_no (by rw [HOK.out, decide_eq_false hE0]; rfl) _ _ _ rfl (hM.fresh hm12 (by simpa using hgw)))
end Go.Proofs.YtfcoaiggpcjldaaDoor
