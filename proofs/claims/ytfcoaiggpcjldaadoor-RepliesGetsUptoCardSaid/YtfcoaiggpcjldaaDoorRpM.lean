import Derived.Test.YtfcoaiggpcjldaaDoorRpF
import Derived.Test.YtfcoaiggpcjldaaDoorRpL
/-! Replies: the reference's number, Get. -/
set_option linter.unusedVariables false
set_option linter.unusedSimpArgs false
set_option maxRecDepth 100000
namespace Go.Proofs.YtfcoaiggpcjldaaDoor
open Go.RowKit Gw

theorem val_drop' (l : List UInt8) (k : Nat) (hk : k < l.length) : val (l.drop k) = val (l.drop (k + 1)) * 256 + l[k].toNat := by
  rw [List.drop_eq_getElem_cons hk, val_cons]; omega
/-- the number of some bytes from a place on; what lacks is 0 -/
def nb (b : List UInt8) (p k : Nat) : Nat := val ((b.drop p).take k)
theorem nb_lt (b : List UInt8) (p k : Nat) : nb b p k < 256 ^ k := by
  unfold nb
  have h := val_lt ((b.drop p).take k)
  have : ((b.drop p).take k).length ≤ k := by rw [List.length_take]; omega
  exact Nat.lt_of_lt_of_le h (Nat.pow_le_pow_right (by omega) this)
set_option maxHeartbeats 2000000 in
theorem rnum_any (b : List UInt8) (p k x : Nat) (p' k' : Int) (v : Value) (w : World) (hp' : p' = p) (hk' : k' = k) (hv : Bs w v b) (hp : p ≤ 100) (hk : k ≤ 8) (hx : nb b p k = x) (hl : b.length ≤ 140737488355328) :
    Calls Tryd.prog 39 #[v, .int .i64 p', .int .i64 k'] w fun e w' => e = .returned (.int .u64 x) ∧ w = w' := by
  subst hp' hk' hx
  obtain ⟨ao, cap, rfl, hc1, hc2⟩ := hv.form
  unfold nb
  obtain ⟨L, hL⟩ : ∃ L, L = (b.drop p).take k := ⟨_, rfl⟩
  rw [← hL]
  have hLl : L.length ≤ k := by rw [hL, List.length_take]; omega
  have hLb : ∀ j, j < k → p + j < b.length → ∃ h : j < L.length, ∀ (h' : p + j < b.length), L[j] = b[p + j] := fun j h1 h2 => by
    have h : j < L.length := by rw [hL, List.length_take, List.length_drop]; omega
    refine ⟨h, fun h' => ?_⟩
    subst hL
    simp
  have hLo : ∀ j, ¬ p + j < b.length → L.length ≤ j := fun j h1 => by rw [hL, List.length_take, List.length_drop]; omega
  have HL := Lib.hid (And.intro hLb hLo)
  clear hL hLb hLo
  go_enter Tryd.func39, Tryd.ntmps39
  go_wp2_with fail
  go_loop [7, 8] (fun n i => ∃ j : Nat, j ≤ k ∧ n = .int .u64 (val (L.drop j)) ∧ i = .int .i64 ((j : Int) - 1)) (fun _ i => (intOf i + 1).toNat)
  case atStart => exact ⟨k, Nat.le_refl _, by rw [List.drop_eq_nil_of_le hLl]; rfl, rfl⟩
  case round =>
    obtain ⟨k2, hk2, rfl, rfl⟩ := hrel
    by_cases hlt : 0 < k2
    · obtain ⟨j, rfl⟩ : ∃ j, k2 = j + 1 := ⟨k2 - 1, by omega⟩
      have y4 : (((j + 1 : Nat) : Int) - 1) = (j : Int) := by omega
      rw [y4]
      clear y4
      have hlt2 := val_lt (L.drop (j + 1))
      have hp2 : (256 : Nat) ^ (L.drop (j + 1)).length ≤ 256 ^ 7 := Nat.pow_le_pow_right (by omega) (by rw [List.length_drop]; omega)
      have h7 : (256 : Nat) ^ 7 = 72057594037927936 := by decide
      obtain ⟨V, hV⟩ : ∃ V, V = val (L.drop (j + 1)) := ⟨_, rfl⟩
      rw [← hV] at hlt2 ⊢
      have y2 : (0 : Int) ≤ (V : Int) * 256 := by omega
      have y3 : (V : Int) * 256 ≤ 18446744073709551615 := by omega
      have y5 : (0 : Int) ≤ j := by omega
      by_cases hin : p + j < b.length
      · obtain ⟨hjl, hje⟩ := HL.out.1 j (by omega) hin
        obtain ⟨bb, o, rfl, hc⟩ := hv.byte hin
        have hd := val_drop' L j hjl
        rw [← hV, hje hin] at hd
        have ht := b[p + j].toNat_lt
        have y1 : (V : Int) * 256 + b[p + j].toNat ≤ 18446744073709551615 := by omega
        have y6 : (p : Int) + (j : Int) < b.length := by omega
        have y7 : (0 : Int) ≤ (p : Int) + j := by omega
        have HD := Lib.hid hd
        clear hd hV hp2 h7 hlt2 hje hjl
        go_wp2_with fail
        go_round
        case rel => exact ⟨j, by omega, by rw [HD.out]; go_num, rfl⟩
        case measure => simp [intOf]
      · have hle := HL.out.2 j hin
        have hd : val (L.drop j) = V * 256 := by
          rw [hV, List.drop_eq_nil_of_le hle, List.drop_eq_nil_of_le (by omega)]
          rfl
        have y6 : ¬ (p : Int) + (j : Int) < b.length := by omega
        have HD := Lib.hid hd
        clear hd hV hp2 h7 hlt2
        go_wp2_with fail
        go_round
        case rel => exact ⟨j, by omega, by rw [HD.out]; go_num, rfl⟩
        case measure => simp [intOf]
    · obtain rfl : k2 = 0 := by omega
      go_wp2_with fail
      go_ret
      exact ⟨rfl, rfl⟩

/-- what the bytes seem to say -/
def rfR (b : List UInt8) : Rp :=
  let k := nb b 4 1; let e := nb b 5 2
  let p1 := if hI k e = true then 11 else 7
  let p2 := if hS k e = true then p1 + 2 else p1
  let p3 := if hU k e = true then p2 + 8 else p2
  ⟨nb b 0 4, k, e, if hI k e = true then nb b 7 4 else 0, if hS k e = true then nb b p1 2 else 0, if hU k e = true then wrap64 (nb b p2 8) else 0, if hC k e = true then nb b p3 2 else 0⟩
theorem nbz (b : List UInt8) (p : Nat) : -9223372036854775808 ≤ (nb b p 2 : Int) ∧ (nb b p 2 : Int) ≤ 9223372036854775807 := by have := nb_lt b p 2; omega
theorem rfR_ok (b : List UInt8) : (rfR b).ok := by
  have a1 := nb_lt b 0 4
  have a2 := nb_lt b 4 1
  have a3 := nb_lt b 5 2
  have a4 := nb_lt b 7 4
  have hw : ∀ n : Int, -9223372036854775808 ≤ wrap64 n ∧ wrap64 n ≤ 9223372036854775807 := fun n => by unfold wrap64; omega
  unfold rfR
  dsimp only
  refine ⟨?_, ?_, ?_, ?_, ?_, ?_, ?_, ?_, ?_, ?_, ?_, ?_, ?_, ?_⟩ <;> dsimp only
  · omega
  · omega
  · omega
  · omega
  · omega
  · omega
  · split <;> omega
  · split <;> omega
  · split
    · exact (nbz b _).1
    · omega
  · split
    · exact (nbz b _).2
    · omega
  · split
    · exact (hw _).1
    · omega
  · split
    · exact (hw _).2
    · omega
  · split
    · exact (nbz b _).1
    · omega
  · split
    · exact (nbz b _).2
    · omega
def rfROk (b : List UInt8) : Bool := mayR (rfR b) && decide (rbytes (rfR b) = b)
def RGetQ (b : List UInt8) (w : World) (e : Ending) (w' : World) : Prop :=
  e = .returned (.tuple #[if rfROk b = true then (rfR b).v else rz.v, .int .i64 (if rfROk b = true then 0 else 210)]) ∧ Mod [] w w'
theorem rfROk_no {b : List UInt8} (h : rfROk b = false) (w : World) (e : Ending) (w' : World) (he : e = .returned (.tuple #[rz.v, .int .i64 210])) (hm : Mod [] w w') : RGetQ b w e w' := by
  unfold RGetQ
  rw [h]
  exact ⟨he, hm⟩
theorem rfROk_yes {b : List UInt8} (h : rfROk b = true) (w : World) (e : Ending) (w' : World) (he : e = .returned (.tuple #[(rfR b).v, .int .i64 0])) (hm : Mod [] w w') : RGetQ b w e w' := by
  unfold RGetQ
  rw [h]
  exact ⟨he, hm⟩
/-- what stands while it reads: the place, the reply so far -/
def StG (w : World) (q p g : Nat) (ds : List Value) (P : Nat) (r : Rp) (v : Value) (wx : World) : Prop :=
  v = .int .i64 P ∧ Blk wx q 26 (cellsR r) ∧ Blk wx p 53 ds ∧ Blk wx g 26 (cellsR rz) ∧ Mod [] w wx

set_option maxRecDepth 1000000 in
set_option maxHeartbeats 8000000 in
theorem rrefGet_any (b : List UInt8) (bv0 : Value) (w : World) (hb : Bs w bv0 b) (hl : b.length ≤ 140737488355328) : Calls Tryd.prog 17 #[bv0] w (RGetQ b w) := by
  obtain ⟨aob, capb, rfl, hc1, hc2⟩ := hb.form
  obtain ⟨x1, hx1⟩ : ∃ x, nb b 0 4 = x := ⟨_, rfl⟩
  obtain ⟨x2, hx2⟩ : ∃ x, nb b 4 1 = x := ⟨_, rfl⟩
  obtain ⟨x3, hx3⟩ : ∃ x, nb b 5 2 = x := ⟨_, rfl⟩
  have y1 : (x1 : Int) ≤ 4294967295 := by have := nb_lt b 0 4; omega
  have y2 : (x2 : Int) ≤ 255 := by have := nb_lt b 4 1; omega
  have y3 : (x3 : Int) ≤ 65535 := by have := nb_lt b 5 2; omega
  have y4 : (0 : Int) ≤ x1 := by omega
  have y5 : (0 : Int) ≤ x2 := by omega
  have y6 : (0 : Int) ≤ x3 := by omega
  have N1 := fun v w h => rnum_any b 0 4 x1 0 4 v w rfl rfl h (by omega) (by omega) hx1 hl
  have N2 := fun v w h => rnum_any b 4 1 x2 4 1 v w rfl rfl h (by omega) (by omega) hx2 hl
  have N3 := fun v w h => rnum_any b 5 2 x3 5 2 v w rfl rfl h (by omega) (by omega) hx3 hl
  have FL := fun w => refFields_any (x2 : Int) w
  unfold FldQ at FL
  have gI : hI (x2 : Int) (x3 : Int) = (decide ((x3 : Int) = 0) && hI (x2 : Int) 0) := by unfold hI; by_cases h : (x3 : Int) = 0 <;> simp [h]
  have gS : hS (x2 : Int) (x3 : Int) = (decide ((x3 : Int) = 0) && hS (x2 : Int) 0) := by unfold hS; by_cases h : (x3 : Int) = 0 <;> simp [h]
  have gU : hU (x2 : Int) (x3 : Int) = (decide ((x3 : Int) = 0) && hU (x2 : Int) 0) := by unfold hU; by_cases h : (x3 : Int) = 0 <;> simp [h]
  have gC : hC (x2 : Int) (x3 : Int) = (decide ((x3 : Int) = 0) && hC (x2 : Int) 0) := by unfold hC; by_cases h : (x3 : Int) = 0 <;> simp [h]
  obtain ⟨fI, hfI⟩ : ∃ b, b = hI (x2 : Int) 0 := ⟨_, rfl⟩
  obtain ⟨fS, hfS⟩ : ∃ b, b = hS (x2 : Int) 0 := ⟨_, rfl⟩
  obtain ⟨fU, hfU⟩ : ∃ b, b = hU (x2 : Int) 0 := ⟨_, rfl⟩
  obtain ⟨fC, hfC⟩ : ∃ b, b = hC (x2 : Int) 0 := ⟨_, rfl⟩
  rw [← hfI, ← hfS, ← hfU, ← hfC] at FL
  rw [← hfI] at gI
  rw [← hfS] at gS
  rw [← hfU] at gU
  rw [← hfC] at gC
  obtain ⟨eI, heI⟩ : ∃ b, b = hI (x2 : Int) (x3 : Int) := ⟨_, rfl⟩
  obtain ⟨eS, heS⟩ : ∃ b, b = hS (x2 : Int) (x3 : Int) := ⟨_, rfl⟩
  obtain ⟨eU, heU⟩ : ∃ b, b = hU (x2 : Int) (x3 : Int) := ⟨_, rfl⟩
  obtain ⟨eC, heC⟩ : ∃ b, b = hC (x2 : Int) (x3 : Int) := ⟨_, rfl⟩
  rw [← heI] at gI
  rw [← heS] at gS
  rw [← heU] at gU
  rw [← heC] at gC
  obtain ⟨P0, hP0⟩ : ∃ P, P = 7 := ⟨_, rfl⟩
  obtain ⟨P1, hP1⟩ : ∃ P, P = if eI = true then P0 + 4 else P0 := ⟨_, rfl⟩
  obtain ⟨P2, hP2⟩ : ∃ P, P = if eS = true then P1 + 2 else P1 := ⟨_, rfl⟩
  obtain ⟨P3, hP3⟩ : ∃ P, P = if eU = true then P2 + 8 else P2 := ⟨_, rfl⟩
  have l1 : P1 ≤ 11 := by rw [hP1]; split <;> omega
  have l2 : P2 ≤ 13 := by rw [hP2]; split <;> omega
  have l3 : P3 ≤ 21 := by rw [hP3]; split <;> omega
  obtain ⟨T, hTT⟩ : ∃ T, T = wrap64 (nb b P2 8) := ⟨_, rfl⟩
  obtain ⟨r0, hr0⟩ : ∃ r, r = (⟨x1, x2, x3, 0, 0, 0, 0⟩ : Rp) := ⟨_, rfl⟩
  obtain ⟨r1, hr1⟩ : ∃ r, r = if eI = true then { r0 with id := (nb b P0 4 : Int) } else r0 := ⟨_, rfl⟩
  obtain ⟨r2, hr2⟩ : ∃ r, r = if eS = true then { r1 with seat := (nb b P1 2 : Int) } else r1 := ⟨_, rfl⟩
  obtain ⟨r3, hr3⟩ : ∃ r, r = if eU = true then { r2 with till := T } else r2 := ⟨_, rfl⟩
  obtain ⟨r4, hr4⟩ : ∃ r, r = if eC = true then { r3 with count := (nb b P3 2 : Int) } else r3 := ⟨_, rfl⟩
  have hrf : rfR b = r4 := by
    unfold rfR
    rw [hx1, hx2, hx3]
    dsimp only
    rw [← heI, ← heS, ← heU, ← heC, hr4, hr3, hr2, hr1, hr0, hTT, hP3, hP2, hP1, hP0]
    cases eI <;> cases eS <;> cases eU <;> cases eC <;> simp only [reduceIte, Bool.false_eq_true, Nat.reduceAdd]
  have hro : r4.ok := by
    have hw : -9223372036854775808 ≤ T ∧ T ≤ 9223372036854775807 := by rw [hTT]; unfold wrap64; omega
    have q1 := nb_lt b P0 4
    have q2 := nb_lt b P1 2
    have q3 := nb_lt b P3 2
    clear hTT hrf
    rw [hr4, hr3, hr2, hr1, hr0]
    refine ⟨?_, ?_, ?_, ?_, ?_, ?_, ?_, ?_, ?_, ?_, ?_, ?_, ?_, ?_⟩ <;> cases eI <;> cases eS <;> cases eU <;> cases eC <;> simp <;> omega
  have HE := Lib.hid (And.intro gI (And.intro gS (And.intro gU gC)))
  have HRF := Lib.hid hrf
  have HR0 := Lib.hid hr0
  have HTT := Lib.hid hTT
  have HP0 := Lib.hid hP0
  clear hx1 hx2 hx3 hfI hfS hfU hfC heI heS heU heC gI gS gU gC hrf hr0 hTT
  have hck : chkR r4 = if mayR r4 = true then 0 else 210 := rfl
  have PUT := fun w => rrefPut_any r4 hro w
  unfold PutR at PUT
  have hB0 : (if mayR r4 = true then rbytes r4 else []).length ≤ 30 := by split; exact rlen r4; simp
  obtain ⟨M, hM⟩ : ∃ M, M = mayR r4 := ⟨_, rfl⟩
  rw [hck, ← hM] at PUT
  rw [← hM] at hB0
  have hok : rfROk b = (M && decide (rbytes r4 = b)) := by unfold rfROk; rw [HRF.out, ← hM]
  have HOK := Lib.hid hok
  clear hok hck hM hro
  unfold Rp.v at PUT
  have ke0 : r0.err = x3 := by rw [HR0.out]
  have ke1 : r1.err = x3 := by rw [hr1]; cases eI <;> exact ke0
  have ke2 : r2.err = x3 := by rw [hr2]; cases eS <;> exact ke1
  have ke3 : r3.err = x3 := by rw [hr3]; cases eU <;> exact ke2
  have HKE := Lib.hid (And.intro ke0 (And.intro ke1 (And.intro ke2 ke3)))
  have HhP1 := Lib.hid hP1
  have HhP2 := Lib.hid hP2
  have HhP3 := Lib.hid hP3
  have Hhr1 := Lib.hid hr1
  have Hhr2 := Lib.hid hr2
  have Hhr3 := Lib.hid hr3
  have Hhr4 := Lib.hid hr4
  clear ke0 ke1 ke2 ke3 hP0 hP1 hP2 hP3 hr1 hr2 hr3 hr4
  go_enter Tryd.func17, Tryd.ntmps17
  go_wp2_with (with_reducible refine st_alloc ?_)
  refine StopOp.go rfl fun K hK => ?_
  refine wp_alloc zero_rep ?_
  intro g w1 hg1 hg2 hm1 hB1
  simp only [put_some, List.set_cons_succ, List.set_cons_zero]
  refine hK _ _ ?_
  clear hK K
  go_wp2_with (first
                | (with_reducible refine st_alloc ?_)
                | (go_at_call 39; first
                   | ((with_reducible refine (N1 _ _ (hb.ext hm1)).mono ?_); rintro e w2 ⟨rfl, rfl⟩)
                   | ((with_reducible refine (N2 _ _ (hb.ext hm1)).mono ?_); rintro e w2 ⟨rfl, rfl⟩)
                   | ((with_reducible refine (N3 _ _ (hb.ext hm1)).mono ?_); rintro e w2 ⟨rfl, rfl⟩)))
  refine StopOp.go rfl fun K hK => ?_
  refine wp_alloc zero_rep ?_
  intro q w2 hq1 hq2 hm2 hB2
  simp only [put_some, List.set_cons_succ, List.set_cons_zero]
  refine hK _ _ ?_
  clear hK K
  go_wp2_with (with_reducible refine st_store ?_)
  refine StopOp.go rfl fun K hK => ?_
  refine wp_store (u := .agg #[.int .u32 (x1 : Nat), .int .i64 (x2 : Nat), .int .i64 (x3 : Nat), .int .u32 0, .int .i64 0, .int .i64 0, .int .i64 0]) (by rfl) (by rfl) (by kernel_rfl) hB2 (by simp [Value.cells]) (by simp [Value.cells, Value.oneCell']) ?_
  intro w3 hm3 hB3
  refine hK _ _ ?_
  clear hK K
  have hQ3 : Blk w3 q 26 (cellsR r0) := by
    unfold cellsR
    rw [HR0.out]
    exact hB3
  have d1 : w3.cell? ⟨q, 1, none⟩ = some (.int .i64 (x2 : Nat)) := hB3.cell' (i := 1) rfl
  have hm13 : Mod [] w1 w3 := hm2.fresh hm3 (by simpa using hq1)
  have hG3 : Blk w3 g 26 (cellsR rz) := (show Blk w1 g 26 (cellsR rz) from hB1).ext hm13
  have hM3 := hm1.ext hm13
  have hqw : w.heap.size ≤ q := Nat.le_trans hm1.size hq1
  have hgw : w.heap.size ≤ g := hg1
  have hgq : g ≠ q := by have := (show Blk w1 g 26 (cellsR rz) from hB1).lt; omega
  clear hB1 hB2 hB3 hm1 hm2 hm3 hm13
  go_wp2_with (first
                | (with_reducible refine st_alloc ?_)
                | (go_at_call 27; (with_reducible refine (FL _).mono ?_); rintro e w4 ⟨rfl, hm4⟩))
  refine StopOp.go rfl fun K hK => ?_
  refine wp_alloc zero_four ?_
  intro p w5 hp1 hp2 hm5 hP5
  simp only [put_some, List.set_cons_succ, List.set_cons_zero]
  refine hK _ _ ?_
  clear hK K
  go_wp2_with (with_reducible refine st_store ?_)
  refine StopOp.go rfl fun K hK => ?_
  refine wp_store (u := .agg #[.bool fI, .bool fS, .bool fU, .bool fC]) (by rfl) (by rfl) (by kernel_rfl) hP5 (by simp [Value.cells]) (by simp [Value.cells, Value.oneCell']) ?_
  intro w6 hm6 hP6
  refine hK _ _ ?_
  clear hK K
  have hm46 : Mod [] w4 w6 := hm5.fresh hm6 (by simpa using hp1)
  have hS0 : StG w q p g [.bool fI, .bool fS, .bool fU, .bool fC] P0 r0 (.int .i64 7) w6 := ⟨by rw [HP0.out]; rfl, (hQ3.ext hm4).ext hm46, hP6, (hG3.ext hm4).ext hm46, (hM3.ext hm4).ext hm46⟩
  have k3 : ∀ wx, Blk wx q 26 (cellsR r0) → wx.cell? ⟨q, 2, none⟩ = some (.int .i64 (x3 : Nat)) := fun wx h => by
    have := h.cell' (i := 2) (u := .int .i64 r0.err) rfl
    rw [this, HR0.out]
  clear hP5 hP6 hm5 hm6 hm46 hm4 hQ3 hG3 hM3 d1 k3 FL N1 N2 N3
  -- field id
  obtain ⟨wa0, hwa0⟩ : ∃ x, x = w6 := ⟨_, rfl⟩
  rw [← hwa0] at hS0 ⊢
  clear hwa0
  have c20 : wa0.cell? ⟨q, 2, none⟩ = some (.int .i64 (x3 : Nat)) := by
    have := hS0.2.1.cell' (i := 2) (u := .int .i64 r0.err) rfl
    rw [this, HKE.out.1]
  have f0 := hS0.2.2.1.cell' (i := 0) rfl
  go_upto_region 4 with fail
  go_cut [33] (fun s wx => s = .bool eI ∧ wa0 = wx)
  case first =>
    by_cases hz : (x3 : Int) = 0
    · have z1 : ((x3 : Int) == 0) = true := by simpa using hz
      have z2 : x3 = 0 := by omega
      have z3 : eI = fI := by rw [HE.out.1, decide_eq_true hz]; rfl
      subst z3
      clear hz
      go_wp2_with fail
      go_meet
      exact ⟨rfl, rfl⟩
    · have z1 : ((x3 : Int) == 0) = false := by simpa using hz
      have z2 : ¬ x3 = 0 := by omega
      have z3 : eI = false := by rw [HE.out.1, decide_eq_false hz]; rfl
      subst z3
      clear hz
      go_wp2_with fail
      go_meet
      exact ⟨rfl, rfl⟩
  case rest =>
  obtain ⟨rfl, rfl⟩ := hcut
  clear c20 f0
  go_upto_if 33 with fail
  go_cut [7] (fun s7 wx => StG w q p g [.bool fI, .bool fS, .bool fU, .bool fC] P1 r1 s7 wx)
  case first =>
    cases eI with
    | false =>
      have hP1 := HhP1.out
      rw [if_neg (by simp)] at hP1
      subst hP1
      have hr1 := Hhr1.out
      rw [if_neg (by simp)] at hr1
      subst hr1
      go_wp2_with fail
      go_meet
      exact hS0
    | true =>
      have hP1 := HhP1.out
      rw [if_pos rfl] at hP1
      have HyP1 := Lib.hid hP1
      clear hP1
      have hr1 := Hhr1.out
      rw [if_pos rfl] at hr1
      have Hyr1 := Lib.hid hr1
      clear hr1
      obtain ⟨hv7, hQ, hPb, hG, hM⟩ := hS0
      clear hv7
      obtain ⟨x, hx⟩ : ∃ x, nb b P0 4 = x := ⟨_, rfl⟩
      have m1 : (x : Int) ≤ 4294967295 := by have := nb_lt b P0 4; omega
      have m2 : (0 : Int) ≤ x := by omega
      have NN := fun v w h => rnum_any b P0 4 x 7 4 v w (by rw [HP0.out]; rfl) rfl h (by have := HP0.out; omega) (by omega) hx hl
      go_wp2_with (first | (with_reducible refine st_store ?_) | (go_at_call 39; (with_reducible refine (NN _ _ (hb.ext hM)).mono ?_); rintro e wb ⟨rfl, rfl⟩))
      refine StopOp.go rfl fun K hK => ?_
      refine wp_store1 (by kernel_rfl) (by rfl) (u := (.int .u32 (x : Nat))) (by rfl) ⟨rfl, rfl⟩ hQ (by simp [cellsR]) ?_
      intro wb hmb hBb
      refine hK _ _ ?_
      clear hK K
      have hr1 := Hyr1.out
      rw [hx] at hr1
      subst hr1
      go_wp2_with fail
      go_meet
      exact ⟨(by rw [HyP1.out, HP0.out]; first | rfl | go_num | simp), hBb, hPb.mod hmb (fun h => by have := hQ.ne hPb (by decide); simp at h; exact this h.symm), hG.mod hmb (by simpa using hgq), hM.fresh hmb (by simpa using hqw)⟩
  case rest =>
  clear hS0
  have hS1 := hcut
  clear hcut
  obtain ⟨wa1, hwa1⟩ : ∃ x, x = wc := ⟨_, rfl⟩
  rw [← hwa1] at hS1 ⊢
  clear hwa1
  obtain rfl := hS1.1
  -- field seat
  have c21 : wa1.cell? ⟨q, 2, none⟩ = some (.int .i64 (x3 : Nat)) := by
    have := hS1.2.1.cell' (i := 2) (u := .int .i64 r1.err) rfl
    rw [this, HKE.out.2.1]
  have f1 := hS1.2.2.1.cell' (i := 1) rfl
  go_upto_region 7 with fail
  go_cut [47] (fun s wx => s = .bool eS ∧ wa1 = wx)
  case first =>
    by_cases hz : (x3 : Int) = 0
    · have z1 : ((x3 : Int) == 0) = true := by simpa using hz
      have z2 : x3 = 0 := by omega
      have z3 : eS = fS := by rw [HE.out.2.1, decide_eq_true hz]; rfl
      subst z3
      clear hz
      go_wp2_with fail
      go_meet
      exact ⟨rfl, rfl⟩
    · have z1 : ((x3 : Int) == 0) = false := by simpa using hz
      have z2 : ¬ x3 = 0 := by omega
      have z3 : eS = false := by rw [HE.out.2.1, decide_eq_false hz]; rfl
      subst z3
      clear hz
      go_wp2_with fail
      go_meet
      exact ⟨rfl, rfl⟩
  case rest =>
  obtain ⟨rfl, rfl⟩ := hcut
  clear c21 f1
  go_upto_if 47 with fail
  go_cut [7] (fun s7 wx => StG w q p g [.bool fI, .bool fS, .bool fU, .bool fC] P2 r2 s7 wx)
  case first =>
    cases eS with
    | false =>
      have hP2 := HhP2.out
      rw [if_neg (by simp)] at hP2
      subst hP2
      have hr2 := Hhr2.out
      rw [if_neg (by simp)] at hr2
      subst hr2
      go_wp2_with fail
      go_meet
      exact hS1
    | true =>
      have hP2 := HhP2.out
      rw [if_pos rfl] at hP2
      have HyP2 := Lib.hid hP2
      clear hP2
      have hr2 := Hhr2.out
      rw [if_pos rfl] at hr2
      have Hyr2 := Lib.hid hr2
      clear hr2
      obtain ⟨hv7, hQ, hPb, hG, hM⟩ := hS1
      clear hv7
      obtain ⟨x, hx⟩ : ∃ x, nb b P1 2 = x := ⟨_, rfl⟩
      have m1 : (x : Int) ≤ 65535 := by have := nb_lt b P1 2; omega
      have m2 : (0 : Int) ≤ x := by omega
      have NN := fun v w h => rnum_any b P1 2 x (P1 : Nat) 2 v w rfl rfl h (by omega) (by omega) hx hl
      go_wp2_with (first | (with_reducible refine st_store ?_) | (go_at_call 39; (with_reducible refine (NN _ _ (hb.ext hM)).mono ?_); rintro e wb ⟨rfl, rfl⟩))
      refine StopOp.go rfl fun K hK => ?_
      refine wp_store1 (by kernel_rfl) (by rfl) (u := (.int .i64 (x : Nat))) (by rfl) ⟨rfl, rfl⟩ hQ (by simp [cellsR]) ?_
      intro wb hmb hBb
      refine hK _ _ ?_
      clear hK K
      have hr2 := Hyr2.out
      rw [hx] at hr2
      subst hr2
      go_wp2_with fail
      go_meet
      exact ⟨(by rw [HyP2.out]; first | rfl | go_num | simp), hBb, hPb.mod hmb (fun h => by have := hQ.ne hPb (by decide); simp at h; exact this h.symm), hG.mod hmb (by simpa using hgq), hM.fresh hmb (by simpa using hqw)⟩
  case rest =>
  clear hS1
  have hS2 := hcut
  clear hcut
  obtain ⟨wa2, hwa2⟩ : ∃ x, x = wc := ⟨_, rfl⟩
  rw [← hwa2] at hS2 ⊢
  clear hwa2
  obtain rfl := hS2.1
  -- field till
  have c22 : wa2.cell? ⟨q, 2, none⟩ = some (.int .i64 (x3 : Nat)) := by
    have := hS2.2.1.cell' (i := 2) (u := .int .i64 r2.err) rfl
    rw [this, HKE.out.2.2.1]
  have f2 := hS2.2.2.1.cell' (i := 2) rfl
  go_upto_region 10 with fail
  go_cut [61] (fun s wx => s = .bool eU ∧ wa2 = wx)
  case first =>
    by_cases hz : (x3 : Int) = 0
    · have z1 : ((x3 : Int) == 0) = true := by simpa using hz
      have z2 : x3 = 0 := by omega
      have z3 : eU = fU := by rw [HE.out.2.2.1, decide_eq_true hz]; rfl
      subst z3
      clear hz
      go_wp2_with fail
      go_meet
      exact ⟨rfl, rfl⟩
    · have z1 : ((x3 : Int) == 0) = false := by simpa using hz
      have z2 : ¬ x3 = 0 := by omega
      have z3 : eU = false := by rw [HE.out.2.2.1, decide_eq_false hz]; rfl
      subst z3
      clear hz
      go_wp2_with fail
      go_meet
      exact ⟨rfl, rfl⟩
  case rest =>
  obtain ⟨rfl, rfl⟩ := hcut
  clear c22 f2
  go_upto_if 61 with fail
  go_cut [7] (fun s7 wx => StG w q p g [.bool fI, .bool fS, .bool fU, .bool fC] P3 r3 s7 wx)
  case first =>
    cases eU with
    | false =>
      have hP3 := HhP3.out
      rw [if_neg (by simp)] at hP3
      subst hP3
      have hr3 := Hhr3.out
      rw [if_neg (by simp)] at hr3
      subst hr3
      go_wp2_with fail
      go_meet
      exact hS2
    | true =>
      have hP3 := HhP3.out
      rw [if_pos rfl] at hP3
      have HyP3 := Lib.hid hP3
      clear hP3
      have hr3 := Hhr3.out
      rw [if_pos rfl] at hr3
      have Hyr3 := Lib.hid hr3
      clear hr3
      obtain ⟨hv7, hQ, hPb, hG, hM⟩ := hS2
      clear hv7
      obtain ⟨x, hx⟩ : ∃ x, nb b P2 8 = x := ⟨_, rfl⟩
      have m1 : (x : Int) ≤ 18446744073709551615 := by have := nb_lt b P2 8; omega
      have m2 : (0 : Int) ≤ x := by omega
      have NN := fun v w h => rnum_any b P2 8 x (P2 : Nat) 8 v w rfl rfl h (by omega) (by omega) hx hl
      go_wp2_with (first | (with_reducible refine st_store ?_) | (go_at_call 39; (with_reducible refine (NN _ _ (hb.ext hM)).mono ?_); rintro e wb ⟨rfl, rfl⟩))
      refine StopOp.go rfl fun K hK => ?_
      refine wp_store1 (by kernel_rfl) (by rfl) (u := (.int .i64 (wrap64 x))) (by rfl) ⟨rfl, rfl⟩ hQ (by simp [cellsR]) ?_
      intro wb hmb hBb
      refine hK _ _ ?_
      clear hK K
      have hr3 := Hyr3.out
      have hTx := HTT.out; rw [hx] at hTx; rw [← hTx] at hBb
      subst hr3
      go_wp2_with fail
      go_meet
      exact ⟨(by rw [HyP3.out]; first | rfl | go_num | simp), hBb, hPb.mod hmb (fun h => by have := hQ.ne hPb (by decide); simp at h; exact this h.symm), hG.mod hmb (by simpa using hgq), hM.fresh hmb (by simpa using hqw)⟩
  case rest =>
  clear hS2
  have hS3 := hcut
  clear hcut
  obtain ⟨wa3, hwa3⟩ : ∃ x, x = wc := ⟨_, rfl⟩
  rw [← hwa3] at hS3 ⊢
  clear hwa3
  obtain rfl := hS3.1
  -- field count
  have c23 : wa3.cell? ⟨q, 2, none⟩ = some (.int .i64 (x3 : Nat)) := by
    have := hS3.2.1.cell' (i := 2) (u := .int .i64 r3.err) rfl
    rw [this, HKE.out.2.2.2]
  have f3 := hS3.2.2.1.cell' (i := 3) rfl
  go_upto_region 13 with fail
  go_cut [75] (fun s wx => s = .bool eC ∧ wa3 = wx)
  case first =>
    by_cases hz : (x3 : Int) = 0
    · have z1 : ((x3 : Int) == 0) = true := by simpa using hz
      have z2 : x3 = 0 := by omega
      have z3 : eC = fC := by rw [HE.out.2.2.2, decide_eq_true hz]; rfl
      subst z3
      clear hz
      go_wp2_with fail
      go_meet
      exact ⟨rfl, rfl⟩
    · have z1 : ((x3 : Int) == 0) = false := by simpa using hz
      have z2 : ¬ x3 = 0 := by omega
      have z3 : eC = false := by rw [HE.out.2.2.2, decide_eq_false hz]; rfl
      subst z3
      clear hz
      go_wp2_with fail
      go_meet
      exact ⟨rfl, rfl⟩
  case rest =>
  obtain ⟨rfl, rfl⟩ := hcut
  clear c23 f3
  go_upto_if 75 with fail
  go_cut [7] (fun s7 wx => ∃ P, StG w q p g [.bool fI, .bool fS, .bool fU, .bool fC] P r4 s7 wx)
  case first =>
    cases eC with
    | false =>
      have hr4 := Hhr4.out
      rw [if_neg (by simp)] at hr4
      subst hr4
      go_wp2_with fail
      go_meet
      exact ⟨_, hS3⟩
    | true =>
      have hr4 := Hhr4.out
      rw [if_pos rfl] at hr4
      have Hyr4 := Lib.hid hr4
      clear hr4
      obtain ⟨hv7, hQ, hPb, hG, hM⟩ := hS3
      clear hv7
      obtain ⟨x, hx⟩ : ∃ x, nb b P3 2 = x := ⟨_, rfl⟩
      have m1 : (x : Int) ≤ 65535 := by have := nb_lt b P3 2; omega
      have m2 : (0 : Int) ≤ x := by omega
      have NN := fun v w h => rnum_any b P3 2 x (P3 : Nat) 2 v w rfl rfl h (by omega) (by omega) hx hl
      go_wp2_with (first | (with_reducible refine st_store ?_) | (go_at_call 39; (with_reducible refine (NN _ _ (hb.ext hM)).mono ?_); rintro e wb ⟨rfl, rfl⟩))
      refine StopOp.go rfl fun K hK => ?_
      refine wp_store1 (by kernel_rfl) (by rfl) (u := (.int .i64 (x : Nat))) (by rfl) ⟨rfl, rfl⟩ hQ (by simp [cellsR]) ?_
      intro wb hmb hBb
      refine hK _ _ ?_
      clear hK K
      have hr4 := Hyr4.out
      rw [hx] at hr4
      subst hr4
      go_wp2_with fail
      go_meet
      exact ⟨_, ⟨rfl, hBb, hPb.mod hmb (fun h => by have := hQ.ne hPb (by decide); simp at h; exact this h.symm), hG.mod hmb (by simpa using hgq), hM.fresh hmb (by simpa using hqw)⟩⟩
  case rest =>
  clear hS3
  obtain ⟨P, hv7, hQ, hPb, hG, hM⟩ := hcut
  subst hv7
  have c0 := hQ.cell' (i := 0) rfl
  have c1 := hQ.cell' (i := 1) rfl
  have c2 := hQ.cell' (i := 2) rfl
  have c3 := hQ.cell' (i := 3) rfl
  have c4 := hQ.cell' (i := 4) rfl
  have c5 := hQ.cell' (i := 5) rfl
  have c6 := hQ.cell' (i := 6) rfl
  cases M with
  | false =>
    simp only [reduceIte, Bool.false_eq_true] at PUT
    go_wp2_with (first | (with_reducible refine st_store ?_) | (go_at_call 9; (with_reducible refine (PUT _).mono ?_); rintro e wp ⟨vp, rfl, hop, _, hmp⟩; obtain ⟨aop, capp, rfl, _, _⟩ := hop.bs.form; have hG' := hG.ext hmp))
    refine StopOp.go rfl fun K hK => ?_
    refine wp_store (u := .agg #[.int .u32 0, .int .i64 0, .int .i64 0, .int .u32 0, .int .i64 0, .int .i64 0, .int .i64 0]) (by rfl) (by rfl) (by kernel_rfl) hG' (by simp [Value.cells, cellsR]) (by simp [Value.cells, Value.oneCell']) ?_
    intro w12 hm12 hB12
    refine hK _ _ ?_
    clear hK K
    have z0 := hB12.cell' (i := 0) rfl
    have z1 := hB12.cell' (i := 1) rfl
    have z2 := hB12.cell' (i := 2) rfl
    have z3 := hB12.cell' (i := 3) rfl
    have z4 := hB12.cell' (i := 4) rfl
    have z5 := hB12.cell' (i := 5) rfl
    have z6 := hB12.cell' (i := 6) rfl
    go_wp2_with fail
    exact bodyPost_ret (v := .tuple #[.agg #[.int .u32 0, .int .i64 0, .int .i64 0, .int .u32 0, .int .i64 0, .int .i64 0, .int .i64 0], .int .i64 210]) (by simp [results, Tryd.results17, go_sem, z0, z1, z2, z3, z4, z5, z6]) rfl (rfROk_no (by rw [HOK.out]; rfl) _ _ _ rfl ((hM.ext hmp).fresh hm12 (by simpa using hgw)))
  | true =>
    simp only [reduceIte] at PUT hB0
    obtain ⟨B, hB⟩ : ∃ B, B = rbytes r4 := ⟨_, rfl⟩
    rw [← hB] at PUT hB0
    have HBB := Lib.hid hB
    clear hB
    by_cases hlen : B.length = b.length
    · have HLEN := Lib.hid hlen
      have n1 : ((B.length : Int) != b.length) = false := by simp [hlen]
      clear hlen
      go_wp2_with (go_at_call 9; (with_reducible refine (PUT _).mono ?_); rintro e wp ⟨vp, rfl, hop, _, hmp⟩; obtain ⟨aop, capp, rfl, _, _⟩ := hop.bs.form)
      have hG' := hG.ext hmp
      have hQ' := hQ.ext hmp
      have hMp := hM.ext hmp
      clear hG hQ hM hmp c0 c1 c2 c3 c4 c5 c6 hPb PUT
      go_loopw [10] (fun i wr => ∃ j : Nat, j ≤ b.length ∧ i = .int .i64 j ∧ B.take j = b.take j ∧ Mod [] wp wr) (fun i _ => b.length - (intOf i).toNat)
      case atStart => exact ⟨0, Nat.zero_le _, rfl, rfl, Mod.refl _ _⟩
      case round =>
        obtain ⟨j, hj, rfl, htake, hmr⟩ := hrel
        have Ht := Lib.hid htake
        clear htake
        by_cases hlt : j < b.length
        · obtain ⟨b1, o1, rfl, hc1⟩ := (hop.bs.ext hmr).byte (show j < B.length by have := HLEN.out; omega)
          obtain ⟨b2, o2, rfl, hc2⟩ := (hb.ext (hMp.ext hmr)).byte hlt
          have hjB : j < B.length := by have := HLEN.out; omega
          go_wp2_with fail
          refine wp_region_T [⟨0, true, []⟩, ⟨1, true, []⟩, ⟨2, true, []⟩, ⟨3, true, []⟩, ⟨4, true, []⟩, ⟨5, true, []⟩, ⟨6, true, []⟩, ⟨7, true, []⟩, ⟨8, true, []⟩] (by kernel_rfl) (by kernel_rfl) ?_
          go_wp2_with (first | (refine wpT_q rfl rfl (fun K hK => ?_)) | (refine wpT_nil ?_) | (with_reducible refine st_store ?_))
          · have hne : (((B[j]'hjB).toNat : Nat) != ((b[j]'hlt).toNat : Int)) = true := by assumption
            have hG2 := hG'.ext (hmr.ext (Mod.drew [] _))
            refine StopOp.go rfl fun K hK => ?_
            refine wp_store (u := .agg #[.int .u32 0, .int .i64 0, .int .i64 0, .int .u32 0, .int .i64 0, .int .i64 0, .int .i64 0]) (by rfl) (by rfl) (by kernel_rfl) hG2 (by simp [Value.cells, cellsR]) (by simp [Value.cells, Value.oneCell']) ?_
            intro w12 hm12 hB12
            refine hK _ _ ?_
            clear hK K
            have z0 := hB12.cell' (i := 0) rfl
            have z1 := hB12.cell' (i := 1) rfl
            have z2 := hB12.cell' (i := 2) rfl
            have z3 := hB12.cell' (i := 3) rfl
            have z4 := hB12.cell' (i := 4) rfl
            have z5 := hB12.cell' (i := 5) rfl
            have z6 := hB12.cell' (i := 6) rfl
            go_wp2_with fail
            exact bodyPost_ret (v := .tuple #[.agg #[.int .u32 0, .int .i64 0, .int .i64 0, .int .u32 0, .int .i64 0, .int .i64 0, .int .i64 0], .int .i64 210]) (by simp [results, Tryd.results17, go_sem, z0, z1, z2, z3, z4, z5, z6]) rfl (rfROk_no (by rw [HOK.out]; simp only [Bool.true_and]; refine decide_eq_false (fun e => ?_); have e2 := HBB.out.trans e; subst e2; simp at hne) _ _ _ rfl ((hMp.ext (hmr.ext (Mod.drew [] _))).fresh hm12 (by simpa using hgw)))
          · have hne : (((B[j]'hjB).toNat : Nat) != ((b[j]'hlt).toNat : Int)) = false := by assumption
            go_roundw
            case rel =>
              refine ⟨j + 1, by omega, by go_num, ?_, hmr.ext (Mod.drew [] _)⟩
              have he : B[j]'hjB = b[j]'hlt := by
                apply UInt8.toNat_inj.1
                have := by simpa using hne
                omega
              rw [List.take_succ_eq_append_getElem hjB, List.take_succ_eq_append_getElem hlt, Ht.out, he]
            case measure => simp [intOf]; omega
        · have hBb : B = b := by
            have h := Ht.out
            rwa [List.take_of_length_le (by have := HLEN.out; omega), List.take_of_length_le (by omega)] at h
          have hQ2 := hQ'.ext hmr
          have hG2 := hG'.ext hmr
          have f0 := hQ2.cell' (i := 0) rfl
          have f1 := hQ2.cell' (i := 1) rfl
          have f2 := hQ2.cell' (i := 2) rfl
          have f3 := hQ2.cell' (i := 3) rfl
          have f4 := hQ2.cell' (i := 4) rfl
          have f5 := hQ2.cell' (i := 5) rfl
          have f6 := hQ2.cell' (i := 6) rfl
          go_wp2_with (with_reducible refine st_store ?_)
          refine StopOp.go rfl fun K hK => ?_
          refine wp_store (u := .agg #[.int .u32 r4.tag, .int .i64 r4.kind, .int .i64 r4.err, .int .u32 r4.id, .int .i64 r4.seat, .int .i64 r4.till, .int .i64 r4.count]) (by rfl) (by rfl) (by kernel_rfl) hG2 (by simp [Value.cells, cellsR]) (by simp [Value.cells, Value.oneCell']) ?_
          intro w12 hm12 hB12
          refine hK _ _ ?_
          clear hK K
          have z0 := hB12.cell' (i := 0) rfl
          have z1 := hB12.cell' (i := 1) rfl
          have z2 := hB12.cell' (i := 2) rfl
          have z3 := hB12.cell' (i := 3) rfl
          have z4 := hB12.cell' (i := 4) rfl
          have z5 := hB12.cell' (i := 5) rfl
          have z6 := hB12.cell' (i := 6) rfl
          go_wp2_with fail
          exact bodyPost_ret (v := .tuple #[.agg #[.int .u32 r4.tag, .int .i64 r4.kind, .int .i64 r4.err, .int .u32 r4.id, .int .i64 r4.seat, .int .i64 r4.till, .int .i64 r4.count], .int .i64 0]) (by simp [results, Tryd.results17, go_sem, z0, z1, z2, z3, z4, z5, z6]) rfl (rfROk_yes (by rw [HOK.out, ← HBB.out, decide_eq_true hBb]; rfl) _ _ _ (by rw [HRF.out]; rfl) ((hMp.ext hmr).fresh hm12 (by simpa using hgw)))
    · have n1 : ((B.length : Int) != b.length) = true := by simp; omega
      have n2 : ¬ B.length = b.length := hlen
      go_wp2_with (first | (with_reducible refine st_store ?_) | (go_at_call 9; (with_reducible refine (PUT _).mono ?_); rintro e wp ⟨vp, rfl, hop, _, hmp⟩; obtain ⟨aop, capp, rfl, _, _⟩ := hop.bs.form; have hG' := hG.ext hmp))
      refine StopOp.go rfl fun K hK => ?_
      refine wp_store (u := .agg #[.int .u32 0, .int .i64 0, .int .i64 0, .int .u32 0, .int .i64 0, .int .i64 0, .int .i64 0]) (by rfl) (by rfl) (by kernel_rfl) hG' (by simp [Value.cells, cellsR]) (by simp [Value.cells, Value.oneCell']) ?_
      intro w12 hm12 hB12
      refine hK _ _ ?_
      clear hK K
      have z0 := hB12.cell' (i := 0) rfl
      have z1 := hB12.cell' (i := 1) rfl
      have z2 := hB12.cell' (i := 2) rfl
      have z3 := hB12.cell' (i := 3) rfl
      have z4 := hB12.cell' (i := 4) rfl
      have z5 := hB12.cell' (i := 5) rfl
      have z6 := hB12.cell' (i := 6) rfl
      go_wp2_with fail
      exact bodyPost_ret (v := .tuple #[.agg #[.int .u32 0, .int .i64 0, .int .i64 0, .int .u32 0, .int .i64 0, .int .i64 0, .int .i64 0], .int .i64 210]) (by simp [results, Tryd.results17, go_sem, z0, z1, z2, z3, z4, z5, z6]) rfl (rfROk_no (by rw [HOK.out]; simp only [Bool.true_and]; refine decide_eq_false (fun e => hlen (by rw [HBB.out, e]))) _ _ _ rfl ((hM.ext hmp).fresh hm12 (by simpa using hgw)))
end Go.Proofs.YtfcoaiggpcjldaaDoor
