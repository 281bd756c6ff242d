import Derived.Test.YtfcoaiggpcjldaaRqM
/-! The reference's Get. -/
set_option linter.unusedVariables false
set_option linter.unusedSimpArgs false
set_option maxRecDepth 100000
namespace Go.Proofs.Ytfcoaiggpcjldaa
open Go.RowKit Gw

theorem Bs.str {w : World} {ao : Option Addr} {n cap : Nat} {l : List UInt8} (h : Bs w (.slice ao n cap) l) : (convert 27 9 (.slice ao n cap)).run Try.prog w = .ok (.string ⟨l.toArray⟩) w := by
  obtain ⟨ao', cap', hv, hl, hc, hm, hn, hcell⟩ := h
  injection hv with e1 e2 e3
  subst e1 e2 e3
  cases ao with
  | none =>
    have h0 := hn rfl
    have h1 : l = [] := List.eq_nil_of_length_eq_zero (by omega)
    subst h1
    rw [run_convert_bytes_string w _ _ _ none _ _ Try.underlying27 Try.underlying5 Try.underlying9]
    simp [Conv.bytesToString, Sem.run_pure]
    rfl
  | some ad =>
    refine run_convert_bytes_back w _ _ _ ad cap l Try.underlying27 Try.underlying5 Try.underlying9 fun j hj => ?_
    by_cases hc0 : 0 < cap
    · have h1 := (hcell ad rfl).2 j _ (by simp [bv, hj]; rfl)
      have h2 : ad.add j = ⟨ad.block, ad.off + j, none⟩ := by
        have := (hcell ad rfl).1 hc0
        obtain ⟨b, o, s⟩ := ad
        dsimp only at this
        subst this
        simp [Addr.add]
      rw [h2]
      exact h1
    · omega
def partN (b : List UInt8) (at_ n : Nat) : Nat := if at_ + n ≤ b.length then val ((b.drop at_).take n) else 0
theorem partN_lt (b : List UInt8) (at_ n : Nat) : partN b at_ n < 256 ^ n := by
  unfold partN
  split
  · have := val_lt ((b.drop at_).take n)
    rwa [List.length_take, List.length_drop, Nat.min_eq_left (by omega)] at this
  · exact Nat.pow_pos (by omega)
set_option maxHeartbeats 1000000 in
theorem part_any (b : List UInt8) (p n : Nat) (x : Nat) (p' n' : Int) (v : Value) (w : World) (hp' : p' = p) (hn' : n' = n) (hv : Bs w v b) (hp : p ≤ 100) (h1 : 1 ≤ n) (h8 : n ≤ 8) (hx : partN b p n = x) (hl : b.length ≤ 140737488355328) :
    Calls Try.prog 36 #[v, .int .i64 p', .int .i64 n'] w fun e w' => e = .returned (.int .u64 x) ∧ w = w' := by
  subst hx hp' hn'
  obtain ⟨ao, cap, rfl, hc1, hc2⟩ := hv.form
  by_cases h : p + n ≤ b.length
  · have hcm : ¬ cap = p := by omega
    have hcut : Bs w (.slice (ao.map (·.add p)) n (cap - p)) ((b.drop p).take n) := by
      have := Sl.cut (lo := p) (hi := p + n) (m := cap) hv (by omega) h (by omega) (by omega)
      rw [if_neg hcm] at this
      unfold Bs
      rw [List.length_take, List.length_drop, Nat.min_eq_left (by omega)]
      have hb : bv ((b.drop p).take n) = ((bv b).drop p).take n := by simp [bv, List.map_take, List.map_drop]
      rw [hb]
      simpa using this
    have hx : partN b p n = val ((b.drop p).take n) := by unfold partN; rw [if_pos h]
    rw [hx]
    have hg8 : ((b.drop p).take n).length ≤ 8 := by rw [List.length_take]; omega
    have y1 : ¬ ((b.length : Int) < (p : Int) + n) := by omega
    have y2 : (p : Int) + n ≤ cap := by omega
    have y3 : (0 : Int) ≤ p := by omega
    have y4 : (0 : Int) ≤ n := by omega
    have y5 : p + n - p = n := by omega
    go_enter Try.func36, Try.ntmps36
    go_wp2_with (go_at_call 58; refine (refValue_any _ _ _ hcut hg8).mono ?_; rintro e w1 ⟨rfl, rfl⟩)
    go_ret
    exact ⟨rfl, rfl⟩
  · have hx : partN b p n = 0 := by unfold partN; rw [if_neg h]
    rw [hx]
    have y1 : (b.length : Int) < (p : Int) + n := by omega
    go_enter Try.func36, Try.ntmps36
    go_wp2
    go_ret
    exact ⟨rfl, rfl⟩

/-- what the bytes seem to say -/
def rfP (b : List UInt8) : Rq :=
  let H := has (partN b 0 1)
  let p1 := if (0 : Int) ∈ H then 9 else 5
  let p2 := if (1 : Int) ∈ H then p1 + 2 else p1
  ⟨partN b 0 1, partN b 1 4, if (0 : Int) ∈ H then partN b 5 4 else 0, if (1 : Int) ∈ H then partN b p1 2 else 0, if (2 : Int) ∈ H then wrap64 (partN b p2 8) else 0⟩
def rfOk (b : List UInt8) : Bool := mayB (rfP b) && decide (bytesOf (rfP b) = b)
def RefGetQ (b : List UInt8) (w : World) (e : Ending) (w' : World) : Prop :=
  e = .returned (.tuple #[if rfOk b = true then (rfP b).v else .agg #[.int .i64 0, .int .u32 0, .int .u32 0, .int .i64 0, .int .i64 0], .int .i64 (if rfOk b = true then 0 else 200)]) ∧ Mod [] w w'
theorem rfOk_no {b : List UInt8} (h : rfOk b = false) (w : World) (e : Ending) (w' : World) (he : e = .returned (.tuple #[.agg #[.int .i64 0, .int .u32 0, .int .u32 0, .int .i64 0, .int .i64 0], .int .i64 200])) (hm : Mod [] w w') : RefGetQ b w e w' := by
  unfold RefGetQ
  rw [h]
  exact ⟨he, hm⟩
theorem rfOk_yes {b : List UInt8} (h : rfOk b = true) (w : World) (e : Ending) (w' : World) (he : e = .returned (.tuple #[(rfP b).v, .int .i64 0])) (hm : Mod [] w w') : RefGetQ b w e w' := by
  unfold RefGetQ
  rw [h]
  exact ⟨he, hm⟩

set_option maxRecDepth 1000000 in
set_option maxHeartbeats 4000000 in
theorem refGet_n (b : List UInt8) (v : Value) (w : World) (hb : Bs w v b) (hl : b.length ≤ 140737488355328) (hH : has (partN b 0 1) = []) : Calls Try.prog 18 #[v] w (RefGetQ b w) := by
  obtain ⟨ao, cap, rfl, _, _⟩ := hb.form
  have hpq : rfP b = ⟨partN b 0 1, partN b 1 4, 0, 0, 0⟩ := by unfold rfP; rw [hH]; simp
  have HAS := fun w => refHas_val (partN b 0 1) false false false w (by rw [hB_eq _ _ hH]; decide) (by rw [hB_eq _ _ hH]; decide) (by rw [hB_eq _ _ hH]; decide)
  have l0 := partN_lt b 0 1
  have l1 := partN_lt b 1 4
  obtain ⟨k0, hk0⟩ : ∃ k, partN b 0 1 = k := ⟨_, rfl⟩
  obtain ⟨k1, hk1⟩ : ∃ k, partN b 1 4 = k := ⟨_, rfl⟩
  rw [hk0] at HAS
  rw [hk0] at l0
  rw [hk1] at l1
  rw [hk0, hk1] at hpq
  have P0 := fun v w h => part_any b 0 1 k0 0 1 v w rfl rfl h (by omega) (by omega) (by omega) hk0 hl
  have P1 := fun v w h => part_any b 1 4 k1 1 4 v w rfl rfl h (by omega) (by omega) (by omega) hk1 hl
  have m0 : (k0 : Int) ≤ 255 := by omega
  have m0' : (0 : Int) ≤ k0 := by omega
  have m1 : (k1 : Int) ≤ 4294967295 := by omega
  have m1' : (0 : Int) ≤ k1 := by omega
  have hqok : ((⟨k0, k1, 0, 0, 0⟩ : Rq)).ok := ⟨by dsimp only; omega, by dsimp only; omega, by dsimp only; omega, by dsimp only; omega, by dsimp only; (try unfold wrap64); omega, by dsimp only; (try unfold wrap64); omega, by dsimp only; (try unfold wrap64); omega, by dsimp only; (try unfold wrap64); omega⟩
  have PUT := fun w => refPut_any (⟨k0, k1, 0, 0, 0⟩ : Rq) w hqok
  unfold PutQ at PUT
  clear hqok l0 l1 hk0 hk1  hH
  dsimp only [Rq.v] at PUT
  try simp only [show ((0 : Nat) : Int) = 0 from rfl] at PUT
  obtain ⟨B, hB⟩ : ∃ B, B = bytesOf ⟨k0, k1, 0, 0, 0⟩ := ⟨_, rfl⟩
  obtain ⟨M, hM⟩ : ∃ M, M = mayB ⟨k0, k1, 0, 0, 0⟩ := ⟨_, rfl⟩
  have hchk : chk ⟨k0, k1, 0, 0, 0⟩ = if M = true then 0 else 200 := by unfold chk; rw [← hM]
  rw [← hB, ← hM, hchk] at PUT
  have hrf : rfOk b = (M && decide (B = b)) := by unfold rfOk; rw [hpq, ← hB, ← hM]
  have HP := Lib.hid hpq
  have HRF := Lib.hid hrf
  clear hpq hrf hB hM hchk
  go_enter Try.func18, Try.ntmps18
  go_wp2_with (with_reducible refine st_alloc ?_)
  refine StopOp.go rfl fun K hK => ?_
  refine wp_alloc zero_req ?_
  intro g w1 hg1 hg2 hm1 hB1
  simp only [put_some, List.set_cons_succ, List.set_cons_zero]
  refine hK _ _ ?_
  clear hK K
  go_wp2_with (first
                | (with_reducible refine st_alloc ?_)
                | (go_at_call 36; first | ((with_reducible refine (P0 _ _ (hb.ext hm1)).mono ?_); rintro e w2 ⟨rfl, rfl⟩) | ((with_reducible refine (P1 _ _ (hb.ext hm1)).mono ?_); rintro e w2 ⟨rfl, rfl⟩)))
  refine StopOp.go rfl fun K hK => ?_
  refine wp_alloc zero_req ?_
  intro q w2 hq1 hq2 hm2 hB2
  simp only [put_some, List.set_cons_succ, List.set_cons_zero]
  refine hK _ _ ?_
  clear hK K
  go_wp2_with (with_reducible refine st_store ?_)
  refine StopOp.go rfl fun K hK => ?_
  refine wp_store (u := .agg #[.int .i64 (k0 : Nat), .int .u32 (k1 : Nat), .int .u32 0, .int .i64 0, .int .i64 0]) (by rfl) (by rfl) (by kernel_rfl) hB2 (by simp [Value.cells]) (by simp [Value.cells, Value.oneCell']) ?_
  intro w3 hm3 hB3
  refine hK _ _ ?_
  clear hK K
  have hX : Blk w3 q 25 [.int .i64 (k0 : Nat), .int .u32 (k1 : Nat), .int .u32 0, .int .i64 0, .int .i64 0] := hB3
  have hm23 : Mod [] w1 w3 := hm2.fresh hm3 (by simpa using hq1)
  have hT := hB1.ext hm23
  have hMx := hm1.ext hm23
  have hgw : w.heap.size ≤ g := hg1
  have hqw : w.heap.size ≤ q := Nat.le_trans hm1.size hq1
  have hgq : g ≠ q := by have := hB1.lt; omega
  have d0 := hX.cell' (i := 0) rfl
  clear hB1 hB2 hB3 hm1 hm2 hm3 hm23
  have c0 := hX.cell' (i := 0) rfl
  have c1 := hX.cell' (i := 1) rfl
  have c2 := hX.cell' (i := 2) rfl
  have c3 := hX.cell' (i := 3) rfl
  have c4 := hX.cell' (i := 4) rfl
  cases M with
  | false =>
    simp only [reduceIte, Bool.false_eq_true] at PUT
    go_wp2_with (first
                  | (with_reducible refine st_store ?_)
                  | (go_at_call 28; (with_reducible refine (HAS _).mono ?_); rintro e wz ⟨rfl, rfl⟩)
                  | (go_at_call 10; (with_reducible refine (PUT _).mono ?_); rintro e wp ⟨vp, rfl, hop, _, hmp⟩; obtain ⟨aop, capp, rfl, _, _⟩ := hop.bs.form; have hT' := hT.ext hmp))
    refine StopOp.go rfl fun K hK => ?_
    refine wp_store (u := .agg #[.int .i64 0, .int .u32 0, .int .u32 0, .int .i64 0, .int .i64 0]) (by rfl) (by rfl) (by kernel_rfl) hT' (by simp [Value.cells]) (by simp [Value.cells, Value.oneCell']) ?_
    intro w12 hm12 hB12
    refine hK _ _ ?_
    clear hK K
    have z0 := hB12.cell' (i := 0) rfl
    have z1 := hB12.cell' (i := 1) rfl
    have z2 := hB12.cell' (i := 2) rfl
    have z3 := hB12.cell' (i := 3) rfl
    have z4 := hB12.cell' (i := 4) rfl
    go_wp2_with fail
    exact bodyPost_ret (v := .tuple #[.agg #[.int .i64 0, .int .u32 0, .int .u32 0, .int .i64 0, .int .i64 0], .int .i64 200]) (by simp [results, Try.results18, go_sem, z0, z1, z2, z3, z4]) rfl (rfOk_no (by rw [HRF.out]; rfl) _ _ _ rfl ((hMx.ext hmp).fresh hm12 (by simpa using hgw)))
  | true =>
    simp only [reduceIte] at PUT
    by_cases hBb : B = b
    · subst hBb
      go_wp2_with (first
                    | (with_reducible refine st_store ?_)
                    | (go_at_call 28; (with_reducible refine (HAS _).mono ?_); rintro e wz ⟨rfl, rfl⟩)
                    | (go_at_call 10; (with_reducible refine (PUT _).mono ?_); rintro e wp ⟨vp, rfl, hop, _, hmp⟩; obtain ⟨aop, capp, rfl, _, _⟩ := hop.bs.form; have hT' := hT.ext hmp; have s1 := hop.bs.str; have s2 := Bs.str (hb.ext (hMx.ext hmp)); have hX' := hX.ext hmp; have f0 := hX'.cell' (i := 0) rfl; have f1 := hX'.cell' (i := 1) rfl; have f2 := hX'.cell' (i := 2) rfl; have f3 := hX'.cell' (i := 3) rfl; have f4 := hX'.cell' (i := 4) rfl))
      refine StopOp.go rfl fun K hK => ?_
      refine wp_store (u := .agg #[.int .i64 (k0 : Nat), .int .u32 (k1 : Nat), .int .u32 0, .int .i64 0, .int .i64 0]) (by rfl) (by rfl) (by kernel_rfl) hT' (by simp [Value.cells]) (by simp [Value.cells, Value.oneCell']) ?_
      intro w12 hm12 hB12
      refine hK _ _ ?_
      clear hK K
      have z0 := hB12.cell' (i := 0) rfl
      have z1 := hB12.cell' (i := 1) rfl
      have z2 := hB12.cell' (i := 2) rfl
      have z3 := hB12.cell' (i := 3) rfl
      have z4 := hB12.cell' (i := 4) rfl
      go_wp2_with fail
      exact bodyPost_ret (v := .tuple #[.agg #[.int .i64 (k0 : Nat), .int .u32 (k1 : Nat), .int .u32 0, .int .i64 0, .int .i64 0], .int .i64 0]) (by simp [results, Try.results18, go_sem, z0, z1, z2, z3, z4]) rfl (rfOk_yes (by rw [HRF.out]; simp) _ _ _ (by rw [HP.out]; rfl) ((hMx.ext hmp).fresh hm12 (by simpa using hgw)))
    · have hne : (B == b) = false := by simpa using hBb
      go_wp2_with (first
                    | (with_reducible refine st_store ?_)
                    | (go_at_call 28; (with_reducible refine (HAS _).mono ?_); rintro e wz ⟨rfl, rfl⟩)
                    | (go_at_call 10; (with_reducible refine (PUT _).mono ?_); rintro e wp ⟨vp, rfl, hop, _, hmp⟩; obtain ⟨aop, capp, rfl, _, _⟩ := hop.bs.form; have hT' := hT.ext hmp; have s1 := hop.bs.str; have s2 := Bs.str (hb.ext (hMx.ext hmp))))
      refine StopOp.go rfl fun K hK => ?_
      refine wp_store (u := .agg #[.int .i64 0, .int .u32 0, .int .u32 0, .int .i64 0, .int .i64 0]) (by rfl) (by rfl) (by kernel_rfl) hT' (by simp [Value.cells]) (by simp [Value.cells, Value.oneCell']) ?_
      intro w12 hm12 hB12
      refine hK _ _ ?_
      clear hK K
      have z0 := hB12.cell' (i := 0) rfl
      have z1 := hB12.cell' (i := 1) rfl
      have z2 := hB12.cell' (i := 2) rfl
      have z3 := hB12.cell' (i := 3) rfl
      have z4 := hB12.cell' (i := 4) rfl
      go_wp2_with fail
      exact bodyPost_ret (v := .tuple #[.agg #[.int .i64 0, .int .u32 0, .int .u32 0, .int .i64 0, .int .i64 0], .int .i64 200]) (by simp [results, Try.results18, go_sem, z0, z1, z2, z3, z4]) rfl (rfOk_no (by rw [HRF.out, decide_eq_false hBb]; rfl) _ _ _ rfl ((hMx.ext hmp).fresh hm12 (by simpa using hgw)))

set_option maxRecDepth 1000000 in
set_option maxHeartbeats 4000000 in
theorem refGet_i (b : List UInt8) (v : Value) (w : World) (hb : Bs w v b) (hl : b.length ≤ 140737488355328) (hH : has (partN b 0 1) = [0]) : Calls Try.prog 18 #[v] w (RefGetQ b w) := by
  obtain ⟨ao, cap, rfl, _, _⟩ := hb.form
  have hpq : rfP b = ⟨partN b 0 1, partN b 1 4, partN b 5 4, 0, 0⟩ := by unfold rfP; rw [hH]; simp
  have HAS := fun w => refHas_val (partN b 0 1) true false false w (by rw [hB_eq _ _ hH]; decide) (by rw [hB_eq _ _ hH]; decide) (by rw [hB_eq _ _ hH]; decide)
  have l0 := partN_lt b 0 1
  have l1 := partN_lt b 1 4
  obtain ⟨k0, hk0⟩ : ∃ k, partN b 0 1 = k := ⟨_, rfl⟩
  obtain ⟨k1, hk1⟩ : ∃ k, partN b 1 4 = k := ⟨_, rfl⟩
  rw [hk0] at HAS
  rw [hk0] at l0
  rw [hk1] at l1
  rw [hk0, hk1] at hpq
  have P0 := fun v w h => part_any b 0 1 k0 0 1 v w rfl rfl h (by omega) (by omega) (by omega) hk0 hl
  have P1 := fun v w h => part_any b 1 4 k1 1 4 v w rfl rfl h (by omega) (by omega) (by omega) hk1 hl
  have m0 : (k0 : Int) ≤ 255 := by omega
  have m0' : (0 : Int) ≤ k0 := by omega
  have m1 : (k1 : Int) ≤ 4294967295 := by omega
  have m1' : (0 : Int) ≤ k1 := by omega
  have l2 := partN_lt b 5 4
  obtain ⟨k2, hk2⟩ : ∃ k, partN b 5 4 = k := ⟨_, rfl⟩
  rw [hk2] at l2
  rw [hk2] at hpq
  have P2 := fun v w h => part_any b 5 4 k2 5 4 v w rfl rfl h (by omega) (by omega) (by omega) hk2 hl
  have m2 : (k2 : Int) ≤ 4294967295 := by omega
  have m2' : (0 : Int) ≤ k2 := by omega
  have hqok : ((⟨k0, k1, k2, 0, 0⟩ : Rq)).ok := ⟨by dsimp only; omega, by dsimp only; omega, by dsimp only; omega, by dsimp only; omega, by dsimp only; (try unfold wrap64); omega, by dsimp only; (try unfold wrap64); omega, by dsimp only; (try unfold wrap64); omega, by dsimp only; (try unfold wrap64); omega⟩
  have PUT := fun w => refPut_any (⟨k0, k1, k2, 0, 0⟩ : Rq) w hqok
  unfold PutQ at PUT
  clear hqok l0 l1 l2 hk0 hk1 hk2 hH
  dsimp only [Rq.v] at PUT
  try simp only [show ((0 : Nat) : Int) = 0 from rfl] at PUT
  obtain ⟨B, hB⟩ : ∃ B, B = bytesOf ⟨k0, k1, k2, 0, 0⟩ := ⟨_, rfl⟩
  obtain ⟨M, hM⟩ : ∃ M, M = mayB ⟨k0, k1, k2, 0, 0⟩ := ⟨_, rfl⟩
  have hchk : chk ⟨k0, k1, k2, 0, 0⟩ = if M = true then 0 else 200 := by unfold chk; rw [← hM]
  rw [← hB, ← hM, hchk] at PUT
  have hrf : rfOk b = (M && decide (B = b)) := by unfold rfOk; rw [hpq, ← hB, ← hM]
  have HP := Lib.hid hpq
  have HRF := Lib.hid hrf
  clear hpq hrf hB hM hchk
  go_enter Try.func18, Try.ntmps18
  go_wp2_with (with_reducible refine st_alloc ?_)
  refine StopOp.go rfl fun K hK => ?_
  refine wp_alloc zero_req ?_
  intro g w1 hg1 hg2 hm1 hB1
  simp only [put_some, List.set_cons_succ, List.set_cons_zero]
  refine hK _ _ ?_
  clear hK K
  go_wp2_with (first
                | (with_reducible refine st_alloc ?_)
                | (go_at_call 36; first | ((with_reducible refine (P0 _ _ (hb.ext hm1)).mono ?_); rintro e w2 ⟨rfl, rfl⟩) | ((with_reducible refine (P1 _ _ (hb.ext hm1)).mono ?_); rintro e w2 ⟨rfl, rfl⟩)))
  refine StopOp.go rfl fun K hK => ?_
  refine wp_alloc zero_req ?_
  intro q w2 hq1 hq2 hm2 hB2
  simp only [put_some, List.set_cons_succ, List.set_cons_zero]
  refine hK _ _ ?_
  clear hK K
  go_wp2_with (with_reducible refine st_store ?_)
  refine StopOp.go rfl fun K hK => ?_
  refine wp_store (u := .agg #[.int .i64 (k0 : Nat), .int .u32 (k1 : Nat), .int .u32 0, .int .i64 0, .int .i64 0]) (by rfl) (by rfl) (by kernel_rfl) hB2 (by simp [Value.cells]) (by simp [Value.cells, Value.oneCell']) ?_
  intro w3 hm3 hB3
  refine hK _ _ ?_
  clear hK K
  have hX : Blk w3 q 25 [.int .i64 (k0 : Nat), .int .u32 (k1 : Nat), .int .u32 0, .int .i64 0, .int .i64 0] := hB3
  have hm23 : Mod [] w1 w3 := hm2.fresh hm3 (by simpa using hq1)
  have hT := hB1.ext hm23
  have hMx := hm1.ext hm23
  have hgw : w.heap.size ≤ g := hg1
  have hqw : w.heap.size ≤ q := Nat.le_trans hm1.size hq1
  have hgq : g ≠ q := by have := hB1.lt; omega
  have d0 := hX.cell' (i := 0) rfl
  clear hB1 hB2 hB3 hm1 hm2 hm3 hm23
  go_wp2_with (first
                | (with_reducible refine st_store ?_)
                | (go_at_call 28; (with_reducible refine (HAS _).mono ?_); rintro e wz ⟨rfl, rfl⟩)
                | (go_at_call 36; (with_reducible refine (P2 _ _ (hb.ext hMx)).mono ?_); rintro e wz ⟨rfl, rfl⟩))
  refine StopOp.go rfl fun K hK => ?_
  refine wp_store1 (by kernel_rfl) (by rfl) (u := (.int .u32 (k2 : Nat))) (by rfl) ⟨rfl, rfl⟩ hX (by simp) ?_
  intro w4 hm4 hB4
  refine hK _ _ ?_
  clear hK K
  have hT4 := hT.mod hm4 (by simpa using hgq)
  have hMx4 := hMx.fresh hm4 (by simpa using hqw)
  have hX4 : Blk w4 q 25 [.int .i64 (k0 : Nat), .int .u32 (k1 : Nat), .int .u32 (k2 : Nat), .int .i64 0, .int .i64 0] := hB4
  clear hT hX d0
  have hT := hT4
  have hX := hX4
  have d0 := hX.cell' (i := 0) rfl
  have hMx' := hMx4
  clear hMx hT4 hX4 hMx4 hB4 hm4
  have hMx := hMx'
  clear hMx'
  have c0 := hX.cell' (i := 0) rfl
  have c1 := hX.cell' (i := 1) rfl
  have c2 := hX.cell' (i := 2) rfl
  have c3 := hX.cell' (i := 3) rfl
  have c4 := hX.cell' (i := 4) rfl
  cases M with
  | false =>
    simp only [reduceIte, Bool.false_eq_true] at PUT
    go_wp2_with (first
                  | (with_reducible refine st_store ?_)
                  | (go_at_call 10; (with_reducible refine (PUT _).mono ?_); rintro e wp ⟨vp, rfl, hop, _, hmp⟩; obtain ⟨aop, capp, rfl, _, _⟩ := hop.bs.form; have hT' := hT.ext hmp))
    refine StopOp.go rfl fun K hK => ?_
    refine wp_store (u := .agg #[.int .i64 0, .int .u32 0, .int .u32 0, .int .i64 0, .int .i64 0]) (by rfl) (by rfl) (by kernel_rfl) hT' (by simp [Value.cells]) (by simp [Value.cells, Value.oneCell']) ?_
    intro w12 hm12 hB12
    refine hK _ _ ?_
    clear hK K
    have z0 := hB12.cell' (i := 0) rfl
    have z1 := hB12.cell' (i := 1) rfl
    have z2 := hB12.cell' (i := 2) rfl
    have z3 := hB12.cell' (i := 3) rfl
    have z4 := hB12.cell' (i := 4) rfl
    go_wp2_with fail
    exact bodyPost_ret (v := .tuple #[.agg #[.int .i64 0, .int .u32 0, .int .u32 0, .int .i64 0, .int .i64 0], .int .i64 200]) (by simp [results, Try.results18, go_sem, z0, z1, z2, z3, z4]) rfl (rfOk_no (by rw [HRF.out]; rfl) _ _ _ rfl ((hMx.ext hmp).fresh hm12 (by simpa using hgw)))
  | true =>
    simp only [reduceIte] at PUT
    by_cases hBb : B = b
    · subst hBb
      go_wp2_with (first
                    | (with_reducible refine st_store ?_)
                    | (go_at_call 10; (with_reducible refine (PUT _).mono ?_); rintro e wp ⟨vp, rfl, hop, _, hmp⟩; obtain ⟨aop, capp, rfl, _, _⟩ := hop.bs.form; have hT' := hT.ext hmp; have s1 := hop.bs.str; have s2 := Bs.str (hb.ext (hMx.ext hmp)); have hX' := hX.ext hmp; have f0 := hX'.cell' (i := 0) rfl; have f1 := hX'.cell' (i := 1) rfl; have f2 := hX'.cell' (i := 2) rfl; have f3 := hX'.cell' (i := 3) rfl; have f4 := hX'.cell' (i := 4) rfl))
      refine StopOp.go rfl fun K hK => ?_
      refine wp_store (u := .agg #[.int .i64 (k0 : Nat), .int .u32 (k1 : Nat), .int .u32 (k2 : Nat), .int .i64 0, .int .i64 0]) (by rfl) (by rfl) (by kernel_rfl) hT' (by simp [Value.cells]) (by simp [Value.cells, Value.oneCell']) ?_
      intro w12 hm12 hB12
      refine hK _ _ ?_
      clear hK K
      have z0 := hB12.cell' (i := 0) rfl
      have z1 := hB12.cell' (i := 1) rfl
      have z2 := hB12.cell' (i := 2) rfl
      have z3 := hB12.cell' (i := 3) rfl
      have z4 := hB12.cell' (i := 4) rfl
      go_wp2_with fail
      exact bodyPost_ret (v := .tuple #[.agg #[.int .i64 (k0 : Nat), .int .u32 (k1 : Nat), .int .u32 (k2 : Nat), .int .i64 0, .int .i64 0], .int .i64 0]) (by simp [results, Try.results18, go_sem, z0, z1, z2, z3, z4]) rfl (rfOk_yes (by rw [HRF.out]; simp) _ _ _ (by rw [HP.out]; rfl) ((hMx.ext hmp).fresh hm12 (by simpa using hgw)))
    · have hne : (B == b) = false := by simpa using hBb
      go_wp2_with (first
                    | (with_reducible refine st_store ?_)
                    | (go_at_call 10; (with_reducible refine (PUT _).mono ?_); rintro e wp ⟨vp, rfl, hop, _, hmp⟩; obtain ⟨aop, capp, rfl, _, _⟩ := hop.bs.form; have hT' := hT.ext hmp; have s1 := hop.bs.str; have s2 := Bs.str (hb.ext (hMx.ext hmp))))
      refine StopOp.go rfl fun K hK => ?_
      refine wp_store (u := .agg #[.int .i64 0, .int .u32 0, .int .u32 0, .int .i64 0, .int .i64 0]) (by rfl) (by rfl) (by kernel_rfl) hT' (by simp [Value.cells]) (by simp [Value.cells, Value.oneCell']) ?_
      intro w12 hm12 hB12
      refine hK _ _ ?_
      clear hK K
      have z0 := hB12.cell' (i := 0) rfl
      have z1 := hB12.cell' (i := 1) rfl
      have z2 := hB12.cell' (i := 2) rfl
      have z3 := hB12.cell' (i := 3) rfl
      have z4 := hB12.cell' (i := 4) rfl
      go_wp2_with fail
      exact bodyPost_ret (v := .tuple #[.agg #[.int .i64 0, .int .u32 0, .int .u32 0, .int .i64 0, .int .i64 0], .int .i64 200]) (by simp [results, Try.results18, go_sem, z0, z1, z2, z3, z4]) rfl (rfOk_no (by rw [HRF.out, decide_eq_false hBb]; rfl) _ _ _ rfl ((hMx.ext hmp).fresh hm12 (by simpa using hgw)))

set_option maxRecDepth 1000000 in
set_option maxHeartbeats 4000000 in
theorem refGet_s (b : List UInt8) (v : Value) (w : World) (hb : Bs w v b) (hl : b.length ≤ 140737488355328) (hH : has (partN b 0 1) = [1]) : Calls Try.prog 18 #[v] w (RefGetQ b w) := by
  obtain ⟨ao, cap, rfl, _, _⟩ := hb.form
  have hpq : rfP b = ⟨partN b 0 1, partN b 1 4, 0, partN b 5 2, 0⟩ := by unfold rfP; rw [hH]; simp
  have HAS := fun w => refHas_val (partN b 0 1) false true false w (by rw [hB_eq _ _ hH]; decide) (by rw [hB_eq _ _ hH]; decide) (by rw [hB_eq _ _ hH]; decide)
  have l0 := partN_lt b 0 1
  have l1 := partN_lt b 1 4
  obtain ⟨k0, hk0⟩ : ∃ k, partN b 0 1 = k := ⟨_, rfl⟩
  obtain ⟨k1, hk1⟩ : ∃ k, partN b 1 4 = k := ⟨_, rfl⟩
  rw [hk0] at HAS
  rw [hk0] at l0
  rw [hk1] at l1
  rw [hk0, hk1] at hpq
  have P0 := fun v w h => part_any b 0 1 k0 0 1 v w rfl rfl h (by omega) (by omega) (by omega) hk0 hl
  have P1 := fun v w h => part_any b 1 4 k1 1 4 v w rfl rfl h (by omega) (by omega) (by omega) hk1 hl
  have m0 : (k0 : Int) ≤ 255 := by omega
  have m0' : (0 : Int) ≤ k0 := by omega
  have m1 : (k1 : Int) ≤ 4294967295 := by omega
  have m1' : (0 : Int) ≤ k1 := by omega
  have l3 := partN_lt b 5 2
  obtain ⟨k3, hk3⟩ : ∃ k, partN b 5 2 = k := ⟨_, rfl⟩
  rw [hk3] at l3
  rw [hk3] at hpq
  have P3 := fun v w h => part_any b 5 2 k3 5 2 v w rfl rfl h (by omega) (by omega) (by omega) hk3 hl
  have m3 : (k3 : Int) ≤ 65535 := by omega
  have m3' : (0 : Int) ≤ k3 := by omega
  have hqok : ((⟨k0, k1, 0, k3, 0⟩ : Rq)).ok := ⟨by dsimp only; omega, by dsimp only; omega, by dsimp only; omega, by dsimp only; omega, by dsimp only; (try unfold wrap64); omega, by dsimp only; (try unfold wrap64); omega, by dsimp only; (try unfold wrap64); omega, by dsimp only; (try unfold wrap64); omega⟩
  have PUT := fun w => refPut_any (⟨k0, k1, 0, k3, 0⟩ : Rq) w hqok
  unfold PutQ at PUT
  clear hqok l0 l1 l3 hk0 hk1 hk3 hH
  dsimp only [Rq.v] at PUT
  try simp only [show ((0 : Nat) : Int) = 0 from rfl] at PUT
  obtain ⟨B, hB⟩ : ∃ B, B = bytesOf ⟨k0, k1, 0, k3, 0⟩ := ⟨_, rfl⟩
  obtain ⟨M, hM⟩ : ∃ M, M = mayB ⟨k0, k1, 0, k3, 0⟩ := ⟨_, rfl⟩
  have hchk : chk ⟨k0, k1, 0, k3, 0⟩ = if M = true then 0 else 200 := by unfold chk; rw [← hM]
  rw [← hB, ← hM, hchk] at PUT
  have hrf : rfOk b = (M && decide (B = b)) := by unfold rfOk; rw [hpq, ← hB, ← hM]
  have HP := Lib.hid hpq
  have HRF := Lib.hid hrf
  clear hpq hrf hB hM hchk
  go_enter Try.func18, Try.ntmps18
  go_wp2_with (with_reducible refine st_alloc ?_)
  refine StopOp.go rfl fun K hK => ?_
  refine wp_alloc zero_req ?_
  intro g w1 hg1 hg2 hm1 hB1
  simp only [put_some, List.set_cons_succ, List.set_cons_zero]
  refine hK _ _ ?_
  clear hK K
  go_wp2_with (first
                | (with_reducible refine st_alloc ?_)
                | (go_at_call 36; first | ((with_reducible refine (P0 _ _ (hb.ext hm1)).mono ?_); rintro e w2 ⟨rfl, rfl⟩) | ((with_reducible refine (P1 _ _ (hb.ext hm1)).mono ?_); rintro e w2 ⟨rfl, rfl⟩)))
  refine StopOp.go rfl fun K hK => ?_
  refine wp_alloc zero_req ?_
  intro q w2 hq1 hq2 hm2 hB2
  simp only [put_some, List.set_cons_succ, List.set_cons_zero]
  refine hK _ _ ?_
  clear hK K
  go_wp2_with (with_reducible refine st_store ?_)
  refine StopOp.go rfl fun K hK => ?_
  refine wp_store (u := .agg #[.int .i64 (k0 : Nat), .int .u32 (k1 : Nat), .int .u32 0, .int .i64 0, .int .i64 0]) (by rfl) (by rfl) (by kernel_rfl) hB2 (by simp [Value.cells]) (by simp [Value.cells, Value.oneCell']) ?_
  intro w3 hm3 hB3
  refine hK _ _ ?_
  clear hK K
  have hX : Blk w3 q 25 [.int .i64 (k0 : Nat), .int .u32 (k1 : Nat), .int .u32 0, .int .i64 0, .int .i64 0] := hB3
  have hm23 : Mod [] w1 w3 := hm2.fresh hm3 (by simpa using hq1)
  have hT := hB1.ext hm23
  have hMx := hm1.ext hm23
  have hgw : w.heap.size ≤ g := hg1
  have hqw : w.heap.size ≤ q := Nat.le_trans hm1.size hq1
  have hgq : g ≠ q := by have := hB1.lt; omega
  have d0 := hX.cell' (i := 0) rfl
  clear hB1 hB2 hB3 hm1 hm2 hm3 hm23
  go_wp2_with (first
                | (with_reducible refine st_store ?_)
                | (go_at_call 28; (with_reducible refine (HAS _).mono ?_); rintro e wz ⟨rfl, rfl⟩)
                | (go_at_call 36; (with_reducible refine (P3 _ _ (hb.ext hMx)).mono ?_); rintro e wz ⟨rfl, rfl⟩))
  refine StopOp.go rfl fun K hK => ?_
  refine wp_store1 (by kernel_rfl) (by rfl) (u := (.int .i64 (k3 : Nat))) (by rfl) ⟨rfl, rfl⟩ hX (by simp) ?_
  intro w4 hm4 hB4
  refine hK _ _ ?_
  clear hK K
  have hT4 := hT.mod hm4 (by simpa using hgq)
  have hMx4 := hMx.fresh hm4 (by simpa using hqw)
  have hX4 : Blk w4 q 25 [.int .i64 (k0 : Nat), .int .u32 (k1 : Nat), .int .u32 0, .int .i64 (k3 : Nat), .int .i64 0] := hB4
  clear hT hX d0
  have hT := hT4
  have hX := hX4
  have d0 := hX.cell' (i := 0) rfl
  have hMx' := hMx4
  clear hMx hT4 hX4 hMx4 hB4 hm4
  have hMx := hMx'
  clear hMx'
  have c0 := hX.cell' (i := 0) rfl
  have c1 := hX.cell' (i := 1) rfl
  have c2 := hX.cell' (i := 2) rfl
  have c3 := hX.cell' (i := 3) rfl
  have c4 := hX.cell' (i := 4) rfl
  cases M with
  | false =>
    simp only [reduceIte, Bool.false_eq_true] at PUT
    go_wp2_with (first
                  | (with_reducible refine st_store ?_)
                  | (go_at_call 10; (with_reducible refine (PUT _).mono ?_); rintro e wp ⟨vp, rfl, hop, _, hmp⟩; obtain ⟨aop, capp, rfl, _, _⟩ := hop.bs.form; have hT' := hT.ext hmp))
    refine StopOp.go rfl fun K hK => ?_
    refine wp_store (u := .agg #[.int .i64 0, .int .u32 0, .int .u32 0, .int .i64 0, .int .i64 0]) (by rfl) (by rfl) (by kernel_rfl) hT' (by simp [Value.cells]) (by simp [Value.cells, Value.oneCell']) ?_
    intro w12 hm12 hB12
    refine hK _ _ ?_
    clear hK K
    have z0 := hB12.cell' (i := 0) rfl
    have z1 := hB12.cell' (i := 1) rfl
    have z2 := hB12.cell' (i := 2) rfl
    have z3 := hB12.cell' (i := 3) rfl
    have z4 := hB12.cell' (i := 4) rfl
    go_wp2_with fail
    exact bodyPost_ret (v := .tuple #[.agg #[.int .i64 0, .int .u32 0, .int .u32 0, .int .i64 0, .int .i64 0], .int .i64 200]) (by simp [results, Try.results18, go_sem, z0, z1, z2, z3, z4]) rfl (rfOk_no (by rw [HRF.out]; rfl) _ _ _ rfl ((hMx.ext hmp).fresh hm12 (by simpa using hgw)))
  | true =>
    simp only [reduceIte] at PUT
    by_cases hBb : B = b
    · subst hBb
      go_wp2_with (first
                    | (with_reducible refine st_store ?_)
                    | (go_at_call 10; (with_reducible refine (PUT _).mono ?_); rintro e wp ⟨vp, rfl, hop, _, hmp⟩; obtain ⟨aop, capp, rfl, _, _⟩ := hop.bs.form; have hT' := hT.ext hmp; have s1 := hop.bs.str; have s2 := Bs.str (hb.ext (hMx.ext hmp)); have hX' := hX.ext hmp; have f0 := hX'.cell' (i := 0) rfl; have f1 := hX'.cell' (i := 1) rfl; have f2 := hX'.cell' (i := 2) rfl; have f3 := hX'.cell' (i := 3) rfl; have f4 := hX'.cell' (i := 4) rfl))
      refine StopOp.go rfl fun K hK => ?_
      refine wp_store (u := .agg #[.int .i64 (k0 : Nat), .int .u32 (k1 : Nat), .int .u32 0, .int .i64 (k3 : Nat), .int .i64 0]) (by rfl) (by rfl) (by kernel_rfl) hT' (by simp [Value.cells]) (by simp [Value.cells, Value.oneCell']) ?_
      intro w12 hm12 hB12
      refine hK _ _ ?_
      clear hK K
      have z0 := hB12.cell' (i := 0) rfl
      have z1 := hB12.cell' (i := 1) rfl
      have z2 := hB12.cell' (i := 2) rfl
      have z3 := hB12.cell' (i := 3) rfl
      have z4 := hB12.cell' (i := 4) rfl
      go_wp2_with fail
      exact bodyPost_ret (v := .tuple #[.agg #[.int .i64 (k0 : Nat), .int .u32 (k1 : Nat), .int .u32 0, .int .i64 (k3 : Nat), .int .i64 0], .int .i64 0]) (by simp [results, Try.results18, go_sem, z0, z1, z2, z3, z4]) rfl (rfOk_yes (by rw [HRF.out]; simp) _ _ _ (by rw [HP.out]; rfl) ((hMx.ext hmp).fresh hm12 (by simpa using hgw)))
    · have hne : (B == b) = false := by simpa using hBb
      go_wp2_with (first
                    | (with_reducible refine st_store ?_)
                    | (go_at_call 10; (with_reducible refine (PUT _).mono ?_); rintro e wp ⟨vp, rfl, hop, _, hmp⟩; obtain ⟨aop, capp, rfl, _, _⟩ := hop.bs.form; have hT' := hT.ext hmp; have s1 := hop.bs.str; have s2 := Bs.str (hb.ext (hMx.ext hmp))))
      refine StopOp.go rfl fun K hK => ?_
      refine wp_store (u := .agg #[.int .i64 0, .int .u32 0, .int .u32 0, .int .i64 0, .int .i64 0]) (by rfl) (by rfl) (by kernel_rfl) hT' (by simp [Value.cells]) (by simp [Value.cells, Value.oneCell']) ?_
      intro w12 hm12 hB12
      refine hK _ _ ?_
      clear hK K
      have z0 := hB12.cell' (i := 0) rfl
      have z1 := hB12.cell' (i := 1) rfl
      have z2 := hB12.cell' (i := 2) rfl
      have z3 := hB12.cell' (i := 3) rfl
      have z4 := hB12.cell' (i := 4) rfl
      go_wp2_with fail
      exact bodyPost_ret (v := .tuple #[.agg #[.int .i64 0, .int .u32 0, .int .u32 0, .int .i64 0, .int .i64 0], .int .i64 200]) (by simp [results, Try.results18, go_sem, z0, z1, z2, z3, z4]) rfl (rfOk_no (by rw [HRF.out, decide_eq_false hBb]; rfl) _ _ _ rfl ((hMx.ext hmp).fresh hm12 (by simpa using hgw)))

set_option maxRecDepth 1000000 in
set_option maxHeartbeats 4000000 in
theorem refGet_t (b : List UInt8) (v : Value) (w : World) (hb : Bs w v b) (hl : b.length ≤ 140737488355328) (hH : has (partN b 0 1) = [2]) : Calls Try.prog 18 #[v] w (RefGetQ b w) := by
  obtain ⟨ao, cap, rfl, _, _⟩ := hb.form
  have hpq : rfP b = ⟨partN b 0 1, partN b 1 4, 0, 0, wrap64 (partN b 5 8)⟩ := by unfold rfP; rw [hH]; simp
  have HAS := fun w => refHas_val (partN b 0 1) false false true w (by rw [hB_eq _ _ hH]; decide) (by rw [hB_eq _ _ hH]; decide) (by rw [hB_eq _ _ hH]; decide)
  have l0 := partN_lt b 0 1
  have l1 := partN_lt b 1 4
  obtain ⟨k0, hk0⟩ : ∃ k, partN b 0 1 = k := ⟨_, rfl⟩
  obtain ⟨k1, hk1⟩ : ∃ k, partN b 1 4 = k := ⟨_, rfl⟩
  rw [hk0] at HAS
  rw [hk0] at l0
  rw [hk1] at l1
  rw [hk0, hk1] at hpq
  have P0 := fun v w h => part_any b 0 1 k0 0 1 v w rfl rfl h (by omega) (by omega) (by omega) hk0 hl
  have P1 := fun v w h => part_any b 1 4 k1 1 4 v w rfl rfl h (by omega) (by omega) (by omega) hk1 hl
  have m0 : (k0 : Int) ≤ 255 := by omega
  have m0' : (0 : Int) ≤ k0 := by omega
  have m1 : (k1 : Int) ≤ 4294967295 := by omega
  have m1' : (0 : Int) ≤ k1 := by omega
  have l4 := partN_lt b 5 8
  obtain ⟨k4, hk4⟩ : ∃ k, partN b 5 8 = k := ⟨_, rfl⟩
  rw [hk4] at l4
  rw [hk4] at hpq
  have P4 := fun v w h => part_any b 5 8 k4 5 8 v w rfl rfl h (by omega) (by omega) (by omega) hk4 hl
  have m4 : (k4 : Int) ≤ 18446744073709551615 := by omega
  have m4' : (0 : Int) ≤ k4 := by omega
  have hqok : ((⟨k0, k1, 0, 0, wrap64 k4⟩ : Rq)).ok := ⟨by dsimp only; omega, by dsimp only; omega, by dsimp only; omega, by dsimp only; omega, by dsimp only; (try unfold wrap64); omega, by dsimp only; (try unfold wrap64); omega, by dsimp only; (try unfold wrap64); omega, by dsimp only; (try unfold wrap64); omega⟩
  have PUT := fun w => refPut_any (⟨k0, k1, 0, 0, wrap64 k4⟩ : Rq) w hqok
  unfold PutQ at PUT
  clear hqok l0 l1 l4 hk0 hk1 hk4 hH
  dsimp only [Rq.v] at PUT
  try simp only [show ((0 : Nat) : Int) = 0 from rfl] at PUT
  obtain ⟨B, hB⟩ : ∃ B, B = bytesOf ⟨k0, k1, 0, 0, wrap64 k4⟩ := ⟨_, rfl⟩
  obtain ⟨M, hM⟩ : ∃ M, M = mayB ⟨k0, k1, 0, 0, wrap64 k4⟩ := ⟨_, rfl⟩
  have hchk : chk ⟨k0, k1, 0, 0, wrap64 k4⟩ = if M = true then 0 else 200 := by unfold chk; rw [← hM]
  rw [← hB, ← hM, hchk] at PUT
  have hrf : rfOk b = (M && decide (B = b)) := by unfold rfOk; rw [hpq, ← hB, ← hM]
  have HP := Lib.hid hpq
  have HRF := Lib.hid hrf
  clear hpq hrf hB hM hchk
  go_enter Try.func18, Try.ntmps18
  go_wp2_with (with_reducible refine st_alloc ?_)
  refine StopOp.go rfl fun K hK => ?_
  refine wp_alloc zero_req ?_
  intro g w1 hg1 hg2 hm1 hB1
  simp only [put_some, List.set_cons_succ, List.set_cons_zero]
  refine hK _ _ ?_
  clear hK K
  go_wp2_with (first
                | (with_reducible refine st_alloc ?_)
                | (go_at_call 36; first | ((with_reducible refine (P0 _ _ (hb.ext hm1)).mono ?_); rintro e w2 ⟨rfl, rfl⟩) | ((with_reducible refine (P1 _ _ (hb.ext hm1)).mono ?_); rintro e w2 ⟨rfl, rfl⟩)))
  refine StopOp.go rfl fun K hK => ?_
  refine wp_alloc zero_req ?_
  intro q w2 hq1 hq2 hm2 hB2
  simp only [put_some, List.set_cons_succ, List.set_cons_zero]
  refine hK _ _ ?_
  clear hK K
  go_wp2_with (with_reducible refine st_store ?_)
  refine StopOp.go rfl fun K hK => ?_
  refine wp_store (u := .agg #[.int .i64 (k0 : Nat), .int .u32 (k1 : Nat), .int .u32 0, .int .i64 0, .int .i64 0]) (by rfl) (by rfl) (by kernel_rfl) hB2 (by simp [Value.cells]) (by simp [Value.cells, Value.oneCell']) ?_
  intro w3 hm3 hB3
  refine hK _ _ ?_
  clear hK K
  have hX : Blk w3 q 25 [.int .i64 (k0 : Nat), .int .u32 (k1 : Nat), .int .u32 0, .int .i64 0, .int .i64 0] := hB3
  have hm23 : Mod [] w1 w3 := hm2.fresh hm3 (by simpa using hq1)
  have hT := hB1.ext hm23
  have hMx := hm1.ext hm23
  have hgw : w.heap.size ≤ g := hg1
  have hqw : w.heap.size ≤ q := Nat.le_trans hm1.size hq1
  have hgq : g ≠ q := by have := hB1.lt; omega
  have d0 := hX.cell' (i := 0) rfl
  clear hB1 hB2 hB3 hm1 hm2 hm3 hm23
  go_wp2_with (first
                | (with_reducible refine st_store ?_)
                | (go_at_call 28; (with_reducible refine (HAS _).mono ?_); rintro e wz ⟨rfl, rfl⟩)
                | (go_at_call 36; (with_reducible refine (P4 _ _ (hb.ext hMx)).mono ?_); rintro e wz ⟨rfl, rfl⟩))
  refine StopOp.go rfl fun K hK => ?_
  refine wp_store1 (by kernel_rfl) (by rfl) (u := (.int .i64 (wrap64 k4))) (by rfl) ⟨rfl, rfl⟩ hX (by simp) ?_
  intro w4 hm4 hB4
  refine hK _ _ ?_
  clear hK K
  have hT4 := hT.mod hm4 (by simpa using hgq)
  have hMx4 := hMx.fresh hm4 (by simpa using hqw)
  have hX4 : Blk w4 q 25 [.int .i64 (k0 : Nat), .int .u32 (k1 : Nat), .int .u32 0, .int .i64 0, .int .i64 (wrap64 k4)] := hB4
  clear hT hX d0
  have hT := hT4
  have hX := hX4
  have d0 := hX.cell' (i := 0) rfl
  have hMx' := hMx4
  clear hMx hT4 hX4 hMx4 hB4 hm4
  have hMx := hMx'
  clear hMx'
  have c0 := hX.cell' (i := 0) rfl
  have c1 := hX.cell' (i := 1) rfl
  have c2 := hX.cell' (i := 2) rfl
  have c3 := hX.cell' (i := 3) rfl
  have c4 := hX.cell' (i := 4) rfl
  cases M with
  | false =>
    simp only [reduceIte, Bool.false_eq_true] at PUT
    go_wp2_with (first
                  | (with_reducible refine st_store ?_)
                  | (go_at_call 10; (with_reducible refine (PUT _).mono ?_); rintro e wp ⟨vp, rfl, hop, _, hmp⟩; obtain ⟨aop, capp, rfl, _, _⟩ := hop.bs.form; have hT' := hT.ext hmp))
    refine StopOp.go rfl fun K hK => ?_
    refine wp_store (u := .agg #[.int .i64 0, .int .u32 0, .int .u32 0, .int .i64 0, .int .i64 0]) (by rfl) (by rfl) (by kernel_rfl) hT' (by simp [Value.cells]) (by simp [Value.cells, Value.oneCell']) ?_
    intro w12 hm12 hB12
    refine hK _ _ ?_
    clear hK K
    have z0 := hB12.cell' (i := 0) rfl
    have z1 := hB12.cell' (i := 1) rfl
    have z2 := hB12.cell' (i := 2) rfl
    have z3 := hB12.cell' (i := 3) rfl
    have z4 := hB12.cell' (i := 4) rfl
    go_wp2_with fail
    exact bodyPost_ret (v := .tuple #[.agg #[.int .i64 0, .int .u32 0, .int .u32 0, .int .i64 0, .int .i64 0], .int .i64 200]) (by simp [results, Try.results18, go_sem, z0, z1, z2, z3, z4]) rfl (rfOk_no (by rw [HRF.out]; rfl) _ _ _ rfl ((hMx.ext hmp).fresh hm12 (by simpa using hgw)))
  | true =>
    simp only [reduceIte] at PUT
    by_cases hBb : B = b
    · subst hBb
      go_wp2_with (first
                    | (with_reducible refine st_store ?_)
                    | (go_at_call 10; (with_reducible refine (PUT _).mono ?_); rintro e wp ⟨vp, rfl, hop, _, hmp⟩; obtain ⟨aop, capp, rfl, _, _⟩ := hop.bs.form; have hT' := hT.ext hmp; have s1 := hop.bs.str; have s2 := Bs.str (hb.ext (hMx.ext hmp)); have hX' := hX.ext hmp; have f0 := hX'.cell' (i := 0) rfl; have f1 := hX'.cell' (i := 1) rfl; have f2 := hX'.cell' (i := 2) rfl; have f3 := hX'.cell' (i := 3) rfl; have f4 := hX'.cell' (i := 4) rfl))
      refine StopOp.go rfl fun K hK => ?_
      refine wp_store (u := .agg #[.int .i64 (k0 : Nat), .int .u32 (k1 : Nat), .int .u32 0, .int .i64 0, .int .i64 (wrap64 k4)]) (by rfl) (by rfl) (by kernel_rfl) hT' (by simp [Value.cells]) (by simp [Value.cells, Value.oneCell']) ?_
      intro w12 hm12 hB12
      refine hK _ _ ?_
      clear hK K
      have z0 := hB12.cell' (i := 0) rfl
      have z1 := hB12.cell' (i := 1) rfl
      have z2 := hB12.cell' (i := 2) rfl
      have z3 := hB12.cell' (i := 3) rfl
      have z4 := hB12.cell' (i := 4) rfl
      go_wp2_with fail
      exact bodyPost_ret (v := .tuple #[.agg #[.int .i64 (k0 : Nat), .int .u32 (k1 : Nat), .int .u32 0, .int .i64 0, .int .i64 (wrap64 k4)], .int .i64 0]) (by simp [results, Try.results18, go_sem, z0, z1, z2, z3, z4]) rfl (rfOk_yes (by rw [HRF.out]; simp) _ _ _ (by rw [HP.out]; rfl) ((hMx.ext hmp).fresh hm12 (by simpa using hgw)))
    · have hne : (B == b) = false := by simpa using hBb
      go_wp2_with (first
                    | (with_reducible refine st_store ?_)
                    | (go_at_call 10; (with_reducible refine (PUT _).mono ?_); rintro e wp ⟨vp, rfl, hop, _, hmp⟩; obtain ⟨aop, capp, rfl, _, _⟩ := hop.bs.form; have hT' := hT.ext hmp; have s1 := hop.bs.str; have s2 := Bs.str (hb.ext (hMx.ext hmp))))
      refine StopOp.go rfl fun K hK => ?_
      refine wp_store (u := .agg #[.int .i64 0, .int .u32 0, .int .u32 0, .int .i64 0, .int .i64 0]) (by rfl) (by rfl) (by kernel_rfl) hT' (by simp [Value.cells]) (by simp [Value.cells, Value.oneCell']) ?_
      intro w12 hm12 hB12
      refine hK _ _ ?_
      clear hK K
      have z0 := hB12.cell' (i := 0) rfl
      have z1 := hB12.cell' (i := 1) rfl
      have z2 := hB12.cell' (i := 2) rfl
      have z3 := hB12.cell' (i := 3) rfl
      have z4 := hB12.cell' (i := 4) rfl
      go_wp2_with fail
      exact bodyPost_ret (v := .tuple #[.agg #[.int .i64 0, .int .u32 0, .int .u32 0, .int .i64 0, .int .i64 0], .int .i64 200]) (by simp [results, Try.results18, go_sem, z0, z1, z2, z3, z4]) rfl (rfOk_no (by rw [HRF.out, decide_eq_false hBb]; rfl) _ _ _ rfl ((hMx.ext hmp).fresh hm12 (by simpa using hgw)))

set_option maxRecDepth 1000000 in
set_option maxHeartbeats 4000000 in
theorem refGet_is (b : List UInt8) (v : Value) (w : World) (hb : Bs w v b) (hl : b.length ≤ 140737488355328) (hH : has (partN b 0 1) = [0, 1]) : Calls Try.prog 18 #[v] w (RefGetQ b w) := by
  obtain ⟨ao, cap, rfl, _, _⟩ := hb.form
  have hpq : rfP b = ⟨partN b 0 1, partN b 1 4, partN b 5 4, partN b 9 2, 0⟩ := by unfold rfP; rw [hH]; simp
  have HAS := fun w => refHas_val (partN b 0 1) true true false w (by rw [hB_eq _ _ hH]; decide) (by rw [hB_eq _ _ hH]; decide) (by rw [hB_eq _ _ hH]; decide)
  have l0 := partN_lt b 0 1
  have l1 := partN_lt b 1 4
  obtain ⟨k0, hk0⟩ : ∃ k, partN b 0 1 = k := ⟨_, rfl⟩
  obtain ⟨k1, hk1⟩ : ∃ k, partN b 1 4 = k := ⟨_, rfl⟩
  rw [hk0] at HAS
  rw [hk0] at l0
  rw [hk1] at l1
  rw [hk0, hk1] at hpq
  have P0 := fun v w h => part_any b 0 1 k0 0 1 v w rfl rfl h (by omega) (by omega) (by omega) hk0 hl
  have P1 := fun v w h => part_any b 1 4 k1 1 4 v w rfl rfl h (by omega) (by omega) (by omega) hk1 hl
  have m0 : (k0 : Int) ≤ 255 := by omega
  have m0' : (0 : Int) ≤ k0 := by omega
  have m1 : (k1 : Int) ≤ 4294967295 := by omega
  have m1' : (0 : Int) ≤ k1 := by omega
  have l2 := partN_lt b 5 4
  obtain ⟨k2, hk2⟩ : ∃ k, partN b 5 4 = k := ⟨_, rfl⟩
  rw [hk2] at l2
  rw [hk2] at hpq
  have P2 := fun v w h => part_any b 5 4 k2 5 4 v w rfl rfl h (by omega) (by omega) (by omega) hk2 hl
  have m2 : (k2 : Int) ≤ 4294967295 := by omega
  have m2' : (0 : Int) ≤ k2 := by omega
  have l3 := partN_lt b 9 2
  obtain ⟨k3, hk3⟩ : ∃ k, partN b 9 2 = k := ⟨_, rfl⟩
  rw [hk3] at l3
  rw [hk3] at hpq
  have P3 := fun v w h => part_any b 9 2 k3 9 2 v w rfl rfl h (by omega) (by omega) (by omega) hk3 hl
  have m3 : (k3 : Int) ≤ 65535 := by omega
  have m3' : (0 : Int) ≤ k3 := by omega
  have hqok : ((⟨k0, k1, k2, k3, 0⟩ : Rq)).ok := ⟨by dsimp only; omega, by dsimp only; omega, by dsimp only; omega, by dsimp only; omega, by dsimp only; (try unfold wrap64); omega, by dsimp only; (try unfold wrap64); omega, by dsimp only; (try unfold wrap64); omega, by dsimp only; (try unfold wrap64); omega⟩
  have PUT := fun w => refPut_any (⟨k0, k1, k2, k3, 0⟩ : Rq) w hqok
  unfold PutQ at PUT
  clear hqok l0 l1 l2 l3 hk0 hk1 hk2 hk3 hH
  dsimp only [Rq.v] at PUT
  try simp only [show ((0 : Nat) : Int) = 0 from rfl] at PUT
  obtain ⟨B, hB⟩ : ∃ B, B = bytesOf ⟨k0, k1, k2, k3, 0⟩ := ⟨_, rfl⟩
  obtain ⟨M, hM⟩ : ∃ M, M = mayB ⟨k0, k1, k2, k3, 0⟩ := ⟨_, rfl⟩
  have hchk : chk ⟨k0, k1, k2, k3, 0⟩ = if M = true then 0 else 200 := by unfold chk; rw [← hM]
  rw [← hB, ← hM, hchk] at PUT
  have hrf : rfOk b = (M && decide (B = b)) := by unfold rfOk; rw [hpq, ← hB, ← hM]
  have HP := Lib.hid hpq
  have HRF := Lib.hid hrf
  clear hpq hrf hB hM hchk
  go_enter Try.func18, Try.ntmps18
  go_wp2_with (with_reducible refine st_alloc ?_)
  refine StopOp.go rfl fun K hK => ?_
  refine wp_alloc zero_req ?_
  intro g w1 hg1 hg2 hm1 hB1
  simp only [put_some, List.set_cons_succ, List.set_cons_zero]
  refine hK _ _ ?_
  clear hK K
  go_wp2_with (first
                | (with_reducible refine st_alloc ?_)
                | (go_at_call 36; first | ((with_reducible refine (P0 _ _ (hb.ext hm1)).mono ?_); rintro e w2 ⟨rfl, rfl⟩) | ((with_reducible refine (P1 _ _ (hb.ext hm1)).mono ?_); rintro e w2 ⟨rfl, rfl⟩)))
  refine StopOp.go rfl fun K hK => ?_
  refine wp_alloc zero_req ?_
  intro q w2 hq1 hq2 hm2 hB2
  simp only [put_some, List.set_cons_succ, List.set_cons_zero]
  refine hK _ _ ?_
  clear hK K
  go_wp2_with (with_reducible refine st_store ?_)
  refine StopOp.go rfl fun K hK => ?_
  refine wp_store (u := .agg #[.int .i64 (k0 : Nat), .int .u32 (k1 : Nat), .int .u32 0, .int .i64 0, .int .i64 0]) (by rfl) (by rfl) (by kernel_rfl) hB2 (by simp [Value.cells]) (by simp [Value.cells, Value.oneCell']) ?_
  intro w3 hm3 hB3
  refine hK _ _ ?_
  clear hK K
  have hX : Blk w3 q 25 [.int .i64 (k0 : Nat), .int .u32 (k1 : Nat), .int .u32 0, .int .i64 0, .int .i64 0] := hB3
  have hm23 : Mod [] w1 w3 := hm2.fresh hm3 (by simpa using hq1)
  have hT := hB1.ext hm23
  have hMx := hm1.ext hm23
  have hgw : w.heap.size ≤ g := hg1
  have hqw : w.heap.size ≤ q := Nat.le_trans hm1.size hq1
  have hgq : g ≠ q := by have := hB1.lt; omega
  have d0 := hX.cell' (i := 0) rfl
  clear hB1 hB2 hB3 hm1 hm2 hm3 hm23
  go_wp2_with (first
                | (with_reducible refine st_store ?_)
                | (go_at_call 28; (with_reducible refine (HAS _).mono ?_); rintro e wz ⟨rfl, rfl⟩)
                | (go_at_call 36; (with_reducible refine (P2 _ _ (hb.ext hMx)).mono ?_); rintro e wz ⟨rfl, rfl⟩))
  refine StopOp.go rfl fun K hK => ?_
  refine wp_store1 (by kernel_rfl) (by rfl) (u := (.int .u32 (k2 : Nat))) (by rfl) ⟨rfl, rfl⟩ hX (by simp) ?_
  intro w4 hm4 hB4
  refine hK _ _ ?_
  clear hK K
  have hT4 := hT.mod hm4 (by simpa using hgq)
  have hMx4 := hMx.fresh hm4 (by simpa using hqw)
  have hX4 : Blk w4 q 25 [.int .i64 (k0 : Nat), .int .u32 (k1 : Nat), .int .u32 (k2 : Nat), .int .i64 0, .int .i64 0] := hB4
  clear hT hX d0
  have hT := hT4
  have hX := hX4
  have d0 := hX.cell' (i := 0) rfl
  have hMx' := hMx4
  clear hMx hT4 hX4 hMx4 hB4 hm4
  have hMx := hMx'
  clear hMx'
  go_wp2_with (first
                | (with_reducible refine st_store ?_)
                | (go_at_call 28; (with_reducible refine (HAS _).mono ?_); rintro e wz ⟨rfl, rfl⟩)
                | (go_at_call 36; (with_reducible refine (P3 _ _ (hb.ext hMx)).mono ?_); rintro e wz ⟨rfl, rfl⟩))
  refine StopOp.go rfl fun K hK => ?_
  refine wp_store1 (by kernel_rfl) (by rfl) (u := (.int .i64 (k3 : Nat))) (by rfl) ⟨rfl, rfl⟩ hX (by simp) ?_
  intro w5 hm5 hB5
  refine hK _ _ ?_
  clear hK K
  have hT5 := hT.mod hm5 (by simpa using hgq)
  have hMx5 := hMx.fresh hm5 (by simpa using hqw)
  have hX5 : Blk w5 q 25 [.int .i64 (k0 : Nat), .int .u32 (k1 : Nat), .int .u32 (k2 : Nat), .int .i64 (k3 : Nat), .int .i64 0] := hB5
  clear hT hX d0
  have hT := hT5
  have hX := hX5
  have d0 := hX.cell' (i := 0) rfl
  have hMx' := hMx5
  clear hMx hT5 hX5 hMx5 hB5 hm5
  have hMx := hMx'
  clear hMx'
  have c0 := hX.cell' (i := 0) rfl
  have c1 := hX.cell' (i := 1) rfl
  have c2 := hX.cell' (i := 2) rfl
  have c3 := hX.cell' (i := 3) rfl
  have c4 := hX.cell' (i := 4) rfl
  cases M with
  | false =>
    simp only [reduceIte, Bool.false_eq_true] at PUT
    go_wp2_with (first
                  | (with_reducible refine st_store ?_)
                  | (go_at_call 10; (with_reducible refine (PUT _).mono ?_); rintro e wp ⟨vp, rfl, hop, _, hmp⟩; obtain ⟨aop, capp, rfl, _, _⟩ := hop.bs.form; have hT' := hT.ext hmp))
    refine StopOp.go rfl fun K hK => ?_
    refine wp_store (u := .agg #[.int .i64 0, .int .u32 0, .int .u32 0, .int .i64 0, .int .i64 0]) (by rfl) (by rfl) (by kernel_rfl) hT' (by simp [Value.cells]) (by simp [Value.cells, Value.oneCell']) ?_
    intro w12 hm12 hB12
    refine hK _ _ ?_
    clear hK K
    have z0 := hB12.cell' (i := 0) rfl
    have z1 := hB12.cell' (i := 1) rfl
    have z2 := hB12.cell' (i := 2) rfl
    have z3 := hB12.cell' (i := 3) rfl
    have z4 := hB12.cell' (i := 4) rfl
    go_wp2_with fail
    exact bodyPost_ret (v := .tuple #[.agg #[.int .i64 0, .int .u32 0, .int .u32 0, .int .i64 0, .int .i64 0], .int .i64 200]) (by simp [results, Try.results18, go_sem, z0, z1, z2, z3, z4]) rfl (rfOk_no (by rw [HRF.out]; rfl) _ _ _ rfl ((hMx.ext hmp).fresh hm12 (by simpa using hgw)))
  | true =>
    simp only [reduceIte] at PUT
    by_cases hBb : B = b
    · subst hBb
      go_wp2_with (first
                    | (with_reducible refine st_store ?_)
                    | (go_at_call 10; (with_reducible refine (PUT _).mono ?_); rintro e wp ⟨vp, rfl, hop, _, hmp⟩; obtain ⟨aop, capp, rfl, _, _⟩ := hop.bs.form; have hT' := hT.ext hmp; have s1 := hop.bs.str; have s2 := Bs.str (hb.ext (hMx.ext hmp)); have hX' := hX.ext hmp; have f0 := hX'.cell' (i := 0) rfl; have f1 := hX'.cell' (i := 1) rfl; have f2 := hX'.cell' (i := 2) rfl; have f3 := hX'.cell' (i := 3) rfl; have f4 := hX'.cell' (i := 4) rfl))
      refine StopOp.go rfl fun K hK => ?_
      refine wp_store (u := .agg #[.int .i64 (k0 : Nat), .int .u32 (k1 : Nat), .int .u32 (k2 : Nat), .int .i64 (k3 : Nat), .int .i64 0]) (by rfl) (by rfl) (by kernel_rfl) hT' (by simp [Value.cells]) (by simp [Value.cells, Value.oneCell']) ?_
      intro w12 hm12 hB12
      refine hK _ _ ?_
      clear hK K
      have z0 := hB12.cell' (i := 0) rfl
      have z1 := hB12.cell' (i := 1) rfl
      have z2 := hB12.cell' (i := 2) rfl
      have z3 := hB12.cell' (i := 3) rfl
      have z4 := hB12.cell' (i := 4) rfl
      go_wp2_with fail
      exact bodyPost_ret (v := .tuple #[.agg #[.int .i64 (k0 : Nat), .int .u32 (k1 : Nat), .int .u32 (k2 : Nat), .int .i64 (k3 : Nat), .int .i64 0], .int .i64 0]) (by simp [results, Try.results18, go_sem, z0, z1, z2, z3, z4]) rfl (rfOk_yes (by rw [HRF.out]; simp) _ _ _ (by rw [HP.out]; rfl) ((hMx.ext hmp).fresh hm12 (by simpa using hgw)))
    · have hne : (B == b) = false := by simpa using hBb
      go_wp2_with (first
                    | (with_reducible refine st_store ?_)
                    | (go_at_call 10; (with_reducible refine (PUT _).mono ?_); rintro e wp ⟨vp, rfl, hop, _, hmp⟩; obtain ⟨aop, capp, rfl, _, _⟩ := hop.bs.form; have hT' := hT.ext hmp; have s1 := hop.bs.str; have s2 := Bs.str (hb.ext (hMx.ext hmp))))
      refine StopOp.go rfl fun K hK => ?_
      refine wp_store (u := .agg #[.int .i64 0, .int .u32 0, .int .u32 0, .int .i64 0, .int .i64 0]) (by rfl) (by rfl) (by kernel_rfl) hT' (by simp [Value.cells]) (by simp [Value.cells, Value.oneCell']) ?_
      intro w12 hm12 hB12
      refine hK _ _ ?_
      clear hK K
      have z0 := hB12.cell' (i := 0) rfl
      have z1 := hB12.cell' (i := 1) rfl
      have z2 := hB12.cell' (i := 2) rfl
      have z3 := hB12.cell' (i := 3) rfl
      have z4 := hB12.cell' (i := 4) rfl
      go_wp2_with fail
      exact bodyPost_ret (v := .tuple #[.agg #[.int .i64 0, .int .u32 0, .int .u32 0, .int .i64 0, .int .i64 0], .int .i64 200]) (by simp [results, Try.results18, go_sem, z0, z1, z2, z3, z4]) rfl (rfOk_no (by rw [HRF.out, decide_eq_false hBb]; rfl) _ _ _ rfl ((hMx.ext hmp).fresh hm12 (by simpa using hgw)))

set_option maxRecDepth 1000000 in
set_option maxHeartbeats 4000000 in
theorem refGet_st (b : List UInt8) (v : Value) (w : World) (hb : Bs w v b) (hl : b.length ≤ 140737488355328) (hH : has (partN b 0 1) = [1, 2]) : Calls Try.prog 18 #[v] w (RefGetQ b w) := by
  obtain ⟨ao, cap, rfl, _, _⟩ := hb.form
  have hpq : rfP b = ⟨partN b 0 1, partN b 1 4, 0, partN b 5 2, wrap64 (partN b 7 8)⟩ := by unfold rfP; rw [hH]; simp
  have HAS := fun w => refHas_val (partN b 0 1) false true true w (by rw [hB_eq _ _ hH]; decide) (by rw [hB_eq _ _ hH]; decide) (by rw [hB_eq _ _ hH]; decide)
  have l0 := partN_lt b 0 1
  have l1 := partN_lt b 1 4
  obtain ⟨k0, hk0⟩ : ∃ k, partN b 0 1 = k := ⟨_, rfl⟩
  obtain ⟨k1, hk1⟩ : ∃ k, partN b 1 4 = k := ⟨_, rfl⟩
  rw [hk0] at HAS
  rw [hk0] at l0
  rw [hk1] at l1
  rw [hk0, hk1] at hpq
  have P0 := fun v w h => part_any b 0 1 k0 0 1 v w rfl rfl h (by omega) (by omega) (by omega) hk0 hl
  have P1 := fun v w h => part_any b 1 4 k1 1 4 v w rfl rfl h (by omega) (by omega) (by omega) hk1 hl
  have m0 : (k0 : Int) ≤ 255 := by omega
  have m0' : (0 : Int) ≤ k0 := by omega
  have m1 : (k1 : Int) ≤ 4294967295 := by omega
  have m1' : (0 : Int) ≤ k1 := by omega
  have l3 := partN_lt b 5 2
  obtain ⟨k3, hk3⟩ : ∃ k, partN b 5 2 = k := ⟨_, rfl⟩
  rw [hk3] at l3
  rw [hk3] at hpq
  have P3 := fun v w h => part_any b 5 2 k3 5 2 v w rfl rfl h (by omega) (by omega) (by omega) hk3 hl
  have m3 : (k3 : Int) ≤ 65535 := by omega
  have m3' : (0 : Int) ≤ k3 := by omega
  have l4 := partN_lt b 7 8
  obtain ⟨k4, hk4⟩ : ∃ k, partN b 7 8 = k := ⟨_, rfl⟩
  rw [hk4] at l4
  rw [hk4] at hpq
  have P4 := fun v w h => part_any b 7 8 k4 7 8 v w rfl rfl h (by omega) (by omega) (by omega) hk4 hl
  have m4 : (k4 : Int) ≤ 18446744073709551615 := by omega
  have m4' : (0 : Int) ≤ k4 := by omega
  have hqok : ((⟨k0, k1, 0, k3, wrap64 k4⟩ : Rq)).ok := ⟨by dsimp only; omega, by dsimp only; omega, by dsimp only; omega, by dsimp only; omega, by dsimp only; (try unfold wrap64); omega, by dsimp only; (try unfold wrap64); omega, by dsimp only; (try unfold wrap64); omega, by dsimp only; (try unfold wrap64); omega⟩
  have PUT := fun w => refPut_any (⟨k0, k1, 0, k3, wrap64 k4⟩ : Rq) w hqok
  unfold PutQ at PUT
  clear hqok l0 l1 l3 l4 hk0 hk1 hk3 hk4 hH
  dsimp only [Rq.v] at PUT
  try simp only [show ((0 : Nat) : Int) = 0 from rfl] at PUT
  obtain ⟨B, hB⟩ : ∃ B, B = bytesOf ⟨k0, k1, 0, k3, wrap64 k4⟩ := ⟨_, rfl⟩
  obtain ⟨M, hM⟩ : ∃ M, M = mayB ⟨k0, k1, 0, k3, wrap64 k4⟩ := ⟨_, rfl⟩
  have hchk : chk ⟨k0, k1, 0, k3, wrap64 k4⟩ = if M = true then 0 else 200 := by unfold chk; rw [← hM]
  rw [← hB, ← hM, hchk] at PUT
  have hrf : rfOk b = (M && decide (B = b)) := by unfold rfOk; rw [hpq, ← hB, ← hM]
  have HP := Lib.hid hpq
  have HRF := Lib.hid hrf
  clear hpq hrf hB hM hchk
  go_enter Try.func18, Try.ntmps18
  go_wp2_with (with_reducible refine st_alloc ?_)
  refine StopOp.go rfl fun K hK => ?_
  refine wp_alloc zero_req ?_
  intro g w1 hg1 hg2 hm1 hB1
  simp only [put_some, List.set_cons_succ, List.set_cons_zero]
  refine hK _ _ ?_
  clear hK K
  go_wp2_with (first
                | (with_reducible refine st_alloc ?_)
                | (go_at_call 36; first | ((with_reducible refine (P0 _ _ (hb.ext hm1)).mono ?_); rintro e w2 ⟨rfl, rfl⟩) | ((with_reducible refine (P1 _ _ (hb.ext hm1)).mono ?_); rintro e w2 ⟨rfl, rfl⟩)))
  refine StopOp.go rfl fun K hK => ?_
  refine wp_alloc zero_req ?_
  intro q w2 hq1 hq2 hm2 hB2
  simp only [put_some, List.set_cons_succ, List.set_cons_zero]
  refine hK _ _ ?_
  clear hK K
  go_wp2_with (with_reducible refine st_store ?_)
  refine StopOp.go rfl fun K hK => ?_
  refine wp_store (u := .agg #[.int .i64 (k0 : Nat), .int .u32 (k1 : Nat), .int .u32 0, .int .i64 0, .int .i64 0]) (by rfl) (by rfl) (by kernel_rfl) hB2 (by simp [Value.cells]) (by simp [Value.cells, Value.oneCell']) ?_
  intro w3 hm3 hB3
  refine hK _ _ ?_
  clear hK K
  have hX : Blk w3 q 25 [.int .i64 (k0 : Nat), .int .u32 (k1 : Nat), .int .u32 0, .int .i64 0, .int .i64 0] := hB3
  have hm23 : Mod [] w1 w3 := hm2.fresh hm3 (by simpa using hq1)
  have hT := hB1.ext hm23
  have hMx := hm1.ext hm23
  have hgw : w.heap.size ≤ g := hg1
  have hqw : w.heap.size ≤ q := Nat.le_trans hm1.size hq1
  have hgq : g ≠ q := by have := hB1.lt; omega
  have d0 := hX.cell' (i := 0) rfl
  clear hB1 hB2 hB3 hm1 hm2 hm3 hm23
  go_wp2_with (first
                | (with_reducible refine st_store ?_)
                | (go_at_call 28; (with_reducible refine (HAS _).mono ?_); rintro e wz ⟨rfl, rfl⟩)
                | (go_at_call 36; (with_reducible refine (P3 _ _ (hb.ext hMx)).mono ?_); rintro e wz ⟨rfl, rfl⟩))
  refine StopOp.go rfl fun K hK => ?_
  refine wp_store1 (by kernel_rfl) (by rfl) (u := (.int .i64 (k3 : Nat))) (by rfl) ⟨rfl, rfl⟩ hX (by simp) ?_
  intro w4 hm4 hB4
  refine hK _ _ ?_
  clear hK K
  have hT4 := hT.mod hm4 (by simpa using hgq)
  have hMx4 := hMx.fresh hm4 (by simpa using hqw)
  have hX4 : Blk w4 q 25 [.int .i64 (k0 : Nat), .int .u32 (k1 : Nat), .int .u32 0, .int .i64 (k3 : Nat), .int .i64 0] := hB4
  clear hT hX d0
  have hT := hT4
  have hX := hX4
  have d0 := hX.cell' (i := 0) rfl
  have hMx' := hMx4
  clear hMx hT4 hX4 hMx4 hB4 hm4
  have hMx := hMx'
  clear hMx'
  go_wp2_with (first
                | (with_reducible refine st_store ?_)
                | (go_at_call 28; (with_reducible refine (HAS _).mono ?_); rintro e wz ⟨rfl, rfl⟩)
                | (go_at_call 36; (with_reducible refine (P4 _ _ (hb.ext hMx)).mono ?_); rintro e wz ⟨rfl, rfl⟩))
  refine StopOp.go rfl fun K hK => ?_
  refine wp_store1 (by kernel_rfl) (by rfl) (u := (.int .i64 (wrap64 k4))) (by rfl) ⟨rfl, rfl⟩ hX (by simp) ?_
  intro w5 hm5 hB5
  refine hK _ _ ?_
  clear hK K
  have hT5 := hT.mod hm5 (by simpa using hgq)
  have hMx5 := hMx.fresh hm5 (by simpa using hqw)
  have hX5 : Blk w5 q 25 [.int .i64 (k0 : Nat), .int .u32 (k1 : Nat), .int .u32 0, .int .i64 (k3 : Nat), .int .i64 (wrap64 k4)] := hB5
  clear hT hX d0
  have hT := hT5
  have hX := hX5
  have d0 := hX.cell' (i := 0) rfl
  have hMx' := hMx5
  clear hMx hT5 hX5 hMx5 hB5 hm5
  have hMx := hMx'
  clear hMx'
  have c0 := hX.cell' (i := 0) rfl
  have c1 := hX.cell' (i := 1) rfl
  have c2 := hX.cell' (i := 2) rfl
  have c3 := hX.cell' (i := 3) rfl
  have c4 := hX.cell' (i := 4) rfl
  cases M with
  | false =>
    simp only [reduceIte, Bool.false_eq_true] at PUT
    go_wp2_with (first
                  | (with_reducible refine st_store ?_)
                  | (go_at_call 10; (with_reducible refine (PUT _).mono ?_); rintro e wp ⟨vp, rfl, hop, _, hmp⟩; obtain ⟨aop, capp, rfl, _, _⟩ := hop.bs.form; have hT' := hT.ext hmp))
    refine StopOp.go rfl fun K hK => ?_
    refine wp_store (u := .agg #[.int .i64 0, .int .u32 0, .int .u32 0, .int .i64 0, .int .i64 0]) (by rfl) (by rfl) (by kernel_rfl) hT' (by simp [Value.cells]) (by simp [Value.cells, Value.oneCell']) ?_
    intro w12 hm12 hB12
    refine hK _ _ ?_
    clear hK K
    have z0 := hB12.cell' (i := 0) rfl
    have z1 := hB12.cell' (i := 1) rfl
    have z2 := hB12.cell' (i := 2) rfl
    have z3 := hB12.cell' (i := 3) rfl
    have z4 := hB12.cell' (i := 4) rfl
    go_wp2_with fail
    exact bodyPost_ret (v := .tuple #[.agg #[.int .i64 0, .int .u32 0, .int .u32 0, .int .i64 0, .int .i64 0], .int .i64 200]) (by simp [results, Try.results18, go_sem, z0, z1, z2, z3, z4]) rfl (rfOk_no (by rw [HRF.out]; rfl) _ _ _ rfl ((hMx.ext hmp).fresh hm12 (by simpa using hgw)))
  | true =>
    simp only [reduceIte] at PUT
    by_cases hBb : B = b
    · subst hBb
      go_wp2_with (first
                    | (with_reducible refine st_store ?_)
                    | (go_at_call 10; (with_reducible refine (PUT _).mono ?_); rintro e wp ⟨vp, rfl, hop, _, hmp⟩; obtain ⟨aop, capp, rfl, _, _⟩ := hop.bs.form; have hT' := hT.ext hmp; have s1 := hop.bs.str; have s2 := Bs.str (hb.ext (hMx.ext hmp)); have hX' := hX.ext hmp; have f0 := hX'.cell' (i := 0) rfl; have f1 := hX'.cell' (i := 1) rfl; have f2 := hX'.cell' (i := 2) rfl; have f3 := hX'.cell' (i := 3) rfl; have f4 := hX'.cell' (i := 4) rfl))
      refine StopOp.go rfl fun K hK => ?_
      refine wp_store (u := .agg #[.int .i64 (k0 : Nat), .int .u32 (k1 : Nat), .int .u32 0, .int .i64 (k3 : Nat), .int .i64 (wrap64 k4)]) (by rfl) (by rfl) (by kernel_rfl) hT' (by simp [Value.cells]) (by simp [Value.cells, Value.oneCell']) ?_
      intro w12 hm12 hB12
      refine hK _ _ ?_
      clear hK K
      have z0 := hB12.cell' (i := 0) rfl
      have z1 := hB12.cell' (i := 1) rfl
      have z2 := hB12.cell' (i := 2) rfl
      have z3 := hB12.cell' (i := 3) rfl
      have z4 := hB12.cell' (i := 4) rfl
      go_wp2_with fail
      exact bodyPost_ret (v := .tuple #[.agg #[.int .i64 (k0 : Nat), .int .u32 (k1 : Nat), .int .u32 0, .int .i64 (k3 : Nat), .int .i64 (wrap64 k4)], .int .i64 0]) (by simp [results, Try.results18, go_sem, z0, z1, z2, z3, z4]) rfl (rfOk_yes (by rw [HRF.out]; simp) _ _ _ (by rw [HP.out]; rfl) ((hMx.ext hmp).fresh hm12 (by simpa using hgw)))
    · have hne : (B == b) = false := by simpa using hBb
      go_wp2_with (first
                    | (with_reducible refine st_store ?_)
                    | (go_at_call 10; (with_reducible refine (PUT _).mono ?_); rintro e wp ⟨vp, rfl, hop, _, hmp⟩; obtain ⟨aop, capp, rfl, _, _⟩ := hop.bs.form; have hT' := hT.ext hmp; have s1 := hop.bs.str; have s2 := Bs.str (hb.ext (hMx.ext hmp))))
      refine StopOp.go rfl fun K hK => ?_
      refine wp_store (u := .agg #[.int .i64 0, .int .u32 0, .int .u32 0, .int .i64 0, .int .i64 0]) (by rfl) (by rfl) (by kernel_rfl) hT' (by simp [Value.cells]) (by simp [Value.cells, Value.oneCell']) ?_
      intro w12 hm12 hB12
      refine hK _ _ ?_
      clear hK K
      have z0 := hB12.cell' (i := 0) rfl
      have z1 := hB12.cell' (i := 1) rfl
      have z2 := hB12.cell' (i := 2) rfl
      have z3 := hB12.cell' (i := 3) rfl
      have z4 := hB12.cell' (i := 4) rfl
      go_wp2_with fail
      exact bodyPost_ret (v := .tuple #[.agg #[.int .i64 0, .int .u32 0, .int .u32 0, .int .i64 0, .int .i64 0], .int .i64 200]) (by simp [results, Try.results18, go_sem, z0, z1, z2, z3, z4]) rfl (rfOk_no (by rw [HRF.out, decide_eq_false hBb]; rfl) _ _ _ rfl ((hMx.ext hmp).fresh hm12 (by simpa using hgw)))

theorem refGet_any (b : List UInt8) (v : Value) (w : World) (hb : Bs w v b) (hl : b.length ≤ 140737488355328) : Calls Try.prog 18 #[v] w (RefGetQ b w) := by
  rcases has_cases (partN b 0 1) with h | h | h | h | h | h
  · exact refGet_n b v w hb hl h
  · exact refGet_i b v w hb hl h
  · exact refGet_s b v w hb hl h
  · exact refGet_t b v w hb hl h
  · exact refGet_is b v w hb hl h
  · exact refGet_st b v w hb hl h
end Go.Proofs.Ytfcoaiggpcjldaa
