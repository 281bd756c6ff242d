import Derived.Test.YtfcoaiggpcjldaaRqO
import Derived.Test.YtfcoaiggpcjldaaLentC
/-! RequestsGets. -/
set_option linter.unusedVariables false
set_option linter.unusedSimpArgs false
set_option maxRecDepth 100000
namespace Go.Proofs.Ytfcoaiggpcjldaa
open Go.RowKit Gw

theorem partN_app (x y z : List UInt8) (p n : Nat) (hp : x.length = p) (hn : y.length = n) : partN (x ++ (y ++ z)) p n = val y := by
  subst hp hn
  unfold partN
  rw [if_pos (by simp), List.drop_left, List.take_left]
theorem rfP_ok (b : List UInt8) : (rfP b).ok := by
  have h0 := partN_lt b 0 1
  have h1 := partN_lt b 1 4
  have h2 : ∀ p, partN b p 4 < 256 ^ 4 := fun p => partN_lt b p 4
  have h3 : ∀ p, partN b p 2 < 256 ^ 2 := fun p => partN_lt b p 2
  refine ⟨?_, ?_, ?_, ?_, ?_, ?_, ?_, ?_⟩ <;> unfold rfP <;> dsimp only
  · omega
  · omega
  · omega
  · split
    · have := h2 5; omega
    · omega
  · split
    · rename_i h; split <;> have := h3 9 <;> have := h3 5 <;> omega
    · omega
  · split
    · rename_i h; split
      · have := h3 9; omega
      · have := h3 5; omega
    · omega
  · split
    · unfold wrap64; omega
    · omega
  · split
    · unfold wrap64; omega
    · omega
theorem rfP_of (q : Rq) (h : q.ok) (hm : mayB q = true) : rfP (bytesOf q) = q := by
  obtain ⟨k1, k2, s1, s2, t1⟩ := mayB_parts hm
  have f0 := fits0 hm
  have f1 := fits1 hm
  have f2 := fits2 hm
  have L0 := low_length q.kind.toNat 1
  have L1 := low_length q.tag 4
  have L := fieldB_len q
  have hk : ((q.kind.toNat : Nat) : Int) = q.kind := Int.toNat_of_nonneg (by omega)
  have hs : ((q.seat.toNat : Nat) : Int) = q.seat := Int.toNat_of_nonneg s1
  have ht : ((q.ttl.toNat : Nat) : Int) = q.ttl := Int.toNat_of_nonneg t1
  have e0 : partN (bytesOf q) 0 1 = q.kind.toNat := by
    unfold bytesOf
    rw [List.append_assoc]
    have := partN_app [] (low q.kind.toNat 1) (low q.tag 4 ++ (has q.kind).flatMap (fieldB q)) 0 1 rfl L0
    rw [List.nil_append] at this
    rw [this, val_low' 1 _ (by omega)]
  have e1 : partN (bytesOf q) 1 4 = q.tag := by
    unfold bytesOf
    rw [List.append_assoc, partN_app _ _ _ 1 4 L0 L1, val_low' 4 _ (by have := h.t; omega)]
  have b0 : bytesOf q = (low q.kind.toNat 1 ++ low q.tag 4) ++ (has q.kind).flatMap (fieldB q) := rfl
  have L5 : (low q.kind.toNat 1 ++ low q.tag 4).length = 5 := by rw [List.length_append, L0, L1]
  have v0 : val (fieldB q 0) = q.id := by unfold fieldB; rw [if_pos rfl, val_low' 4 _ (by have := h.i; omega)]
  have v1 : val (fieldB q 1) = q.seat.toNat := by
    have e : fieldB q 1 = low q.seat.toNat 2 := by simp [fieldB]
    rw [e, val_low' 2 _ (by omega)]
  have v2 : val (fieldB q 2) = q.ttl.toNat := by
    have e : fieldB q 2 = low q.ttl.toNat 8 := by simp [fieldB]
    rw [e, val_low' 8 _ (by have := h.l2; omega)]
  have l0 : (fieldB q 0).length = 4 := L 0
  have l1 : (fieldB q 1).length = 2 := L 1
  have l2 : (fieldB q 2).length = 8 := L 2
  have hw : wrap64 (q.ttl.toNat : Nat) = q.ttl := by rw [wrap64_in (by have := h.l2; omega), ht]
  unfold rfP
  rw [e0, e1, hk]
  rcases has_cases q.kind with e | e | e | e | e | e <;> rw [e] at f0 f1 f2 ⊢ <;> simp at f0 f1 f2 ⊢
  · obtain ⟨k, t, i, s, l⟩ := q
    dsimp only at f0 f1 f2
    subst f0 f1 f2
    rfl
  · have p0 : partN (bytesOf q) 5 4 = q.id := by
      rw [b0, e, List.flatMap_cons, partN_app _ _ _ 5 4 L5 l0, v0]
    rw [p0]
    obtain ⟨k, t, i, s, l⟩ := q
    dsimp only at f1 f2
    subst f1 f2
    rfl
  · have p0 : partN (bytesOf q) 5 2 = q.seat.toNat := by
      rw [b0, e, List.flatMap_cons, partN_app _ _ _ 5 2 L5 l1, v1]
    rw [p0, hs]
    obtain ⟨k, t, i, s, l⟩ := q
    dsimp only at f0 f2
    subst f0 f2
    rfl
  · have p0 : partN (bytesOf q) 5 8 = q.ttl.toNat := by
      rw [b0, e, List.flatMap_cons, partN_app _ _ _ 5 8 L5 l2, v2]
    rw [p0, hw]
    obtain ⟨k, t, i, s, l⟩ := q
    dsimp only at f0 f1
    subst f0 f1
    rfl
  · have p0 : partN (bytesOf q) 5 4 = q.id := by
      rw [b0, e, List.flatMap_cons, partN_app _ _ _ 5 4 L5 l0, v0]
    have p1 : partN (bytesOf q) 9 2 = q.seat.toNat := by
      rw [b0, e, List.flatMap_cons, List.flatMap_cons, ← List.append_assoc, partN_app _ _ _ 9 2 (by rw [List.length_append, L5, l0]) l1, v1]
    rw [p0, p1, hs]
    obtain ⟨k, t, i, s, l⟩ := q
    dsimp only at f2
    subst f2
    rfl
  · have p0 : partN (bytesOf q) 5 2 = q.seat.toNat := by
      rw [b0, e, List.flatMap_cons, partN_app _ _ _ 5 2 L5 l1, v1]
    have p1 : partN (bytesOf q) 7 8 = q.ttl.toNat := by
      rw [b0, e, List.flatMap_cons, List.flatMap_cons, ← List.append_assoc, partN_app _ _ _ 7 8 (by rw [List.length_append, L5, l1]) l2, v2]
    rw [p0, p1, hs, hw]
    obtain ⟨k, t, i, s, l⟩ := q
    dsimp only at f0
    subst f0
    rfl
/-- The reference reads just what the program reads. -/
theorem rfOk_eq (b : List UInt8) : rfOk b = getOk b ∧ (getOk b = true → rfP b = (getS b).q) := by
  cases h : getOk b with
  | true =>
    obtain ⟨q, hs, hq, hm, rfl⟩ := getOk_inv b h
    have := rfP_of q hq hm
    refine ⟨?_, fun _ => by rw [this, hs]⟩
    unfold rfOk
    rw [this, hm]
    simp
  | false =>
    refine ⟨?_, fun h' => by cases h'⟩
    cases hr : rfOk b with
    | false => rfl
    | true =>
      unfold rfOk at hr
      simp only [Bool.and_eq_true, decide_eq_true_eq] at hr
      have := getOk_of _ (rfP_ok b) hr.1
      rw [hr.2, h] at this
      cases this
def rz : Rq := ⟨0, 0, 0, 0, 0⟩
def getV (b : List UInt8) : Rq := if getOk b = true then (getS b).q else rz
theorem getq_v (b : List UInt8) (v : Value) (w : World) (hb : Bs w v b) (hl : b.length ≤ 140737488355328) :
    Calls Try.prog 17 #[v] w fun e w' => e = .returned (.tuple #[(getV b).v, .int .i64 (if getOk b = true then 0 else 200)]) ∧ Mod [] w w' :=
  (getq_any b v w hb hl).mono fun e w' ⟨h1, h2⟩ => ⟨by rw [h1]; unfold getV; cases getOk b <;> rfl, h2⟩
theorem refGet_v (b : List UInt8) (v : Value) (w : World) (hb : Bs w v b) (hl : b.length ≤ 140737488355328) :
    Calls Try.prog 18 #[v] w fun e w' => e = .returned (.tuple #[(getV b).v, .int .i64 (if getOk b = true then 0 else 200)]) ∧ Mod [] w w' :=
  (refGet_any b v w hb hl).mono fun e w' ⟨h1, h2⟩ => ⟨by
    rw [h1, (rfOk_eq b).1]
    unfold getV
    cases h : getOk b with
    | true => rw [if_pos rfl, if_pos rfl, (rfOk_eq b).2 h, if_pos rfl]
    | false => rfl, h2⟩

set_option maxRecDepth 1000000 in
set_option maxHeartbeats 4000000 in
theorem requestsGets_core (b : List UInt8) (bv0 : Value) (w : World) (hb : Bs w bv0 b) (hl : b.length ≤ 1048576) :
    Calls Try.prog 4 #[bv0] w fun e w' => e = .returned (.bool true) ∧ Mod [] w w' := by
  obtain ⟨aob, capb, rfl, _, _⟩ := hb.form
  have G := fun v w h => getq_v b v w h (by omega)
  have R := fun v w h => refGet_v b v w h (by omega)
  obtain ⟨E, hE⟩ : ∃ E : Int, E = if getOk b = true then 0 else 200 := ⟨_, rfl⟩
  obtain ⟨q, hq⟩ : ∃ q, q = getV b := ⟨_, rfl⟩
  rw [← hE, ← hq] at G R
  clear hE hq
  obtain ⟨kind, tag, id, seat, ttl⟩ := q
  dsimp only [Rq.v] at *
  have hcmp := fun w => rq_eql_same kind seat ttl tag id w
  go_enter Try.func4, Try.ntmps4
  go_wp2_with (first
                | (with_reducible refine st_alloc ?_)
                | (go_at_call 8; refine (rqawake_any _).mono ?_; rintro e w1 ⟨rfl, hm1⟩)
                | (go_at_call 16; refine (lent_any b _ _ (hb.ext hm1) (by omega)).mono ?_; rintro e w2 ⟨g, cap, rfl, hg, hL2, hm2⟩)
                | (go_at_call 17; refine (G _ _ hL2.bs).mono ?_; rintro e w3 ⟨rfl, hm3⟩))
  refine StopOp.go rfl fun K hK => ?_
  refine wp_alloc zero_req ?_
  intro p4 w4 hp41 hp42 hm4 hB4
  simp only [put_some, List.set_cons_succ, List.set_cons_zero]
  refine hK _ _ ?_
  clear hK K
  go_wp2_with (with_reducible refine st_store ?_)
  refine StopOp.go rfl fun K hK => ?_
  refine wp_store (u := .agg #[.int .i64 kind, .int .u32 tag, .int .u32 id, .int .i64 seat, .int .i64 ttl]) (by rfl) (by rfl) (by kernel_rfl) hB4 (by simp [Value.cells]) (by simp [Value.cells, Value.oneCell']) ?_
  intro w5 hm5 hB5
  refine hK _ _ ?_
  clear hK K
  have hX5 : Blk w5 p4 25 [.int .i64 kind, .int .u32 tag, .int .u32 id, .int .i64 seat, .int .i64 ttl] := hB5
  have hm25 : Mod [] w2 w5 := hm3.ext (hm4.fresh hm5 (by simpa using hp41))
  have hL5 := hL2.ext hm25
  have hM5 := (hm1.ext hm2).ext hm25
  clear hB4 hB5 hm4 hm5 hm1 hm2 hm3 hm25 hL2
  go_wp2_with (first
                | (with_reducible refine st_alloc ?_)
                | (go_at_call 18; refine (R _ _ (hb.ext hM5)).mono ?_; rintro e w6 ⟨rfl, hm6⟩))
  refine StopOp.go rfl fun K hK => ?_
  refine wp_alloc zero_req ?_
  intro p7 w7 hp71 hp72 hm7 hB7
  simp only [put_some, List.set_cons_succ, List.set_cons_zero]
  refine hK _ _ ?_
  clear hK K
  go_wp2_with (with_reducible refine st_store ?_)
  refine StopOp.go rfl fun K hK => ?_
  refine wp_store (u := .agg #[.int .i64 kind, .int .u32 tag, .int .u32 id, .int .i64 seat, .int .i64 ttl]) (by rfl) (by rfl) (by kernel_rfl) hB7 (by simp [Value.cells]) (by simp [Value.cells, Value.oneCell']) ?_
  intro w8 hm8 hB8
  refine hK _ _ ?_
  clear hK K
  have hX8 : Blk w8 p7 25 [.int .i64 kind, .int .u32 tag, .int .u32 id, .int .i64 seat, .int .i64 ttl] := hB8
  have hm58 : Mod [] w5 w8 := hm6.ext (hm7.fresh hm8 (by simpa using hp71))
  have hL8 := hL5.ext hm58
  have hM8 := hM5.ext hm58
  have hY8 := hX5.ext hm58
  clear hB7 hB8 hm7 hm8 hm6 hm58 hX5 hL5
  go_wp2_with (go_at_call 19; refine (kept_any g cap b _ _ hL8 (hb.ext hM8)).mono ?_; rintro e w9 ⟨rfl, hm9⟩; have hX9 := hX8.ext hm9; have hY9 := hY8.ext hm9; have a0 := hX9.cell' (i := 0) rfl; have a1 := hX9.cell' (i := 1) rfl; have a2 := hX9.cell' (i := 2) rfl; have a3 := hX9.cell' (i := 3) rfl; have a4 := hX9.cell' (i := 4) rfl; have b0 := hY9.cell' (i := 0) rfl; have b1 := hY9.cell' (i := 1) rfl; have b2 := hY9.cell' (i := 2) rfl; have b3 := hY9.cell' (i := 3) rfl; have b4 := hY9.cell' (i := 4) rfl)
  go_ret
  exact ⟨rfl, hM8.ext hm9⟩
end Go.Proofs.Ytfcoaiggpcjldaa
