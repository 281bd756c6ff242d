import Derived.Test.YtfcoaiggpcjldaaDoorRpM
import Derived.Test.YtfcoaiggpcjldaaDoorRpG
import Derived.Test.YtfcoaiggpcjldaaDoorCopA
/-! RepliesGets. -/
set_option linter.unusedVariables false
set_option linter.unusedSimpArgs false
set_option maxRecDepth 100000
namespace Go.Proofs.YtfcoaiggpcjldaaDoor
open Go.RowKit Gw

theorem nb_app (x y z : List UInt8) (p n : Nat) (hp : x.length = p) (hn : y.length = n) : nb (x ++ (y ++ z)) p n = val y := by
  subst hp hn
  unfold nb
  rw [List.drop_left, List.take_left]
theorem rfR_of (r : Rp) (hr : r.ok) (hm : MayR r) : rfR (rbytes r) = r := by
  obtain ⟨p1, p2, p3, p4, p5, p6, p7, p8, p9⟩ := mayR_parts hm
  obtain ⟨_, _, g3, g4, _, g6, g7⟩ := hm
  have t1 := hr.t1
  have t2 := hr.t2
  have i1 := hr.i1
  have i2 := hr.i2
  have l2 := hr.l2
  have hb : rbytes r = rhead r ++ ((if hI r.kind r.err = true then low r.id.toNat 4 else []) ++ ((if hS r.kind r.err = true then low r.seat.toNat 2 else []) ++ ((if hU r.kind r.err = true then low r.till.toNat 8 else []) ++ (if hC r.kind r.err = true then low r.count.toNat 2 else [])))) := by
    unfold rbytes
    simp only [List.append_assoc]
  have e0 : nb (rbytes r) 0 4 = r.tag.toNat := by
    rw [hb]
    unfold rhead
    simp only [List.append_assoc]
    have h0 : ∀ z, nb (low r.tag.toNat 4 ++ z) 0 4 = val (low r.tag.toNat 4) := fun z => nb_app [] (low r.tag.toNat 4) z 0 4 rfl (low_length _ _)
    rw [h0, val_low' 4 _ (by omega)]
  have e1 : nb (rbytes r) 4 1 = r.kind.toNat := by
    rw [hb]
    unfold rhead
    simp only [List.append_assoc]
    rw [nb_app (low r.tag.toNat 4) (low r.kind.toNat 1) _ 4 1 (low_length _ _) (low_length _ _), val_low' 1 _ (by omega)]
  have e2 : nb (rbytes r) 5 2 = r.err.toNat := by
    rw [hb]
    unfold rhead
    rw [List.append_assoc, nb_app (low r.tag.toNat 4 ++ low r.kind.toNat 1) (low r.err.toNat 2) _ 5 2 (by rw [List.length_append, low_length, low_length]) (low_length _ _), val_low' 2 _ (by omega)]
  have c0 : ((r.tag.toNat : Nat) : Int) = r.tag := Int.toNat_of_nonneg t1
  have c1 : ((r.kind.toNat : Nat) : Int) = r.kind := Int.toNat_of_nonneg p1
  have c2 : ((r.err.toNat : Nat) : Int) = r.err := Int.toNat_of_nonneg p3
  obtain ⟨q1, hq1⟩ : ∃ q, q = if hI r.kind r.err = true then 11 else 7 := ⟨_, rfl⟩
  obtain ⟨q2, hq2⟩ : ∃ q, q = if hS r.kind r.err = true then q1 + 2 else q1 := ⟨_, rfl⟩
  obtain ⟨q3, hq3⟩ : ∃ q, q = if hU r.kind r.err = true then q2 + 8 else q2 := ⟨_, rfl⟩
  have hl := rhead_len r
  have L1 : (rhead r ++ (if hI r.kind r.err = true then low r.id.toNat 4 else [])).length = q1 := by rw [hq1, List.length_append, hl]; split <;> simp [low_length]
  have L2 : (rhead r ++ (if hI r.kind r.err = true then low r.id.toNat 4 else []) ++ (if hS r.kind r.err = true then low r.seat.toNat 2 else [])).length = q2 := by rw [hq2, List.length_append, L1]; split <;> simp [low_length]
  have L3 : (rhead r ++ (if hI r.kind r.err = true then low r.id.toNat 4 else []) ++ (if hS r.kind r.err = true then low r.seat.toNat 2 else []) ++ (if hU r.kind r.err = true then low r.till.toNat 8 else [])).length = q3 := by rw [hq3, List.length_append, L2]; split <;> simp [low_length]
  have f1 : (if hI r.kind r.err = true then (nb (rbytes r) 7 4 : Int) else 0) = r.id := by
    cases hf : hI r.kind r.err with
    | false => rw [hf] at g3; rw [if_neg (by simp)]; rcases g3 with g | g; exact g.symm; cases g
    | true =>
      rw [hf, if_pos rfl] at hb
      rw [if_pos rfl, hb, nb_app (rhead r) (low r.id.toNat 4) _ 7 4 hl (low_length _ _), val_low' 4 _ (by omega)]
      exact Int.toNat_of_nonneg i1
  have f2 : (if hS r.kind r.err = true then (nb (rbytes r) q1 2 : Int) else 0) = r.seat := by
    cases hf : hS r.kind r.err with
    | false => rw [hf] at g6; rw [if_neg (by simp)]; rcases g6 with g | ⟨g, _⟩; exact g.symm; cases g
    | true =>
      rw [hf, if_pos rfl, ← List.append_assoc] at hb
      rw [if_pos rfl, hb, nb_app _ (low r.seat.toNat 2) _ q1 2 L1 (low_length _ _), val_low' 2 _ (by omega)]
      exact Int.toNat_of_nonneg p6
  have f3 : (if hU r.kind r.err = true then wrap64 (nb (rbytes r) q2 8) else 0) = r.till := by
    cases hf : hU r.kind r.err with
    | false => rw [hf] at g4; rw [if_neg (by simp)]; rcases g4 with g | g; exact g.symm; cases g
    | true =>
      rw [hf, if_pos rfl, ← List.append_assoc, ← List.append_assoc] at hb
      rw [if_pos rfl, hb, nb_app _ (low r.till.toNat 8) _ q2 8 L2 (low_length _ _), val_low' 8 _ (by omega), wrap64_in (by omega)]
      exact Int.toNat_of_nonneg p5
  have f4 : (if hC r.kind r.err = true then (nb (rbytes r) q3 2 : Int) else 0) = r.count := by
    cases hf : hC r.kind r.err with
    | false => rw [hf] at g7; rw [if_neg (by simp)]; rcases g7 with g | ⟨g, _⟩; exact g.symm; cases g
    | true =>
      have hb' : rbytes r = (rhead r ++ (if hI r.kind r.err = true then low r.id.toNat 4 else []) ++ (if hS r.kind r.err = true then low r.seat.toNat 2 else []) ++ (if hU r.kind r.err = true then low r.till.toNat 8 else [])) ++ (low r.count.toNat 2 ++ []) := by
        rw [hb, hf, if_pos rfl]
        simp only [List.append_assoc, List.append_nil]
      rw [if_pos rfl, hb', nb_app _ (low r.count.toNat 2) _ q3 2 L3 (low_length _ _), val_low' 2 _ (by omega)]
      exact Int.toNat_of_nonneg p8
  unfold rfR
  dsimp only
  rw [e0, e1, e2, c0, c1, c2, ← hq1, ← hq2, ← hq3, f1, f2, f3, f4]
/-- The reference reads just what the program reads. -/
theorem rfROk_eq (b : List UInt8) : rfROk b = rgetOk b ∧ (rgetOk b = true → rfR b = (rgetS b).r) := by
  cases h : rgetOk b with
  | true =>
    obtain ⟨r, hs, hr, hm, rfl⟩ := rgetOk_inv b h
    have := rfR_of r hr hm
    refine ⟨?_, fun _ => by rw [this, hs]⟩
    unfold rfROk
    have hmb : mayR r = true := decide_eq_true hm
    rw [this, hmb]
    simp
  | false =>
    refine ⟨?_, fun h' => by cases h'⟩
    cases hr : rfROk b with
    | false => rfl
    | true =>
      unfold rfROk at hr
      simp only [Bool.and_eq_true, decide_eq_true_eq] at hr
      have := rgetOk_of _ (rfR_ok b) (of_decide_eq_true hr.1)
      rw [hr.2, h] at this
      cases this
theorem rget_v (b : List UInt8) (E : Int) (q : Rp) (hE : E = if rgetOk b = true then 0 else 210) (hq : q = rgetV b) (v : Value) (w : World) (hT : Tab w) (hb : Bs w v b) (hl : b.length ≤ 140737488355328) :
    Calls Tryd.prog 16 #[v] w fun e w' => e = .returned (.tuple #[.agg #[.int .u32 q.tag, .int .i64 q.kind, .int .i64 q.err, .int .u32 q.id, .int .i64 q.seat, .int .i64 q.till, .int .i64 q.count], .int .i64 E]) ∧ Mod [] w w' := by
  subst hE hq
  exact rget_any b v w hT hb hl
theorem rrefGet_v (b : List UInt8) (E : Int) (q : Rp) (hE : E = if rgetOk b = true then 0 else 210) (hq : q = rgetV b) (v : Value) (w : World) (hb : Bs w v b) (hl : b.length ≤ 140737488355328) :
    Calls Tryd.prog 17 #[v] w fun e w' => e = .returned (.tuple #[.agg #[.int .u32 q.tag, .int .i64 q.kind, .int .i64 q.err, .int .u32 q.id, .int .i64 q.seat, .int .i64 q.till, .int .i64 q.count], .int .i64 E]) ∧ Mod [] w w' := by
  subst hE hq
  refine (rrefGet_any b v w hb hl).mono fun e w' ⟨h1, h2⟩ => ⟨?_, h2⟩
  rw [h1, (rfROk_eq b).1]
  unfold rgetV
  cases h : rgetOk b with
  | true => rw [if_pos rfl, if_pos rfl, (rfROk_eq b).2 h, if_pos rfl]; rfl
  | false => rfl

set_option maxRecDepth 1000000 in
set_option maxHeartbeats 4000000 in
theorem repliesGets_core (b c : List UInt8) (bv0 cv0 : Value) (w : World) (hT : Tab w) (hb : Bs w bv0 b) (hc : Bs w cv0 c) (hl : b.length ≤ 1048576) (hlc : c.length ≤ 1048576) :
    Calls Tryd.prog 4 #[bv0, cv0] w fun e w' => e = .returned (.bool true) ∧ Mod [] w w' := by
  obtain ⟨aob, capb, rfl, _, _⟩ := hb.form
  obtain ⟨aoc, capc, rfl, _, _⟩ := hc.form
  obtain ⟨E, hE⟩ : ∃ E : Int, E = if rgetOk b = true then 0 else 210 := ⟨_, rfl⟩
  obtain ⟨q, hq⟩ : ∃ q, q = rgetV b := ⟨_, rfl⟩
  obtain ⟨F, hF⟩ : ∃ E : Int, E = if rgetOk (over c b) = true then 0 else 210 := ⟨_, rfl⟩
  obtain ⟨s, hs⟩ : ∃ q, q = rgetV (over c b) := ⟨_, rfl⟩
  have hol := over_len c b
  have G := fun v w h1 h => rget_v b E q hE hq v w h1 h (by omega)
  have R := fun v w h => rrefGet_v b E q hE hq v w h (by omega)
  have G2 := fun v w h1 h => rget_v (over c b) F s hF hs v w h1 h (by omega)
  have R2 := fun v w h => rrefGet_v (over c b) F s hF hs v w h (by omega)
  clear hE hq hF hs
  have hcmp := fun w => rp_neq_same q.tag q.kind q.err q.id q.seat q.till q.count w
  have hcme := fun w => rp_eql_same s.tag s.kind s.err s.id s.seat s.till s.count w
  go_enter Tryd.func4, Tryd.ntmps4
  go_wp2_with (first
                | (with_reducible refine st_alloc ?_)
                | (go_at_call 15; refine (lent_any b _ _ hb (by omega)).mono ?_; rintro e w2 ⟨g, cap, rfl, hg, hL2, hm2⟩)
                | (go_at_call 16; refine (G _ _ (hT.ext hm2) hL2.bs).mono ?_; rintro e w3 ⟨rfl, hm3⟩))
  refine StopOp.go rfl fun K hK => ?_
  refine wp_alloc zero_rep ?_
  intro g4 w4 hg41 hg42 hmww4 hBww4
  simp only [put_some, List.set_cons_succ, List.set_cons_zero]
  refine hK _ _ ?_
  clear hK K
  go_wp2_with (with_reducible refine st_store ?_)
  refine StopOp.go rfl fun K hK => ?_
  refine wp_store (u := .agg #[.int .u32 q.tag, .int .i64 q.kind, .int .i64 q.err, .int .u32 q.id, .int .i64 q.seat, .int .i64 q.till, .int .i64 q.count]) (by rfl) (by rfl) (by kernel_rfl) hBww4 (by simp [Value.cells]) (by simp [Value.cells, Value.oneCell']) ?_
  intro w5 hmww5 hBww5
  refine hK _ _ ?_
  clear hK K
  have hBg4 : Blk w5 g4 26 [.int .u32 q.tag, .int .i64 q.kind, .int .i64 q.err, .int .u32 q.id, .int .i64 q.seat, .int .i64 q.till, .int .i64 q.count] := hBww5
  have hxw5 : Mod [] w3 w5 := hmww4.fresh hmww5 (by simpa using hg41)
  clear hBww4 hBww5 hmww4 hmww5
  have hM5 := (hm2.ext hm3).ext hxw5
  have hL5 := (hL2.ext hm3).ext hxw5
  have hg4w : w2.heap.size ≤ g4 := Nat.le_trans hm3.size hg41
  clear hm3 hxw5
  go_wp2_with (first
                | (with_reducible refine st_alloc ?_)
                | (go_at_call 17; refine (R _ _ (hb.ext hM5)).mono ?_; rintro e w6 ⟨rfl, hm6⟩))
  refine StopOp.go rfl fun K hK => ?_
  refine wp_alloc zero_rep ?_
  intro g7 w7 hg71 hg72 hmww7 hBww7
  simp only [put_some, List.set_cons_succ, List.set_cons_zero]
  refine hK _ _ ?_
  clear hK K
  go_wp2_with (with_reducible refine st_store ?_)
  refine StopOp.go rfl fun K hK => ?_
  refine wp_store (u := .agg #[.int .u32 q.tag, .int .i64 q.kind, .int .i64 q.err, .int .u32 q.id, .int .i64 q.seat, .int .i64 q.till, .int .i64 q.count]) (by rfl) (by rfl) (by kernel_rfl) hBww7 (by simp [Value.cells]) (by simp [Value.cells, Value.oneCell']) ?_
  intro w8 hmww8 hBww8
  refine hK _ _ ?_
  clear hK K
  have hBg7 : Blk w8 g7 26 [.int .u32 q.tag, .int .i64 q.kind, .int .i64 q.err, .int .u32 q.id, .int .i64 q.seat, .int .i64 q.till, .int .i64 q.count] := hBww8
  have hxw8 : Mod [] w6 w8 := hmww7.fresh hmww8 (by simpa using hg71)
  clear hBww7 hBww8 hmww7 hmww8
  have hM8 := (hM5.ext hm6).ext hxw8
  have hL8 := (hL5.ext hm6).ext hxw8
  have hB48 := (hBg4.ext hm6).ext hxw8
  have hg7w : w2.heap.size ≤ g7 := by have := hL5; have h1 := hm6.size; have h2 := hBg4.lt; omega
  have hgg : g4 ≠ g7 := by have h2 := hBg4.lt; have h1 := hm6.size; omega
  have a0 := hB48.cell' (i := 0) rfl
  have a1 := hB48.cell' (i := 1) rfl
  have a2 := hB48.cell' (i := 2) rfl
  have a3 := hB48.cell' (i := 3) rfl
  have a4 := hB48.cell' (i := 4) rfl
  have a5 := hB48.cell' (i := 5) rfl
  have a6 := hB48.cell' (i := 6) rfl
  have b0 := hBg7.cell' (i := 0) rfl
  have b1 := hBg7.cell' (i := 1) rfl
  have b2 := hBg7.cell' (i := 2) rfl
  have b3 := hBg7.cell' (i := 3) rfl
  have b4 := hBg7.cell' (i := 4) rfl
  have b5 := hBg7.cell' (i := 5) rfl
  have b6 := hBg7.cell' (i := 6) rfl
  have hgw : w.heap.size ≤ g := hg
  go_wp2_with (first
                | (with_reducible refine st_copy ?_)
                | (go_at_call 18; refine (kept_any g cap b _ _ hL8 (hb.ext hM8)).mono ?_; rintro e w9 ⟨rfl, hm9⟩))
  have hM9 := hM8.ext hm9
  have hL9 := hL8.ext hm9
  have hB49 := hB48.ext hm9
  have hB79 := hBg7.ext hm9
  clear a0 a1 a2 a3 a4 a5 a6 b0 b1 b2 b3 b4 b5 b6 hm9 hL8 hM8 hB48 hBg7 hxw8 hm6 hL5 hM5 hBg4
  obtain ⟨rest, hBL, hlr, hcl⟩ := hL9
  have hcap := (show Lt w9 g cap b from ⟨rest, hBL, hlr, hcl⟩).cap
  have hg4 : g4 ≠ g := fun h => by have := (show Lt w2 g cap b from hL2); obtain ⟨_, h1, _⟩ := this; have := h1.lt; omega
  have hg7 : g7 ≠ g := fun h => by have := (show Lt w2 g cap b from hL2); obtain ⟨_, h1, _⟩ := this; have := h1.lt; omega
  rw [bv_append, List.append_assoc] at hBL
  refine StopOp.go rfl fun K hK => ?_
  refine wp_copy_head (min c.length b.length) rfl Tryd.underlying27 (by kernel_rfl) (by rfl) (by rfl) hBL (by rw [bv_length]) (hc.ext hM9) (bv_one c) ?_
  intro w10 hB10 hm10
  simp only [put_some, List.set_cons_succ, List.set_cons_zero]
  refine hK _ _ ?_
  clear hK K
  have hs10 : Bs w10 (.slice (some ⟨g, 0, none⟩) b.length cap) (over c b) := by
    have e : (bv c).take (min c.length b.length) ++ (bv b).drop (min c.length b.length) = bv (over c b) := by unfold over bv; rw [List.map_append, List.map_take, List.map_drop]
    rw [e] at hB10
    have := Bs.of_blk (c := cap) hB10 (by rw [hol]; omega) hcl
    rwa [hol] at this
  have hM10 := hM9.fresh hm10 (by simpa using hgw)
  have hB410 := hB49.mod hm10 (by simpa using hg4)
  have hB710 := hB79.mod hm10 (by simpa using hg7)
  clear hB10 hm10 hM9 hBL hB49 hB79 G R
  go_wp2_with (first
                | (with_reducible refine st_store ?_)
                | (go_at_call 16; refine (G2 _ _ (hT.ext hM10) hs10).mono ?_; rintro e w11 ⟨rfl, hm11⟩))
  have hB411 := hB410.ext hm11
  refine StopOp.go rfl fun K hK => ?_
  refine wp_store (u := .agg #[.int .u32 s.tag, .int .i64 s.kind, .int .i64 s.err, .int .u32 s.id, .int .i64 s.seat, .int .i64 s.till, .int .i64 s.count]) (by rfl) (by rfl) (by kernel_rfl) hB411 (by simp [Value.cells]) (by simp [Value.cells, Value.oneCell']) ?_
  intro w12 hmw12 hBw12
  refine hK _ _ ?_
  clear hK K
  have hX12 : Blk w12 g4 26 [.int .u32 s.tag, .int .i64 s.kind, .int .i64 s.err, .int .u32 s.id, .int .i64 s.seat, .int .i64 s.till, .int .i64 s.count] := hBw12
  have hB712 := (hB710.ext hm11).mod hmw12 (by simpa using hgg.symm)
  have hs12 : Bs w12 (.slice (some ⟨g, 0, none⟩) b.length cap) (over c b) := Sl.mod (hs10.ext hm11) hmw12 (by simp [blks]; exact fun h => hg4 h.symm)
  have hM12 := (hM10.ext hm11).fresh hmw12 (by simpa using Nat.le_trans hm2.size hg4w)
  go_wp2_with (first
                | (with_reducible refine st_store ?_)
                | (go_at_call 17; refine (R2 _ _ hs12).mono ?_; rintro e w13 ⟨rfl, hm13⟩))
  have hB713 := hB712.ext hm13
  refine StopOp.go rfl fun K hK => ?_
  refine wp_store (u := .agg #[.int .u32 s.tag, .int .i64 s.kind, .int .i64 s.err, .int .u32 s.id, .int .i64 s.seat, .int .i64 s.till, .int .i64 s.count]) (by rfl) (by rfl) (by kernel_rfl) hB713 (by simp [Value.cells]) (by simp [Value.cells, Value.oneCell']) ?_
  intro w14 hmw14 hBw14
  refine hK _ _ ?_
  clear hK K
  have hY14 : Blk w14 g7 26 [.int .u32 s.tag, .int .i64 s.kind, .int .i64 s.err, .int .u32 s.id, .int .i64 s.seat, .int .i64 s.till, .int .i64 s.count] := hBw14
  have hX14 := (hX12.ext hm13).mod hmw14 (by simpa using hgg)
  have hM14 := (hM12.ext hm13).fresh hmw14 (by simpa using Nat.le_trans hm2.size hg7w)
  have a0 := hX14.cell' (i := 0) rfl
  have a1 := hX14.cell' (i := 1) rfl
  have a2 := hX14.cell' (i := 2) rfl
  have a3 := hX14.cell' (i := 3) rfl
  have a4 := hX14.cell' (i := 4) rfl
  have a5 := hX14.cell' (i := 5) rfl
  have a6 := hX14.cell' (i := 6) rfl
  have b0 := hY14.cell' (i := 0) rfl
  have b1 := hY14.cell' (i := 1) rfl
  have b2 := hY14.cell' (i := 2) rfl
  have b3 := hY14.cell' (i := 3) rfl
  have b4 := hY14.cell' (i := 4) rfl
  have b5 := hY14.cell' (i := 5) rfl
  have b6 := hY14.cell' (i := 6) rfl
  go_wp2_with (go_at_call 14; refine (rpawake_any _ (hT.ext hM14)).mono ?_; rintro e w15 ⟨rfl, hm15⟩)
  go_ret
  exact ⟨rfl, hM14.ext hm15⟩
end Go.Proofs.YtfcoaiggpcjldaaDoor
