import Derived.Test.YtdmnogmhnhjdgaaGreatPwO
import Derived.Test.YtdmnogmhnhjdgaaGreatPwM
import Derived.Test.YtdmnogmhnhjdgaaGreatPwL
/-! PowerPlays. -/
set_option linter.unusedVariables false
set_option linter.unusedSimpArgs false
set_option maxRecDepth 100000
namespace Go.Proofs.YtdmnogmhnhjdgaaGreat
open Go.RowKit Gw

theorem zero_twos : (Tryz.prog.info? 48).map (·.zero) = some (some (.agg #[.pointer none, .pointer none, .pointer none, .pointer none, .pointer none, .pointer none])) := by kernel_rfl
theorem and_one (n : Int) : bits .and .i64 n 1 = 0 ∨ bits .and .i64 n 1 = 1 := by
  have h : bits .and .i64 n 1 = IntKind.i64.wrap (((BitVec.ofInt 64 n).toNat % 2 : Nat) : Int) := by
    show IntKind.i64.wrap ((BitVec.ofInt 64 n &&& BitVec.ofInt 64 1).toNat : Int) = _
    rw [BitVec.toNat_and, show (BitVec.ofInt 64 1).toNat = 1 from rfl, Nat.and_one_is_mod]
  rcases Nat.mod_two_eq_zero_or_one (BitVec.ofInt 64 n).toNat with e | e
  · left
    rw [h, e]
    rfl
  · right
    rw [h, e]
    rfl
/-- one side: the program's device, the disk under it as it is at hand, the document's device -/
structure Sd where
  p : Nat
  q : Nat
  P : Nat
  Q : Nat
  u : Option Addr
  v : Pv
  L : List Nat
  M : List Nat
def Sd.foot (s : Sd) : List Nat := (s.p :: s.L) ++ (s.P :: s.M)
def Sd.cells (s : Sd) : List Value := [.pointer (some ⟨s.p, 0, none⟩), .pointer s.u, .pointer (some ⟨s.P, 0, none⟩)]
structure SdOk (W w : World) (s : Sd) : Prop where
  h : Pq W w s.p s.q s.P s.Q s.v s.v s.L s.M
  u : s.u = none ∨ s.u = some ⟨s.q, 0, none⟩
section
variable {W w w' : World} {s : Sd} {G : List Nat}
theorem SdOk.ext (h : SdOk W w s) (hm : Mod [] w w') : SdOk W w' s := ⟨h.h.ext hm, h.u⟩
theorem SdOk.keep (h : SdOk W w s) (hm : Mod G w w') (h1 : ∀ k ∈ s.foot, k ∉ G) (hG : ∀ k ∈ G, W.heap.size ≤ k) : SdOk W w' s :=
  ⟨h.h.keep hm (fun k hk => h1 k (List.mem_append_left _ hk)) (fun k hk => h1 k (List.mem_append_right _ hk)) hG, h.u⟩
theorem SdOk.lt (h : SdOk W w s) : ∀ k ∈ s.foot, k < w.heap.size := fun k hk => (List.mem_append.1 hk).elim (h.h.d.lt k) (h.h.r.lt k)
theorem SdOk.ge (h : SdOk W w s) : ∀ k ∈ s.foot, W.heap.size ≤ k := fun k hk => (List.mem_append.1 hk).elim (h.h.g1 k) (h.h.g2 k)
end
/-- both sides -/
structure TI (W w : World) (x : Nat) (s0 s1 : Sd) : Prop where
  a : SdOk W w s0
  b : SdOk W w s1
  ap : ∀ k ∈ s0.foot, k ∉ s1.foot
  bx : Blk w x 48 (s0.cells ++ s1.cells)
  x0 : x ∉ s0.foot
  x1 : x ∉ s1.foot
  xW : W.heap.size ≤ x
  m : Mod [] W w
/-- what a step makes of a side -/
def Sd.to (s : Sd) (V : Pv) (L M : List Nat) : Sd := ⟨s.p, s.q, s.P, s.Q, s.u, V, L, M⟩
section
variable {W w w' : World} {x : Nat} {s0 s1 : Sd} {G : List Nat} {V : Pv} {L M : List Nat}
theorem TI.ext (h : TI W w x s0 s1) (hm : Mod [] w w') : TI W w' x s0 s1 := ⟨h.a.ext hm, h.b.ext hm, h.ap, h.bx.ext hm, h.x0, h.x1, h.xW, h.m.ext hm⟩
theorem TI.far (h : TI W w x s0 s1) (hm : Mod G w w') (hG : ∀ k ∈ G, w.heap.size ≤ k) : TI W w' x s0 s1 :=
  have hW := h.m.size
  ⟨h.a.keep hm (fun k hk hh => by have := h.a.lt k hk; have := hG k hh; omega) (fun k hk => by have := hG k hk; omega), h.b.keep hm (fun k hk hh => by have := h.b.lt k hk; have := hG k hh; omega) (fun k hk => by have := hG k hk; omega), h.ap, h.bx.mod hm (fun hh => by have := h.bx.lt; have := hG x hh; omega), h.x0, h.x1, h.xW, h.m.fresh hm (fun k hk => by have := hG k hk; omega)⟩
theorem TI.step0 (h : TI W w x s0 s1) (hp : Pq W w' s0.p s0.q s0.P s0.Q V V L M) (hm : Mod s0.foot w w') (hn : ∀ k ∈ (s0.p :: L) ++ (s0.P :: M), k ∈ s0.foot ∨ w.heap.size ≤ k) : TI W w' x (s0.to V L M) s1 :=
  ⟨⟨hp, h.a.u⟩, h.b.keep hm (fun k hk hh => h.ap k hh hk) h.a.ge, fun k hk hh => (hn k hk).elim (fun h1 => h.ap k h1 hh) (fun h1 => by have := h.b.lt k hh; omega), h.bx.mod hm h.x0, fun hh => (hn x hh).elim h.x0 (fun h1 => by have := h.bx.lt; omega), h.x1, h.xW, h.m.fresh hm h.a.ge⟩
theorem TI.step1 (h : TI W w x s0 s1) (hp : Pq W w' s1.p s1.q s1.P s1.Q V V L M) (hm : Mod s1.foot w w') (hn : ∀ k ∈ (s1.p :: L) ++ (s1.P :: M), k ∈ s1.foot ∨ w.heap.size ≤ k) : TI W w' x s0 (s1.to V L M) :=
  ⟨h.a.keep hm (fun k hk hh => h.ap k hk hh) h.b.ge, ⟨hp, h.b.u⟩, fun k hk hh => (hn k hh).elim (fun h1 => h.ap k hk h1) (fun h1 => by have := h.a.lt k hk; omega), h.bx.mod hm h.x1, h.x0, fun hh => (hn x hh).elim h.x1 (fun h1 => by have := h.bx.lt; omega), h.xW, h.m.fresh hm h.b.ge⟩
end
section
variable {W w w' : World} {x c qc C QC B : Nat} {s0 s1 : Sd} {v : Pv} {Lc Mc : List Nat}
theorem TI.cp1 (h : TI W w x s0 s1) (hn : Pq W w c qc C QC v v Lc Mc) (hf : ∀ k ∈ (c :: Lc) ++ (C :: Mc), B ≤ k) (h0 : ∀ k ∈ s0.foot, k < B) (hx : x < B) (hm : Mod [x] w w') (hX : Blk w' x 48 (s0.cells ++ (Sd.mk c qc C QC none v Lc Mc).cells)) : TI W w' x s0 ⟨c, qc, C, QC, none, v, Lc, Mc⟩ :=
  have hk : ∀ k ∈ (c :: Lc) ++ (C :: Mc), k ∉ [x] := fun k hk hh => by have := hf k hk; have e : k = x := (by simpa using hh); omega
  ⟨h.a.keep hm (fun k hk hh => h.x0 (by have e : k = x := (by simpa using hh); exact e ▸ hk)) (by simpa using h.xW), ⟨hn.keep hm (fun k h1 => hk k (List.mem_append_left _ h1)) (fun k h1 => hk k (List.mem_append_right _ h1)) (by simpa using h.xW), .inl rfl⟩, fun k h1 h2 => by have := h0 k h1; have := hf k h2; omega, hX, h.x0, fun hh => by have := hf x hh; omega, h.xW, h.m.fresh hm (by simpa using h.xW)⟩
theorem TI.cp0 (h : TI W w x s0 s1) (hn : Pq W w c qc C QC v v Lc Mc) (hf : ∀ k ∈ (c :: Lc) ++ (C :: Mc), B ≤ k) (h0 : ∀ k ∈ s1.foot, k < B) (hx : x < B) (hm : Mod [x] w w') (hX : Blk w' x 48 ((Sd.mk c qc C QC none v Lc Mc).cells ++ s1.cells)) : TI W w' x ⟨c, qc, C, QC, none, v, Lc, Mc⟩ s1 :=
  have hk : ∀ k ∈ (c :: Lc) ++ (C :: Mc), k ∉ [x] := fun k hk hh => by have := hf k hk; have e : k = x := (by simpa using hh); omega
  ⟨⟨hn.keep hm (fun k h1 => hk k (List.mem_append_left _ h1)) (fun k h1 => hk k (List.mem_append_right _ h1)) (by simpa using h.xW), .inl rfl⟩, h.b.keep hm (fun k hk hh => h.x1 (by have e : k = x := (by simpa using hh); exact e ▸ hk)) (by simpa using h.xW), fun k h1 h2 => by have := h0 k h2; have := hf k h1; omega, hX, fun hh => by have := hf x hh; omega, h.x1, h.xW, h.m.fresh hm (by simpa using h.xW)⟩
end
theorem stepA_any (W w : World) (s : Sd) (o : Pop) (h : SdOk W w s) (ho : OkPop W o) (hn : s.v.n ≤ 1000000) (hr : s.v.m.row.length ≤ 1000000) (h78 : o.k = 7 ∨ o.k = 8 → s.u ≠ none) :
    Calls Tryz.prog 8 #[.agg s.cells.toArray, .agg o.cells.toArray] w (StepP W w s.p s.q s.P s.Q (stepV s.v o) s.L s.M) := by
  by_cases h7 : o.k = 7
  · exact step7_any W w s.p s.q s.P s.Q s.u s.v s.L s.M o h.h ho hn hr (h.u.resolve_left (h78 (.inl h7))) h7
  by_cases h8 : o.k = 8
  · exact step8_any W w s.p s.q s.P s.Q s.u s.v s.L s.M o h.h ho hn hr (h.u.resolve_left (h78 (.inr h8))) h8
  exact step_any W w s.p s.q s.P s.Q s.u s.v s.L s.M o h.h ho hn hr h7 h8
theorem isA_any (W w : World) (s : Sd) (h : SdOk W w s) : Calls Tryz.prog 19 #[.agg s.cells.toArray] w fun e w' => e = .returned (.bool true) ∧ Mod [] w w' := is_any W w s.p s.q s.P s.Q s.u s.v s.L s.M h.h
set_option maxRecDepth 1000000 in
set_option maxHeartbeats 16000000 in
theorem powerPlays_core (s z : Int) (pv : Value) (os : List Pop) (W : World) (hs : Pops W pv os) (ws : i64 s) (wz : i64 z) :
    Calls Tryz.prog 4 #[.int .i64 s, .int .i64 z, pv] W fun e w' => e = .returned (.bool true) ∧ Mod [] W w' := by
  obtain ⟨hs1, hs2⟩ := hs
  obtain ⟨aos, caps, rfl, hcs, hcs2⟩ := hs1.form
  have hT := pops_take (k := min os.length 80) hs1 (Nat.min_le_left _ _)
  have hT2 : ∀ o ∈ os.take (min os.length 80), OkPop W o := fun o ho => hs2 o (List.mem_of_mem_take ho)
  have hTl : (os.take (min os.length 80)).length = min os.length 80 := by rw [List.length_take]; omega
  have FE := fun w => few6_any aos os.length caps w hcs hcs2
  obtain ⟨N, hN⟩ : ∃ N, N = min os.length 80 := ⟨_, rfl⟩
  obtain ⟨T, hTT⟩ : ∃ T, T = os.take N := ⟨_, rfl⟩
  rw [← hN] at FE hT hT2 hTl
  have hN80 : N ≤ 80 := by omega
  rw [← hTT] at hT hT2 hTl
  clear hN hTT hs1 hs2 hcs hcs2
  have HTl := Lib.hid hTl
  clear hTl
  have AW := fun w => pwawake_any w
  have FR := fun w => fresh_any s z w ws wz
  have FR2 := fun w => fresh_any (wrap64 (s + 1)) z w ⟨by unfold wrap64; omega, by unfold wrap64; omega⟩ wz
  unfold FreshP at FR FR2
  go_enter Tryz.func4, Tryz.ntmps4
  go_wp2_with (first
                | (with_reducible refine st_alloc ?_)
                | (go_at_call 6; (with_reducible refine (FR _).mono ?_); rintro e w1 ⟨p, q, P, Q, L, M, m0, rfl, hP1, hrow0⟩))
  refine StopOp.go rfl fun K hK => ?_
  refine wp_alloc zero_two ?_
  intro ta w2 hta1 hta2 hm2 hA2
  simp only [put_some, List.set_cons_succ, List.set_cons_zero]
  refine hK _ _ ?_
  clear hK K
  go_wp2_with (with_reducible refine st_store ?_)
  refine StopOp.go rfl fun K hK => ?_
  refine wp_store (u := .agg #[.pointer (some ⟨p, 0, none⟩), .pointer (some ⟨q, 0, none⟩), .pointer (some ⟨P, 0, none⟩)]) (by rfl) (by rfl) (by kernel_rfl) hA2 (by simp [Value.cells]) (by simp [Value.cells, Value.oneCell']) ?_
  intro w3 hm3 hA3
  refine hK _ _ ?_
  clear hK K
  have hta3 : Blk w3 ta 28 [.pointer (some ⟨p, 0, none⟩), .pointer (some ⟨q, 0, none⟩), .pointer (some ⟨P, 0, none⟩)] := hA3
  have hm13 : Mod [] w1 w3 := hm2.fresh hm3 (by simpa using hta1)
  clear hA2 hA3 hm2 hm3
  go_wp2_with (first
                | (with_reducible refine st_alloc ?_)
                | (go_at_call 6; (with_reducible refine (FR2 _).mono ?_); rintro e w4 ⟨p2, q2, P2, Q2, L2, M2, m2, rfl, hP4, hrow4⟩))
  refine StopOp.go rfl fun K hK => ?_
  refine wp_alloc zero_two ?_
  intro tb w5 htb1 htb2 hm5 hB5
  simp only [put_some, List.set_cons_succ, List.set_cons_zero]
  refine hK _ _ ?_
  clear hK K
  go_wp2_with (with_reducible refine st_store ?_)
  refine StopOp.go rfl fun K hK => ?_
  refine wp_store (u := .agg #[.pointer (some ⟨p2, 0, none⟩), .pointer (some ⟨q2, 0, none⟩), .pointer (some ⟨P2, 0, none⟩)]) (by rfl) (by rfl) (by kernel_rfl) hB5 (by simp [Value.cells]) (by simp [Value.cells, Value.oneCell']) ?_
  intro w6 hm6 hB6
  refine hK _ _ ?_
  clear hK K
  have htb6 : Blk w6 tb 28 [.pointer (some ⟨p2, 0, none⟩), .pointer (some ⟨q2, 0, none⟩), .pointer (some ⟨P2, 0, none⟩)] := hB6
  have hm46 : Mod [] w4 w6 := hm5.fresh hm6 (by simpa using htb1)
  clear hB5 hB6 hm5 hm6
  have hta6 := (hta3.ext hP4.m).ext hm46
  have e0 := hta6.cell' (i := 0) rfl
  have e1 := hta6.cell' (i := 1) rfl
  have e2 := hta6.cell' (i := 2) rfl
  have f0 := htb6.cell' (i := 0) rfl
  have f1 := htb6.cell' (i := 1) rfl
  have f2 := htb6.cell' (i := 2) rfl
  go_wp2_with (with_reducible refine st_alloc ?_)
  refine StopOp.go rfl fun K hK => ?_
  refine wp_alloc zero_twos ?_
  intro x w7 hx1 hx2 hm7 hX7
  simp only [put_some, List.set_cons_succ, List.set_cons_zero]
  refine hK _ _ ?_
  clear hK K
  go_wp2_with (with_reducible refine st_store ?_)
  refine StopOp.go rfl fun K hK => ?_
  refine wp_store (u := .agg #[.pointer (some ⟨p, 0, none⟩), .pointer (some ⟨q, 0, none⟩), .pointer (some ⟨P, 0, none⟩), .pointer (some ⟨p2, 0, none⟩), .pointer (some ⟨q2, 0, none⟩), .pointer (some ⟨P2, 0, none⟩)]) (by rfl) (by rfl) (by kernel_rfl) hX7 (by simp [Value.cells]) (by simp [Value.cells, Value.oneCell']) ?_
  intro w8 hm8 hX8
  refine hK _ _ ?_
  clear hK K
  have z1 := hP1.m.size
  have z3 := hm13.size
  have z4 := hP4.m.size
  have z6 := hm46.size
  have hm68 : Mod [] w6 w8 := hm7.fresh hm8 (by simpa using hx1)
  have hm38 := (hP4.m.ext hm46).ext hm68
  have g1 := fun k hk => hP4.g1 k hk
  have g2 := fun k hk => hP4.g2 k hk
  have hTI : TI W w8 x ⟨p, q, P, Q, some ⟨q, 0, none⟩, ⟨m0, false, -1, 0⟩, L, M⟩ ⟨p2, q2, P2, Q2, some ⟨q2, 0, none⟩, ⟨m2, false, -1, 0⟩, L2, M2⟩ := by
    have a1 : SdOk W w8 ⟨p, q, P, Q, some ⟨q, 0, none⟩, ⟨m0, false, -1, 0⟩, L, M⟩ := ⟨(hP1.ext hm13).ext hm38, .inr rfl⟩
    have b1 : SdOk W w8 ⟨p2, q2, P2, Q2, some ⟨q2, 0, none⟩, ⟨m2, false, -1, 0⟩, L2, M2⟩ := ⟨((hP4.ext hm46).ext hm68).up (hP1.m.ext hm13), .inr rfl⟩
    have l1 : ∀ k ∈ (p :: L) ++ (P :: M), k < w3.heap.size := fun k hk => (List.mem_append.1 hk).elim (fun h => by have := hP1.d.lt k h; omega) (fun h => by have := hP1.r.lt k h; omega)
    have l2 : ∀ k ∈ (p2 :: L2) ++ (P2 :: M2), w3.heap.size ≤ k ∧ k < w4.heap.size := fun k hk => (List.mem_append.1 hk).elim (fun h => ⟨g1 k h, hP4.d.lt k h⟩) (fun h => ⟨g2 k h, hP4.r.lt k h⟩)
    exact ⟨a1, b1, fun k hk hh => by have := l1 k hk; have := (l2 k hh).1; omega, hX8, fun hh => by have := l1 x hh; omega, fun hh => by have := (l2 x hh).2; omega, by omega, ((hP1.m.ext hm13).ext hm38)⟩
  obtain ⟨v0, hv0⟩ : ∃ v : Pv, v = ⟨m0, false, -1, 0⟩ := ⟨_, rfl⟩
  obtain ⟨v2, hv2⟩ : ∃ v : Pv, v = ⟨m2, false, -1, 0⟩ := ⟨_, rfl⟩
  have hb0 : v0.n = 0 ∧ v0.m.row.length = 0 := by rw [hv0]; exact ⟨rfl, hrow0⟩
  have hb2 : v2.n = 0 ∧ v2.m.row.length = 0 := by rw [hv2]; exact ⟨rfl, hrow4⟩
  rw [← hv0, ← hv2] at hTI
  clear hv0 hv2 hrow0 hrow4 hP1 hP4 hm13 hm46 hta3 hta6 htb6 hX7 hX8 hm7 hm8 hm68 hm38 g1 g2 e0 e1 e2 f0 f1 f2
  go_wp2_with (go_at_call 7; (with_reducible refine (FE _).mono ?_); rintro e w9 ⟨rfl, rfl⟩)
  go_loopw [12, 13, 14] (fun iv _ _ wr => ∃ (j : Nat) (s0 s1 : Sd), iv = .int .i64 j ∧ j ≤ N ∧ TI W wr x s0 s1 ∧ (s0.v.n ≤ j ∧ s0.v.m.row.length ≤ j) ∧ (s1.v.n ≤ j ∧ s1.v.m.row.length ≤ j)) (fun iv _ _ _ => N - (intOf iv).toNat)
  case atStart => exact ⟨0, _, _, rfl, Nat.zero_le _, hTI, ⟨by dsimp only; omega, by dsimp only; omega⟩, ⟨by dsimp only; omega, by dsimp only; omega⟩⟩
  case round =>
    clear hTI hb0 hb2 FE FR FR2
    obtain ⟨j, s0, s1, rfl, hj, hI, hn0, hn1⟩ := hrel
    by_cases hlt : j < N
    · have y1 : (j : Int) < N := by omega
      have hjT : j < T.length := by have := HTl.out; omega
      obtain ⟨b, o, rfl, hcr⟩ := Pops.elem (Sl.ext hT hI.m) hjT
      have hop := hT2 _ (List.getElem_mem hjT)
      obtain ⟨op, hop'⟩ : ∃ op, op = T[j] := ⟨_, rfl⟩
      rw [← hop'] at hcr hop
      clear hop'
      have hv0 := stepV_n s0.v op
      have hv1 := stepV_n s1.v op
      have ST0 := fun w h h78 => stepA_any W w s0 op h hop (by omega) (by omega) h78
      have ST1 := fun w h h78 => stepA_any W w s1 op h hop (by omega) (by omega) h78
      unfold StepP at ST0 ST1
      obtain ⟨V0, hV0⟩ : ∃ V, V = stepV s0.v op := ⟨_, rfl⟩
      obtain ⟨V1, hV1⟩ : ∃ V, V = stepV s1.v op := ⟨_, rfl⟩
      rw [← hV0] at ST0 hv0
      rw [← hV1] at ST1 hv1
      clear hV0 hV1
      obtain ⟨k, n', a, bw, l, raw, fv', F'⟩ := op
      obtain ⟨aob, capb, hbe, _, _⟩ := hop.b.form
      obtain ⟨aoF, capF, hfe, _, _⟩ := hop.fs.form
      have hnn := hop.n
      dsimp only at hbe hfe hnn
      subst hbe hfe
      clear hop
      dsimp only [Pop.cells] at hcr ST0 ST1
      obtain ⟨c0, c1, c2, c3, c4, c5⟩ := pop_cells hcr
      go_wp2_with (with_reducible refine st_alloc ?_)
      refine StopOp.go rfl fun K hK => ?_
      refine wp_alloc zero_pop ?_
      intro oc w1 hoc1 hoc2 hm1 hO1
      simp only [put_some, List.set_cons_succ, List.set_cons_zero]
      refine hK _ _ ?_
      clear hK K
      go_wp2_with (with_reducible refine st_store ?_)
      refine StopOp.go rfl fun K hK => ?_
      refine wp_store (u := .agg #[.int .i64 k, .int .i64 n', .int .i64 a, .slice aob l.length capb, .bool raw, .slice aoF F'.length capF]) (by rfl) (by rfl) (by kernel_rfl) hO1 (by simp [Value.cells]) (by simp [Value.cells, Value.oneCell']) ?_
      intro w2 hm2 hO2
      refine hK _ _ ?_
      clear hK K
      have hO3 : Blk w2 oc 35 [.int .i64 k, .int .i64 n', .int .i64 a, .slice aob l.length capb, .bool raw, .slice aoF F'.length capF] := hO2
      have hm02 : Mod [] wr w2 := hm1.fresh hm2 (by simpa using hoc1)
      have hI2 := hI.ext hm02
      clear c0 c1 c2 c3 c4 c5 hcr hO1 hO2 hm1 hm2
      have d1 := hO3.cell' (i := 1) rfl
      go_upto_region 11 with fail
      go_cut [14] (fun u wx => (u = .int .i64 0 ∨ u = .int .i64 1) ∧ w2 = wx)
      case first =>
        go_wp2_with fail
        go_meet
        exact ⟨(and_one n').imp (congrArg (Value.int .i64)) (congrArg (Value.int .i64)), rfl⟩
      case rest =>
      obtain ⟨hon, rfl⟩ := hcut
      clear d1
      obtain ⟨p0, q0, P0, Q0, u0, vv0, L0, M0⟩ := s0
      obtain ⟨p1, q1, P1, Q1, u1, vv1, L1, M1⟩ := s1
      dsimp only [Sd.cells] at ST0 ST1 hv0 hv1 hn0 hn1
      have hx2 := hI2.bx
      dsimp only [Sd.cells, List.cons_append, List.nil_append] at hx2
      rcases hon with rfl | rfl
      · have d0 := hO3.cell' (i := 0) rfl
        by_cases h6 : k = 6
        · subst h6
          clear d0
          have PC := fun w h => pCopy_any p0 q0 vv0 L0 w h (by omega)
          have QC := fun w h => qCopy_any P0 Q0 vv0 M0 w h (by omega)
          unfold PCopyP at PC
          unfold QCopyP at QC
          have d0 := hO3.cell' (i := 0) rfl
          go_wp2_with fail
          clear d0
          refine wp_region_T [⟨0, true, []⟩, ⟨1, true, []⟩, ⟨2, true, []⟩, ⟨3, true, []⟩, ⟨4, true, []⟩, ⟨5, true, []⟩, ⟨7, true, []⟩, ⟨8, true, []⟩, ⟨9, true, []⟩, ⟨10, true, []⟩, ⟨6, false, [1, 10]⟩, ⟨11, false, [1]⟩, ⟨12, true, []⟩, ⟨13, true, []⟩, ⟨14, false, []⟩] (by kernel_rfl) (by kernel_rfl) ?_
          have hmD := Mod.drew [] w2
          obtain ⟨xd, hxd⟩ : ∃ xd, xd = w2.drew := ⟨_, rfl⟩
          rw [← hxd] at hmD ⊢
          clear hxd
          have hI3 := hI2.ext hmD
          have hx3 := hx2.ext hmD
          have hd3 := hI3.a.h.d
          dsimp only at hd3
          have e0 := hx3.cell' (i := 0) rfl
          have e1 := hx3.cell' (i := 1) rfl
          have e2 := hx3.cell' (i := 2) rfl
          have e3 := hx3.cell' (i := 3) rfl
          have e4 := hx3.cell' (i := 4) rfl
          have e5 := hx3.cell' (i := 5) rfl
          iterate 10 (refine wpT_n rfl rfl (fun K hK => ?_); go_wp2_with fail)
          refine wpT_callh rfl rfl (fun K hK => ?_)
          go_wp2_with (go_at_call 9; (with_reducible refine (PC _ hd3).mono ?_); rintro e w4 ⟨c, qc, Lc, rfl, hC4, hg4, hm4⟩)
          refine ⟨agains_cons rfl (again_const (fun _ => rfl)) (agains_cons rfl (again_load rfl rfl (hm4.block x hx3.lt (by simp)) hx3.kinds) agains_nil), ?_⟩
          have hI4 := hI3.ext hm4
          have hr4 := hI4.a.h.r
          dsimp only at hr4
          refine wpT_callh rfl rfl (fun K hK => ?_)
          go_wp2_with (go_at_call 18; (with_reducible refine (QC _ hr4).mono ?_); rintro e w5 ⟨cr, qcr, Mc, rfl, hC5, hg5, hm5⟩)
          refine ⟨agains_cons rfl (again_const (fun _ => rfl)) agains_nil, ?_⟩
          have hI5 := hI4.ext hm5
          have hx5 := (hx3.ext hm4).ext hm5
          iterate 2 (refine wpT_n rfl rfl (fun K hK => ?_); go_wp2_with fail)
          refine wpT_e0 rfl rfl (fun K hK => ?_)
          refine wp_store (u := .agg #[.pointer (some ⟨c, 0, none⟩), .pointer none, .pointer (some ⟨cr, 0, none⟩)]) (by rfl) (by rfl) (by kernel_rfl) hx5 (by simp [Value.cells]) (by simp [Value.cells, Value.oneCell']) ?_
          intro w6 hm6 hB6
          refine hK _ _ ?_
          clear hK K
          have zD := hmD.size
          have z4 := hm4.size
          have z5 := hm5.size
          have hPn : Pq W w5 c qc cr qcr vv0 vv0 Lc Mc := ⟨hC4.ext hm5, hC5, fun k hk hh => by have := hC4.lt k hk; have := hg5 k hh; omega, hI5.m, fun k hk => by have := hg4 k hk; have := hI3.m.size; omega, fun k hk => by have := hg5 k hk; have := hI3.m.size; omega⟩
          have hf : ∀ k ∈ (c :: Lc) ++ (cr :: Mc), xd.heap.size ≤ k := fun k hk => (List.mem_append.1 hk).elim (hg4 k) (fun h => by have := hg5 k h; omega)
          have hI6 := TI.cp1 hI5 hPn hf (hI3.a.lt) hx3.lt hm6 hB6
          have hx6 := hI6.bx
          have hs6 := hI6.a
          have IS := isA_any W _ _ hs6
          dsimp only [Sd.cells, List.cons_append, List.nil_append] at hx6 IS
          clear e0 e1 e2 e3 e4 e5
          have e0 := hx6.cell' (i := 0) rfl
          have e1 := hx6.cell' (i := 1) rfl
          have e2 := hx6.cell' (i := 2) rfl
          have e3 := hx6.cell' (i := 3) rfl
          have e4 := hx6.cell' (i := 4) rfl
          have e5 := hx6.cell' (i := 5) rfl
          refine wpT_nil ?_
          go_wp2_with (go_at_call 19; (with_reducible refine (IS).mono ?_); rintro e w7 ⟨rfl, hm7⟩)
          go_roundw
          case rel => exact ⟨j + 1, _, _, by go_num, by omega, hI6.ext hm7, ⟨by dsimp only; omega, by dsimp only; omega⟩, ⟨by dsimp only; omega, by dsimp only; omega⟩⟩
          case measure => simp [intOf]; omega
        have x6 : (k == 6) = false := beq_eq_false_iff_ne.2 h6
        by_cases h7 : k = 7
        · subst h7
          cases u0 with
          | none =>
            have e0 := hx2.cell' (i := 0) rfl
            have e1 := hx2.cell' (i := 1) rfl
            have e2 := hx2.cell' (i := 2) rfl
            have e3 := hx2.cell' (i := 3) rfl
            have e4 := hx2.cell' (i := 4) rfl
            have e5 := hx2.cell' (i := 5) rfl
            go_wp2_with fail
            go_roundw
            case rel => exact ⟨j + 1, _, _, by go_num, by omega, hI2, ⟨by dsimp only; omega, by dsimp only; omega⟩, ⟨by dsimp only; omega, by dsimp only; omega⟩⟩
            case measure => simp [intOf]; omega
          | some ua =>
            have e0 := hx2.cell' (i := 0) rfl
            have e1 := hx2.cell' (i := 1) rfl
            have e2 := hx2.cell' (i := 2) rfl
            have e3 := hx2.cell' (i := 3) rfl
            have e4 := hx2.cell' (i := 4) rfl
            have e5 := hx2.cell' (i := 5) rfl
            have H78 : (7 : Int) = 7 ∨ (7 : Int) = 8 → (Sd.mk p0 q0 P0 Q0 (some ua) vv0 L0 M0).u ≠ none := fun _ h => nomatch h
            go_wp2_with fail
            clear e0 e1 e2 e3 e4 e5
            refine wp_region_T [⟨0, true, []⟩, ⟨1, true, []⟩, ⟨2, true, []⟩, ⟨3, true, []⟩, ⟨4, false, []⟩, ⟨5, true, []⟩] (by kernel_rfl) (by kernel_rfl) ?_
            have hmD := Mod.drew [] w2
            obtain ⟨xd, hxd⟩ : ∃ xd, xd = w2.drew := ⟨_, rfl⟩
            rw [← hxd] at hmD ⊢
            clear hxd
            have hI3 := hI2.ext hmD
            have hO4 := hO3.ext hmD
            have hx3 := hx2.ext hmD
            have hs3 := hI3.a
            clear d0
            have e0 := hx3.cell' (i := 0) rfl
            have e1 := hx3.cell' (i := 1) rfl
            have e2 := hx3.cell' (i := 2) rfl
            have e3 := hx3.cell' (i := 3) rfl
            have e4 := hx3.cell' (i := 4) rfl
            have e5 := hx3.cell' (i := 5) rfl
            have f0 := hO4.cell' (i := 0) rfl
            have f1 := hO4.cell' (i := 1) rfl
            have f2 := hO4.cell' (i := 2) rfl
            have f3 := hO4.cell' (i := 3) rfl
            have f4 := hO4.cell' (i := 4) rfl
            have f5 := hO4.cell' (i := 5) rfl
            iterate 4 (refine wpT_n rfl rfl (fun K hK => ?_); go_wp2_with fail)
            refine wpT_call rfl rfl (fun K hK => ?_)
            go_wp2_with (go_at_call 8; (with_reducible refine (ST0 _ hs3 H78).mono ?_); rintro e w5 ⟨L5, M5, rfl, hP5, hm5, hn5⟩)
            have hI5 := TI.step0 hI3 hP5 hm5 hn5
            have hx5 := hI5.bx
            have hs5 := hI5.a
            have IS := isA_any W _ _ hs5
            dsimp only [Sd.to, Sd.cells, List.cons_append, List.nil_append] at hx5 IS
            clear e0 e1 e2 e3 e4 e5
            have e0 := hx5.cell' (i := 0) rfl
            have e1 := hx5.cell' (i := 1) rfl
            have e2 := hx5.cell' (i := 2) rfl
            have e3 := hx5.cell' (i := 3) rfl
            have e4 := hx5.cell' (i := 4) rfl
            have e5 := hx5.cell' (i := 5) rfl
            refine wpT_n rfl rfl (fun K hK => ?_)
            go_wp2_with fail
            refine wpT_nil ?_
            go_wp2_with (go_at_call 19; (with_reducible refine (IS).mono ?_); rintro e w6 ⟨rfl, hm6⟩)
            go_roundw
            case rel => exact ⟨j + 1, _, _, by go_num, by omega, hI5.ext hm6, ⟨by dsimp only [Sd.to]; omega, by dsimp only [Sd.to]; omega⟩, ⟨by dsimp only; omega, by dsimp only; omega⟩⟩
            case measure => simp [intOf]; omega
        have x7 : (k == 7) = false := beq_eq_false_iff_ne.2 h7
        by_cases h8 : k = 8
        · subst h8
          cases u0 with
          | none =>
            have e0 := hx2.cell' (i := 0) rfl
            have e1 := hx2.cell' (i := 1) rfl
            have e2 := hx2.cell' (i := 2) rfl
            have e3 := hx2.cell' (i := 3) rfl
            have e4 := hx2.cell' (i := 4) rfl
            have e5 := hx2.cell' (i := 5) rfl
            go_wp2_with fail
            go_roundw
            case rel => exact ⟨j + 1, _, _, by go_num, by omega, hI2, ⟨by dsimp only; omega, by dsimp only; omega⟩, ⟨by dsimp only; omega, by dsimp only; omega⟩⟩
            case measure => simp [intOf]; omega
          | some ua =>
            have e0 := hx2.cell' (i := 0) rfl
            have e1 := hx2.cell' (i := 1) rfl
            have e2 := hx2.cell' (i := 2) rfl
            have e3 := hx2.cell' (i := 3) rfl
            have e4 := hx2.cell' (i := 4) rfl
            have e5 := hx2.cell' (i := 5) rfl
            have H78 : (8 : Int) = 7 ∨ (8 : Int) = 8 → (Sd.mk p0 q0 P0 Q0 (some ua) vv0 L0 M0).u ≠ none := fun _ h => nomatch h
            go_wp2_with fail
            clear e0 e1 e2 e3 e4 e5
            refine wp_region_T [⟨0, true, []⟩, ⟨1, true, []⟩, ⟨2, true, []⟩, ⟨3, true, []⟩, ⟨4, false, []⟩, ⟨5, true, []⟩] (by kernel_rfl) (by kernel_rfl) ?_
            have hmD := Mod.drew [] w2
            obtain ⟨xd, hxd⟩ : ∃ xd, xd = w2.drew := ⟨_, rfl⟩
            rw [← hxd] at hmD ⊢
            clear hxd
            have hI3 := hI2.ext hmD
            have hO4 := hO3.ext hmD
            have hx3 := hx2.ext hmD
            have hs3 := hI3.a
            clear d0
            have e0 := hx3.cell' (i := 0) rfl
            have e1 := hx3.cell' (i := 1) rfl
            have e2 := hx3.cell' (i := 2) rfl
            have e3 := hx3.cell' (i := 3) rfl
            have e4 := hx3.cell' (i := 4) rfl
            have e5 := hx3.cell' (i := 5) rfl
            have f0 := hO4.cell' (i := 0) rfl
            have f1 := hO4.cell' (i := 1) rfl
            have f2 := hO4.cell' (i := 2) rfl
            have f3 := hO4.cell' (i := 3) rfl
            have f4 := hO4.cell' (i := 4) rfl
            have f5 := hO4.cell' (i := 5) rfl
            iterate 4 (refine wpT_n rfl rfl (fun K hK => ?_); go_wp2_with fail)
            refine wpT_call rfl rfl (fun K hK => ?_)
            go_wp2_with (go_at_call 8; (with_reducible refine (ST0 _ hs3 H78).mono ?_); rintro e w5 ⟨L5, M5, rfl, hP5, hm5, hn5⟩)
            have hI5 := TI.step0 hI3 hP5 hm5 hn5
            have hx5 := hI5.bx
            have hs5 := hI5.a
            have IS := isA_any W _ _ hs5
            dsimp only [Sd.to, Sd.cells, List.cons_append, List.nil_append] at hx5 IS
            clear e0 e1 e2 e3 e4 e5
            have e0 := hx5.cell' (i := 0) rfl
            have e1 := hx5.cell' (i := 1) rfl
            have e2 := hx5.cell' (i := 2) rfl
            have e3 := hx5.cell' (i := 3) rfl
            have e4 := hx5.cell' (i := 4) rfl
            have e5 := hx5.cell' (i := 5) rfl
            refine wpT_n rfl rfl (fun K hK => ?_)
            go_wp2_with fail
            refine wpT_nil ?_
            go_wp2_with (go_at_call 19; (with_reducible refine (IS).mono ?_); rintro e w6 ⟨rfl, hm6⟩)
            go_roundw
            case rel => exact ⟨j + 1, _, _, by go_num, by omega, hI5.ext hm6, ⟨by dsimp only [Sd.to]; omega, by dsimp only [Sd.to]; omega⟩, ⟨by dsimp only; omega, by dsimp only; omega⟩⟩
            case measure => simp [intOf]; omega
        have x8 : (k == 8) = false := beq_eq_false_iff_ne.2 h8
        have H78 : k = 7 ∨ k = 8 → (Sd.mk p0 q0 P0 Q0 u0 vv0 L0 M0).u ≠ none := fun h => by omega
        go_wp2_with fail
        refine wp_region_T [⟨0, true, []⟩, ⟨1, true, []⟩, ⟨2, true, []⟩, ⟨3, true, []⟩, ⟨4, false, []⟩, ⟨5, true, []⟩] (by kernel_rfl) (by kernel_rfl) ?_
        have hmD := Mod.drew [] w2
        obtain ⟨xd, hxd⟩ : ∃ xd, xd = w2.drew := ⟨_, rfl⟩
        rw [← hxd] at hmD ⊢
        clear hxd
        have hI3 := hI2.ext hmD
        have hO4 := hO3.ext hmD
        have hx3 := hx2.ext hmD
        have hs3 := hI3.a
        clear d0
        have e0 := hx3.cell' (i := 0) rfl
        have e1 := hx3.cell' (i := 1) rfl
        have e2 := hx3.cell' (i := 2) rfl
        have e3 := hx3.cell' (i := 3) rfl
        have e4 := hx3.cell' (i := 4) rfl
        have e5 := hx3.cell' (i := 5) rfl
        have f0 := hO4.cell' (i := 0) rfl
        have f1 := hO4.cell' (i := 1) rfl
        have f2 := hO4.cell' (i := 2) rfl
        have f3 := hO4.cell' (i := 3) rfl
        have f4 := hO4.cell' (i := 4) rfl
        have f5 := hO4.cell' (i := 5) rfl
        iterate 4 (refine wpT_n rfl rfl (fun K hK => ?_); go_wp2_with fail)
        refine wpT_call rfl rfl (fun K hK => ?_)
        go_wp2_with (go_at_call 8; (with_reducible refine (ST0 _ hs3 H78).mono ?_); rintro e w5 ⟨L5, M5, rfl, hP5, hm5, hn5⟩)
        have hI5 := TI.step0 hI3 hP5 hm5 hn5
        have hx5 := hI5.bx
        have hs5 := hI5.a
        have IS := isA_any W _ _ hs5
        dsimp only [Sd.to, Sd.cells, List.cons_append, List.nil_append] at hx5 IS
        clear e0 e1 e2 e3 e4 e5
        have e0 := hx5.cell' (i := 0) rfl
        have e1 := hx5.cell' (i := 1) rfl
        have e2 := hx5.cell' (i := 2) rfl
        have e3 := hx5.cell' (i := 3) rfl
        have e4 := hx5.cell' (i := 4) rfl
        have e5 := hx5.cell' (i := 5) rfl
        refine wpT_n rfl rfl (fun K hK => ?_)
        go_wp2_with fail
        refine wpT_nil ?_
        go_wp2_with (go_at_call 19; (with_reducible refine (IS).mono ?_); rintro e w6 ⟨rfl, hm6⟩)
        go_roundw
        case rel => exact ⟨j + 1, _, _, by go_num, by omega, hI5.ext hm6, ⟨by dsimp only [Sd.to]; omega, by dsimp only [Sd.to]; omega⟩, ⟨by dsimp only; omega, by dsimp only; omega⟩⟩
        case measure => simp [intOf]; omega
      · have d0 := hO3.cell' (i := 0) rfl
        by_cases h6 : k = 6
        · subst h6
          clear d0
          have PC := fun w h => pCopy_any p1 q1 vv1 L1 w h (by omega)
          have QC := fun w h => qCopy_any P1 Q1 vv1 M1 w h (by omega)
          unfold PCopyP at PC
          unfold QCopyP at QC
          have d0 := hO3.cell' (i := 0) rfl
          go_wp2_with fail
          clear d0
          refine wp_region_T [⟨0, true, []⟩, ⟨1, true, []⟩, ⟨2, true, []⟩, ⟨3, true, []⟩, ⟨4, true, []⟩, ⟨5, true, []⟩, ⟨7, true, []⟩, ⟨8, true, []⟩, ⟨9, true, []⟩, ⟨10, true, []⟩, ⟨6, false, [1, 10]⟩, ⟨11, false, [1]⟩, ⟨12, true, []⟩, ⟨13, true, []⟩, ⟨14, false, []⟩] (by kernel_rfl) (by kernel_rfl) ?_
          have hmD := Mod.drew [] w2
          obtain ⟨xd, hxd⟩ : ∃ xd, xd = w2.drew := ⟨_, rfl⟩
          rw [← hxd] at hmD ⊢
          clear hxd
          have hI3 := hI2.ext hmD
          have hx3 := hx2.ext hmD
          have hd3 := hI3.b.h.d
          dsimp only at hd3
          have e0 := hx3.cell' (i := 0) rfl
          have e1 := hx3.cell' (i := 1) rfl
          have e2 := hx3.cell' (i := 2) rfl
          have e3 := hx3.cell' (i := 3) rfl
          have e4 := hx3.cell' (i := 4) rfl
          have e5 := hx3.cell' (i := 5) rfl
          iterate 10 (refine wpT_n rfl rfl (fun K hK => ?_); go_wp2_with fail)
          refine wpT_callh rfl rfl (fun K hK => ?_)
          go_wp2_with (go_at_call 9; (with_reducible refine (PC _ hd3).mono ?_); rintro e w4 ⟨c, qc, Lc, rfl, hC4, hg4, hm4⟩)
          refine ⟨agains_cons rfl (again_const (fun _ => rfl)) (agains_cons rfl (again_load rfl rfl (hm4.block x hx3.lt (by simp)) hx3.kinds) agains_nil), ?_⟩
          have hI4 := hI3.ext hm4
          have hr4 := hI4.b.h.r
          dsimp only at hr4
          refine wpT_callh rfl rfl (fun K hK => ?_)
          go_wp2_with (go_at_call 18; (with_reducible refine (QC _ hr4).mono ?_); rintro e w5 ⟨cr, qcr, Mc, rfl, hC5, hg5, hm5⟩)
          refine ⟨agains_cons rfl (again_const (fun _ => rfl)) agains_nil, ?_⟩
          have hI5 := hI4.ext hm5
          have hx5 := (hx3.ext hm4).ext hm5
          iterate 2 (refine wpT_n rfl rfl (fun K hK => ?_); go_wp2_with fail)
          refine wpT_e0 rfl rfl (fun K hK => ?_)
          refine wp_store (u := .agg #[.pointer (some ⟨c, 0, none⟩), .pointer none, .pointer (some ⟨cr, 0, none⟩)]) (by rfl) (by rfl) (by kernel_rfl) hx5 (by simp [Value.cells]) (by simp [Value.cells, Value.oneCell']) ?_
          intro w6 hm6 hB6
          refine hK _ _ ?_
          clear hK K
          have zD := hmD.size
          have z4 := hm4.size
          have z5 := hm5.size
          have hPn : Pq W w5 c qc cr qcr vv1 vv1 Lc Mc := ⟨hC4.ext hm5, hC5, fun k hk hh => by have := hC4.lt k hk; have := hg5 k hh; omega, hI5.m, fun k hk => by have := hg4 k hk; have := hI3.m.size; omega, fun k hk => by have := hg5 k hk; have := hI3.m.size; omega⟩
          have hf : ∀ k ∈ (c :: Lc) ++ (cr :: Mc), xd.heap.size ≤ k := fun k hk => (List.mem_append.1 hk).elim (hg4 k) (fun h => by have := hg5 k h; omega)
          have hI6 := TI.cp0 hI5 hPn hf (hI3.b.lt) hx3.lt hm6 hB6
          have hx6 := hI6.bx
          have hs6 := hI6.b
          have IS := isA_any W _ _ hs6
          dsimp only [Sd.cells, List.cons_append, List.nil_append] at hx6 IS
          clear e0 e1 e2 e3 e4 e5
          have e0 := hx6.cell' (i := 0) rfl
          have e1 := hx6.cell' (i := 1) rfl
          have e2 := hx6.cell' (i := 2) rfl
          have e3 := hx6.cell' (i := 3) rfl
          have e4 := hx6.cell' (i := 4) rfl
          have e5 := hx6.cell' (i := 5) rfl
          refine wpT_nil ?_
          go_wp2_with (go_at_call 19; (with_reducible refine (IS).mono ?_); rintro e w7 ⟨rfl, hm7⟩)
          go_roundw
          case rel => exact ⟨j + 1, _, _, by go_num, by omega, hI6.ext hm7, ⟨by dsimp only; omega, by dsimp only; omega⟩, ⟨by dsimp only; omega, by dsimp only; omega⟩⟩
          case measure => simp [intOf]; omega
        have x6 : (k == 6) = false := beq_eq_false_iff_ne.2 h6
        by_cases h7 : k = 7
        · subst h7
          cases u1 with
          | none =>
            have e0 := hx2.cell' (i := 0) rfl
            have e1 := hx2.cell' (i := 1) rfl
            have e2 := hx2.cell' (i := 2) rfl
            have e3 := hx2.cell' (i := 3) rfl
            have e4 := hx2.cell' (i := 4) rfl
            have e5 := hx2.cell' (i := 5) rfl
            go_wp2_with fail
            go_roundw
            case rel => exact ⟨j + 1, _, _, by go_num, by omega, hI2, ⟨by dsimp only; omega, by dsimp only; omega⟩, ⟨by dsimp only; omega, by dsimp only; omega⟩⟩
            case measure => simp [intOf]; omega
          | some ua =>
            have e0 := hx2.cell' (i := 0) rfl
            have e1 := hx2.cell' (i := 1) rfl
            have e2 := hx2.cell' (i := 2) rfl
            have e3 := hx2.cell' (i := 3) rfl
            have e4 := hx2.cell' (i := 4) rfl
            have e5 := hx2.cell' (i := 5) rfl
            have H78 : (7 : Int) = 7 ∨ (7 : Int) = 8 → (Sd.mk p1 q1 P1 Q1 (some ua) vv1 L1 M1).u ≠ none := fun _ h => nomatch h
            go_wp2_with fail
            clear e0 e1 e2 e3 e4 e5
            refine wp_region_T [⟨0, true, []⟩, ⟨1, true, []⟩, ⟨2, true, []⟩, ⟨3, true, []⟩, ⟨4, false, []⟩, ⟨5, true, []⟩] (by kernel_rfl) (by kernel_rfl) ?_
            have hmD := Mod.drew [] w2
            obtain ⟨xd, hxd⟩ : ∃ xd, xd = w2.drew := ⟨_, rfl⟩
            rw [← hxd] at hmD ⊢
            clear hxd
            have hI3 := hI2.ext hmD
            have hO4 := hO3.ext hmD
            have hx3 := hx2.ext hmD
            have hs3 := hI3.b
            clear d0
            have e0 := hx3.cell' (i := 0) rfl
            have e1 := hx3.cell' (i := 1) rfl
            have e2 := hx3.cell' (i := 2) rfl
            have e3 := hx3.cell' (i := 3) rfl
            have e4 := hx3.cell' (i := 4) rfl
            have e5 := hx3.cell' (i := 5) rfl
            have f0 := hO4.cell' (i := 0) rfl
            have f1 := hO4.cell' (i := 1) rfl
            have f2 := hO4.cell' (i := 2) rfl
            have f3 := hO4.cell' (i := 3) rfl
            have f4 := hO4.cell' (i := 4) rfl
            have f5 := hO4.cell' (i := 5) rfl
            iterate 4 (refine wpT_n rfl rfl (fun K hK => ?_); go_wp2_with fail)
            refine wpT_call rfl rfl (fun K hK => ?_)
            go_wp2_with (go_at_call 8; (with_reducible refine (ST1 _ hs3 H78).mono ?_); rintro e w5 ⟨L5, M5, rfl, hP5, hm5, hn5⟩)
            have hI5 := TI.step1 hI3 hP5 hm5 hn5
            have hx5 := hI5.bx
            have hs5 := hI5.b
            have IS := isA_any W _ _ hs5
            dsimp only [Sd.to, Sd.cells, List.cons_append, List.nil_append] at hx5 IS
            clear e0 e1 e2 e3 e4 e5
            have e0 := hx5.cell' (i := 0) rfl
            have e1 := hx5.cell' (i := 1) rfl
            have e2 := hx5.cell' (i := 2) rfl
            have e3 := hx5.cell' (i := 3) rfl
            have e4 := hx5.cell' (i := 4) rfl
            have e5 := hx5.cell' (i := 5) rfl
            refine wpT_n rfl rfl (fun K hK => ?_)
            go_wp2_with fail
            refine wpT_nil ?_
            go_wp2_with (go_at_call 19; (with_reducible refine (IS).mono ?_); rintro e w6 ⟨rfl, hm6⟩)
            go_roundw
            case rel => exact ⟨j + 1, _, _, by go_num, by omega, hI5.ext hm6, ⟨by dsimp only; omega, by dsimp only; omega⟩, ⟨by dsimp only [Sd.to]; omega, by dsimp only [Sd.to]; omega⟩⟩
            case measure => simp [intOf]; omega
        have x7 : (k == 7) = false := beq_eq_false_iff_ne.2 h7
        by_cases h8 : k = 8
        · subst h8
          cases u1 with
          | none =>
            have e0 := hx2.cell' (i := 0) rfl
            have e1 := hx2.cell' (i := 1) rfl
            have e2 := hx2.cell' (i := 2) rfl
            have e3 := hx2.cell' (i := 3) rfl
            have e4 := hx2.cell' (i := 4) rfl
            have e5 := hx2.cell' (i := 5) rfl
            go_wp2_with fail
            go_roundw
            case rel => exact ⟨j + 1, _, _, by go_num, by omega, hI2, ⟨by dsimp only; omega, by dsimp only; omega⟩, ⟨by dsimp only; omega, by dsimp only; omega⟩⟩
            case measure => simp [intOf]; omega
          | some ua =>
            have e0 := hx2.cell' (i := 0) rfl
            have e1 := hx2.cell' (i := 1) rfl
            have e2 := hx2.cell' (i := 2) rfl
            have e3 := hx2.cell' (i := 3) rfl
            have e4 := hx2.cell' (i := 4) rfl
            have e5 := hx2.cell' (i := 5) rfl
            have H78 : (8 : Int) = 7 ∨ (8 : Int) = 8 → (Sd.mk p1 q1 P1 Q1 (some ua) vv1 L1 M1).u ≠ none := fun _ h => nomatch h
            go_wp2_with fail
            clear e0 e1 e2 e3 e4 e5
            refine wp_region_T [⟨0, true, []⟩, ⟨1, true, []⟩, ⟨2, true, []⟩, ⟨3, true, []⟩, ⟨4, false, []⟩, ⟨5, true, []⟩] (by kernel_rfl) (by kernel_rfl) ?_
            have hmD := Mod.drew [] w2
            obtain ⟨xd, hxd⟩ : ∃ xd, xd = w2.drew := ⟨_, rfl⟩
            rw [← hxd] at hmD ⊢
            clear hxd
            have hI3 := hI2.ext hmD
            have hO4 := hO3.ext hmD
            have hx3 := hx2.ext hmD
            have hs3 := hI3.b
            clear d0
            have e0 := hx3.cell' (i := 0) rfl
            have e1 := hx3.cell' (i := 1) rfl
            have e2 := hx3.cell' (i := 2) rfl
            have e3 := hx3.cell' (i := 3) rfl
            have e4 := hx3.cell' (i := 4) rfl
            have e5 := hx3.cell' (i := 5) rfl
            have f0 := hO4.cell' (i := 0) rfl
            have f1 := hO4.cell' (i := 1) rfl
            have f2 := hO4.cell' (i := 2) rfl
            have f3 := hO4.cell' (i := 3) rfl
            have f4 := hO4.cell' (i := 4) rfl
            have f5 := hO4.cell' (i := 5) rfl
            iterate 4 (refine wpT_n rfl rfl (fun K hK => ?_); go_wp2_with fail)
            refine wpT_call rfl rfl (fun K hK => ?_)
            go_wp2_with (go_at_call 8; (with_reducible refine (ST1 _ hs3 H78).mono ?_); rintro e w5 ⟨L5, M5, rfl, hP5, hm5, hn5⟩)
            have hI5 := TI.step1 hI3 hP5 hm5 hn5
            have hx5 := hI5.bx
            have hs5 := hI5.b
            have IS := isA_any W _ _ hs5
            dsimp only [Sd.to, Sd.cells, List.cons_append, List.nil_append] at hx5 IS
            clear e0 e1 e2 e3 e4 e5
            have e0 := hx5.cell' (i := 0) rfl
            have e1 := hx5.cell' (i := 1) rfl
            have e2 := hx5.cell' (i := 2) rfl
            have e3 := hx5.cell' (i := 3) rfl
            have e4 := hx5.cell' (i := 4) rfl
            have e5 := hx5.cell' (i := 5) rfl
            refine wpT_n rfl rfl (fun K hK => ?_)
            go_wp2_with fail
            refine wpT_nil ?_
            go_wp2_with (go_at_call 19; (with_reducible refine (IS).mono ?_); rintro e w6 ⟨rfl, hm6⟩)
            go_roundw
            case rel => exact ⟨j + 1, _, _, by go_num, by omega, hI5.ext hm6, ⟨by dsimp only; omega, by dsimp only; omega⟩, ⟨by dsimp only [Sd.to]; omega, by dsimp only [Sd.to]; omega⟩⟩
            case measure => simp [intOf]; omega
        have x8 : (k == 8) = false := beq_eq_false_iff_ne.2 h8
        have H78 : k = 7 ∨ k = 8 → (Sd.mk p1 q1 P1 Q1 u1 vv1 L1 M1).u ≠ none := fun h => by omega
        go_wp2_with fail
        refine wp_region_T [⟨0, true, []⟩, ⟨1, true, []⟩, ⟨2, true, []⟩, ⟨3, true, []⟩, ⟨4, false, []⟩, ⟨5, true, []⟩] (by kernel_rfl) (by kernel_rfl) ?_
        have hmD := Mod.drew [] w2
        obtain ⟨xd, hxd⟩ : ∃ xd, xd = w2.drew := ⟨_, rfl⟩
        rw [← hxd] at hmD ⊢
        clear hxd
        have hI3 := hI2.ext hmD
        have hO4 := hO3.ext hmD
        have hx3 := hx2.ext hmD
        have hs3 := hI3.b
        clear d0
        have e0 := hx3.cell' (i := 0) rfl
        have e1 := hx3.cell' (i := 1) rfl
        have e2 := hx3.cell' (i := 2) rfl
        have e3 := hx3.cell' (i := 3) rfl
        have e4 := hx3.cell' (i := 4) rfl
        have e5 := hx3.cell' (i := 5) rfl
        have f0 := hO4.cell' (i := 0) rfl
        have f1 := hO4.cell' (i := 1) rfl
        have f2 := hO4.cell' (i := 2) rfl
        have f3 := hO4.cell' (i := 3) rfl
        have f4 := hO4.cell' (i := 4) rfl
        have f5 := hO4.cell' (i := 5) rfl
        iterate 4 (refine wpT_n rfl rfl (fun K hK => ?_); go_wp2_with fail)
        refine wpT_call rfl rfl (fun K hK => ?_)
        go_wp2_with (go_at_call 8; (with_reducible refine (ST1 _ hs3 H78).mono ?_); rintro e w5 ⟨L5, M5, rfl, hP5, hm5, hn5⟩)
        have hI5 := TI.step1 hI3 hP5 hm5 hn5
        have hx5 := hI5.bx
        have hs5 := hI5.b
        have IS := isA_any W _ _ hs5
        dsimp only [Sd.to, Sd.cells, List.cons_append, List.nil_append] at hx5 IS
        clear e0 e1 e2 e3 e4 e5
        have e0 := hx5.cell' (i := 0) rfl
        have e1 := hx5.cell' (i := 1) rfl
        have e2 := hx5.cell' (i := 2) rfl
        have e3 := hx5.cell' (i := 3) rfl
        have e4 := hx5.cell' (i := 4) rfl
        have e5 := hx5.cell' (i := 5) rfl
        refine wpT_n rfl rfl (fun K hK => ?_)
        go_wp2_with fail
        refine wpT_nil ?_
        go_wp2_with (go_at_call 19; (with_reducible refine (IS).mono ?_); rintro e w6 ⟨rfl, hm6⟩)
        go_roundw
        case rel => exact ⟨j + 1, _, _, by go_num, by omega, hI5.ext hm6, ⟨by dsimp only; omega, by dsimp only; omega⟩, ⟨by dsimp only [Sd.to]; omega, by dsimp only [Sd.to]; omega⟩⟩
        case measure => simp [intOf]; omega
    · obtain rfl : j = N := by omega
      have IS0 := fun w h => isA_any W w s0 h
      have IS1 := fun w h => isA_any W w s1 h
      obtain ⟨p0, q0, P0, Q0, u0, vv0, L0, M0⟩ := s0
      obtain ⟨p1, q1, P1, Q1, u1, vv1, L1, M1⟩ := s1
      have hx := hI.bx
      dsimp only [Sd.cells, List.cons_append, List.nil_append] at IS0 IS1 hx
      have e0 := hx.cell' (i := 0) rfl
      have e1 := hx.cell' (i := 1) rfl
      have e2 := hx.cell' (i := 2) rfl
      have e3 := hx.cell' (i := 3) rfl
      have e4 := hx.cell' (i := 4) rfl
      have e5 := hx.cell' (i := 5) rfl
      have ha := hI.a
      go_wp2_with (first
                    | (go_at_call 19; (with_reducible refine (IS0 _ ha).mono ?_); rintro e w3 ⟨rfl, hm3⟩; have hx3 := hx.ext hm3; have e3' := hx3.cell' (i := 3) rfl; have e4' := hx3.cell' (i := 4) rfl; have e5' := hx3.cell' (i := 5) rfl; have hb3 := hI.b.ext hm3)
                    | (go_at_call 19; (with_reducible refine (IS1 _ hb3).mono ?_); rintro e w4 ⟨rfl, hm4⟩)
                    | (go_at_call 5; (with_reducible refine (AW _).mono ?_); rintro e w5 ⟨rfl, hm5⟩))
      go_ret
      exact ⟨rfl, ((hI.m.ext hm3).ext hm4).ext hm5⟩
end Go.Proofs.YtdmnogmhnhjdgaaGreat
