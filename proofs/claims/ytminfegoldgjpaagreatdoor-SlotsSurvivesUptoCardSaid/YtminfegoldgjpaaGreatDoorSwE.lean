import Derived.Test.YtminfegoldgjpaaGreatDoorSwD
import Derived.Test.YtminfegoldgjpaaGreatDoorLpN
import Derived.Deep.DeepCutAuto
set_option linter.unusedVariables false
set_option linter.unusedSimpArgs false
set_option maxRecDepth 100000
namespace Go.Proofs.YtminfegoldgjpaaGreatDoor
open Go.RowKit Gw
theorem zero_heads : (Tryz.prog.info? 95).map (·.zero) = some (some (.agg #[.int .u64 0, .int .u64 0, .int .i64 0, .int .u32 0, .int .u64 0, .int .u64 0, .int .i64 0, .int .u32 0])) := by kernel_rfl
theorem zero_slot : (Tryz.prog.info? 87).map (·.zero) = some (some (.agg #[.pointer none])) := by kernel_rfl
theorem zero_ints : (Tryz.prog.info? 97).map (·.zero) = some (some (.agg #[.int .i64 0, .int .i64 0])) := by kernel_rfl
theorem ix_slot (a b : Nat) (w : World) : (Instr.index 88 (.agg #[.pointer (some ⟨a, 0, none⟩), .pointer (some ⟨b, 0, none⟩)]) (.int .i64 0)).run Tryz.prog w = .ok (.agg #[.pointer (some ⟨a, 0, none⟩)]) w := by kernel_rfl
theorem ix_slot1 (a b : Nat) (w : World) : (Instr.index 88 (.agg #[.pointer (some ⟨a, 0, none⟩), .pointer (some ⟨b, 0, none⟩)]) (.int .i64 1)).run Tryz.prog w = .ok (.agg #[.pointer (some ⟨b, 0, none⟩)]) w := by kernel_rfl
theorem ix_int (x y : Int) (w : World) : (Instr.index 97 (.agg #[.int .i64 x, .int .i64 y]) (.int .i64 0)).run Tryz.prog w = .ok (.int .i64 x) w := by kernel_rfl
theorem ix_int1 (x y : Int) (w : World) : (Instr.index 97 (.agg #[.int .i64 x, .int .i64 y]) (.int .i64 1)).run Tryz.prog w = .ok (.int .i64 y) w := by kernel_rfl
theorem bodG_z {c z : Nat} {v : Pv} {f : Nat} {i : Int} {h : Hd} {rest : List (Nat × Int × Hd)} (hg : h.g = 0) : bodG c z v ((f, i, h) :: rest) = bodG c z v rest := by
 rw [bodG, if_pos hg]
theorem bodG_e {c z : Nat} {v : Pv} {f : Nat} {i : Int} {h : Hd} {rest : List (Nat × Int × Hd)} (hg : h.g ≠ 0) {V : Pv} {E : Int} {B : List UInt8} (hr : rdA f c z v z h.l = (V, E, B)) (he : E ≠ 0) : bodG c z v ((f, i, h) :: rest) = ⟨V, E, hd0, [], 0⟩ := by
 rw [bodG, if_neg hg, hr]
 exact if_neg he
theorem bodG_y {c z : Nat} {v : Pv} {f : Nat} {i : Int} {h : Hd} {rest : List (Nat × Int × Hd)} (hg : h.g ≠ 0) {V : Pv} {B : List UInt8} (hr : rdA f c z v z h.l = (V, 0, B)) (he : crcS B = h.s) : bodG c z v ((f, i, h) :: rest) = ⟨V, 0, h, B, i⟩ := by
 rw [bodG, if_neg hg, hr]
 dsimp only
 rw [if_pos rfl, if_pos he]
theorem bodG_n {c z : Nat} {v : Pv} {f : Nat} {i : Int} {h : Hd} {rest : List (Nat × Int × Hd)} (hg : h.g ≠ 0) {V : Pv} {B : List UInt8} (hr : rdA f c z v z h.l = (V, 0, B)) (he : crcS B ≠ h.s) : bodG c z v ((f, i, h) :: rest) = bodG c z V rest := by
 rw [bodG, if_neg hg, hr]
 dsimp only
 rw [if_pos rfl, if_neg he]
def SLdP (w : World) (p q : Nat) (L : List Nat) (R : Ld5) (e : Ending) (w' : World) : Prop := ∃ bw, e = .returned (.tuple #[R.h.v, bw, .int .i64 R.i, .int .i64 R.e]) ∧ Ob w' bw R.b ∧ New w bw ∧ Pd w' p q R.v L ∧ Mod [p] w w'
structure LdI (W w : World) (s a b p q f0 f1 c z t g : Nat) (V : Pv) (L : List Nat) (hs : List Value) : Prop where
 P : Pd w p q V L
 S : Sls w s a b
 A : Rgn w a p f0 c z
 B : Rgn w b p f1 c z
 H : Blk w t 95 hs
 G : Blk w g 25 [.int .u64 0, .int .u64 0, .int .i64 0, .int .u32 0]
 T : TabC w
 M : Mod [p] W w
 lt : ∀ k ∈ p :: L, k < W.heap.size
 sl : s < W.heap.size
 al : a < W.heap.size
 bl : b < W.heap.size
 gw : W.heap.size ≤ g
 tw : W.heap.size ≤ t
 gt : g ≠ t
 ap : a ≠ p
 bp : b ≠ p
 sp : s ≠ p
 zp : 0 ≠ p
section
variable {W w w' : World} {s a b p q f0 f1 c z t g : Nat} {V V' : Pv} {L D : List Nat} {hs hs' : List Value}
theorem LdI.keep (h : LdI W w s a b p q f0 f1 c z t g V L hs) (hm : Mod D w w') (hD : ∀ k ∈ D, W.heap.size ≤ k) (hg : g ∉ D) (hH : Blk w' t 95 hs') : LdI W w' s a b p q f0 f1 c z t g V L hs' :=
 ⟨h.P.keep0 hm (fun k hk hh => by have := h.lt k hk; have := hD k hh; omega), h.S.mod hm (fun hh => by have := h.sl; have := hD _ hh; omega), h.A.mod hm (fun hh => by have := h.al; have := hD _ hh; omega), h.B.mod hm (fun hh => by have := h.bl; have := hD _ hh; omega), hH, h.G.mod hm hg, h.T.mod hm (fun hh => by have := h.sl; have := hD _ hh; omega), h.M.then hm (fun k hk => .inr (hD k hk)), h.lt, h.sl, h.al, h.bl, h.gw, h.tw, h.gt, h.ap, h.bp, h.sp, h.zp⟩
theorem LdI.ext (h : LdI W w s a b p q f0 f1 c z t g V L hs) (hm : Mod [] w w') : LdI W w' s a b p q f0 f1 c z t g V L hs := h.keep hm (by simp) (by simp) (h.H.ext hm)
theorem LdI.far (h : LdI W w s a b p q f0 f1 c z t g V L hs) (hm : Mod D w w') (hD : ∀ k ∈ D, w.heap.size ≤ k) : LdI W w' s a b p q f0 f1 c z t g V L hs :=
 h.keep hm (fun k hk => Nat.le_trans h.M.size (hD k hk)) (fun hh => by have := h.G.lt; have := hD _ hh; omega) (h.H.mod hm (fun hh => by have := h.H.lt; have := hD _ hh; omega))
theorem LdI.rd (h : LdI W w s a b p q f0 f1 c z t g V L hs) (hm : Mod [p] w w') (hP : Pd w' p q V' L) : LdI W w' s a b p q f0 f1 c z t g V' L hs := by
 have hp : p < W.heap.size := h.lt p List.mem_cons_self
 have h1 := h.gw
 have h2 := h.tw
 exact ⟨hP, h.S.mod hm (by simpa using h.sp), h.A.mod hm (by simpa using h.ap), h.B.mod hm (by simpa using h.bp), h.H.mod hm (by simp; omega), h.G.mod hm (by simp; omega), h.T.mod hm (by simpa using h.zp), h.M.trans hm, h.lt, h.sl, h.al, h.bl, h.gw, h.tw, h.gt, h.ap, h.bp, h.sp, h.zp⟩
theorem LdI.hd (h : LdI W w s a b p q f0 f1 c z t g V L hs) (hm : Mod [t] w w') (hH : Blk w' t 95 hs') : LdI W w' s a b p q f0 f1 c z t g V L hs' :=
 h.keep hm (by simpa using h.tw) (by simpa using h.gt) hH
theorem LdI.fin (h : LdI W w s a b p q f0 f1 c z t g V L hs) (hm : Mod [g] w w') : Pd w' p q V L ∧ Mod [p] W w' :=
 ⟨h.P.keep0 hm (fun k hk hh => by have e : k = g := (by simpa using hh); have := h.lt k hk; have := h.gw; omega), h.M.then hm (by simpa using .inr h.gw)⟩
end
set_option maxRecDepth 1000000 in
set_option maxHeartbeats 40000000 in
theorem sload_any (s a b p q f0 f1 c z : Nat) (v : Pv) (L : List Nat) (w : World) (hS : Sls w s a b) (hP : Pd w p q v L) (hA : Rgn w a p f0 c z) (hB : Rgn w b p f1 c z) (hz : v.m.sz = z) (hf0 : f0 + c ≤ v.m.dur.length) (hf1 : f1 + c ≤ v.m.dur.length) (hn : v.n + 4 * (c * z) ≤ 1000000) (hT : TabC w) (h0 : 0 ≠ p) (hap : a ≠ p) (hbp : b ≠ p) (hsp : s ≠ p) :
   Calls Tryz.prog 12 #[.pointer (some ⟨s, 0, none⟩)] w (SLdP w p q L (loadG f0 f1 c z v)) := by
 have hs1 := hP.ok.m.s1
 have hs2 := hP.ok.m.s2
 rw [hz] at hs1 hs2
 have TH := fun w h => sthere_yes s a b w h
 obtain ⟨m0, n0, k0⟩ := headG_sz f0 c z v
 have HA := fun w hP hR hT => shead_any a p q f0 c z v L w hP hR hz hf0 (by omega) hT h0 hap
 unfold SHdP at HA
 unfold SLdP
 have hRR : loadG f0 f1 c z v = if (headG f0 c z v).2.1 = 0 then
   if (headG f1 c z (headG f0 c z v).1).2.1 = 0 then
     if (headG f0 c z v).2.2.g < (headG f1 c z (headG f0 c z v).1).2.2.g then
       bodG c z (headG f1 c z (headG f0 c z v).1).1 [(f1, 1, (headG f1 c z (headG f0 c z v).1).2.2), (f0, 0, (headG f0 c z v).2.2)]
     else bodG c z (headG f1 c z (headG f0 c z v).1).1 [(f0, 0, (headG f0 c z v).2.2), (f1, 1, (headG f1 c z (headG f0 c z v).1).2.2)]
   else ⟨(headG f1 c z (headG f0 c z v).1).1, (headG f1 c z (headG f0 c z v).1).2.1, hd0, [], 0⟩
 else ⟨(headG f0 c z v).1, (headG f0 c z v).2.1, hd0, [], 0⟩ := rfl
 obtain ⟨R0, hR0⟩ : ∃ R, R = loadG f0 f1 c z v := ⟨_, rfl⟩
 rw [← hR0] at hRR ⊢
 clear hR0
 obtain ⟨⟨V0, E0, H0⟩, hRa⟩ : ∃ R, R = headG f0 c z v := ⟨_, rfl⟩
 rw [← hRa] at HA m0 n0 k0 hRR
 dsimp only at HA m0 n0 k0 hRR
 have HB := fun w hP hR hT => shead_any b p q f1 c z V0 L w hP hR (by rw [m0]; exact hz) (by rw [m0]; exact hf1) (by omega) hT h0 hbp
 obtain ⟨m1, n1, k1⟩ := headG_sz f1 c z V0
 unfold SHdP at HB
 obtain ⟨⟨V1, E1, H1⟩, hRb⟩ : ∃ R, R = headG f1 c z V0 := ⟨_, rfl⟩
 rw [← hRb] at HB m1 n1 k1 hRR
 dsimp only at HB m1 n1 k1 hRR
 have hmV1 : V1.m = v.m := m1.trans m0
 have hnV1 : V1.n ≤ v.n + 2 * (c * z) := by omega
 obtain ⟨g0, c0, l0, s0⟩ := H0
 obtain ⟨g1, c1, l1, s1⟩ := H1
 have hi0 : i64 l0 := k0.1.l
 have hi1 : i64 l1 := k1.1.l
 have hgb0 := k0.1.g
 have hgb1 := k1.1.g
 dsimp only at hgb0 hgb1
 have yg0 : (g0 : Int) ≤ 18446744073709551615 := by omega
 have yg1 : (g1 : Int) ≤ 18446744073709551615 := by omega
 unfold Hd.v at HA HB
 dsimp only at HA HB
 have ix0 := ix_slot a b
 have ix1 := ix_slot1 a b
 have jx0 := ix_int 0 1
 have jx1 := ix_int1 0 1
 have jy0 := ix_int 1 0
 have jy1 := ix_int1 1 0
 have HRR := Lib.hid hRR
 have HSZ := Lib.hid (And.intro m0 (And.intro n0 (And.intro m1 n1)))
 clear hRR hRa hRb m0 n0 m1 n1 k0 k1 hgb0 hgb1
 go_enter Tryz.func12, Tryz.ntmps12
 go_wp2_with (with_reducible refine st_alloc ?_)
 refine StopOp.go rfl fun K hK => ?_
 refine wp_alloc zero_header ?_
 intro g w1 hg1 hg2 hm1 hG1
 simp only [put_some, List.set_cons_succ, List.set_cons_zero]
 refine hK _ _ ?_
 clear hK K
 have hG : Blk w1 g 25 [.int .u64 0, .int .u64 0, .int .i64 0, .int .u32 0] := hG1
 have hS1 := hS.ext hm1
 go_wp2_with (first
               | (with_reducible refine st_alloc ?_)
               | (go_at_call 37; (with_reducible refine (TH _ hS1).mono ?_); rintro e w2 ⟨rfl, rfl⟩))
 refine StopOp.go rfl fun K hK => ?_
 refine wp_alloc zero_heads ?_
 intro t w2 ht1 ht2 hm2 hH2
 simp only [put_some, List.set_cons_succ, List.set_cons_zero]
 refine hK _ _ ?_
 clear hK K
 have hH : Blk w2 t 95 [.int .u64 0, .int .u64 0, .int .i64 0, .int .u32 0, .int .u64 0, .int .u64 0, .int .i64 0, .int .u32 0] := hH2
 have hM2 := hm1.ext hm2
 have I0 : LdI w w2 s a b p q f0 f1 c z t g v L [.int .u64 0, .int .u64 0, .int .i64 0, .int .u32 0, .int .u64 0, .int .u64 0, .int .i64 0, .int .u32 0] := ⟨hP.ext hM2, hS1.ext hm2, hA.ext hM2, hB.ext hM2, hH, hG.ext hm2, hT.ext hM2, hM2.weak (by simp), hP.lt0, Blk.lt hS, Blk.lt hA, Blk.lt hB, by omega, by have := hm1.size; omega, by omega, hap, hbp, hsp, h0⟩
 have d0 := Blk.cell' I0.S (i := 0) rfl
 have d1 := Blk.cell' I0.S (i := 1) rfl
 clear hH hH2 hG hG1 hS1 hm1 hm2 hM2
 go_wp2_with (first
               | (with_reducible refine st_alloc ?_)
               | (with_reducible refine wp_loopN 2 (fun _ _ => ?_)))
 refine StopOp.go rfl fun K hK => ?_
 refine wp_alloc zero_slot ?_
 intro x0 wa0 hx0 hx0' hma0 hX0
 simp only [put_some, List.set_cons_succ, List.set_cons_zero]
 refine hK _ _ ?_
 clear hK K
 go_wp2_with (with_reducible refine st_store ?_)
 refine StopOp.go rfl fun K hK => ?_
 refine wp_store (u := .agg #[.pointer (some ⟨a, 0, none⟩)]) (by rfl) (by rfl) (by kernel_rfl) hX0 (by simp [Value.cells]) (by simp [Value.cells, Value.oneCell']) ?_
 intro wb0 hmb0 hY0
 refine hK _ _ ?_
 clear hK K
 have hYb0 : Blk wb0 x0 87 [.pointer (some ⟨a, 0, none⟩)] := hY0
 have Ib0 := I0.ext (hma0.fresh hmb0 (by simpa using hx0))
 have y0 := hYb0.cell' (i := 0) rfl
 go_wp2_with (first
               | (with_reducible refine st_store ?_)
               | (go_at_call 43; (with_reducible refine (HA _ Ib0.P Ib0.A Ib0.T).mono ?_); rintro e wc0 ⟨rfl, hPc0, hmc0⟩))
 have Ic0 := Ib0.rd hmc0 hPc0
 refine StopOp.go rfl fun K hK => ?_
 refine wp_store (u := .agg #[.int .u64 (g0 : Nat), .int .u64 (c0 : Nat), .int .i64 l0, .int .u32 (s0 : Nat)]) (by rfl) (by rfl) (by kernel_rfl) Ic0.H (by simp [Value.cells]) (by simp [Value.cells, Value.oneCell']) ?_
 intro wd0 hmd0 hZ0
 refine hK _ _ ?_
 clear hK K
 have hZd0 : Blk wd0 t 95 [.int .u64 (g0 : Nat), .int .u64 (c0 : Nat), .int .i64 l0, .int .u32 (s0 : Nat), .int .u64 0, .int .u64 0, .int .i64 0, .int .u32 0] := hZ0
 have I1 := Ic0.hd hmd0 hZd0
 clear hX0 hY0 hYb0 y0 hZ0 hZd0 hPc0
 by_cases hE0 : E0 = 0
 · subst hE0
   go_wp2_with (first
                 | (with_reducible refine st_alloc ?_)
                 | (with_reducible refine LoopN.step (fun _ _ => ?_)))
   refine StopOp.go rfl fun K hK => ?_
   refine wp_alloc zero_slot ?_
   intro x1 wa1 hx1 hx1' hma1 hX1
   simp only [put_some, List.set_cons_succ, List.set_cons_zero]
   refine hK _ _ ?_
   clear hK K
   go_wp2_with (with_reducible refine st_store ?_)
   refine StopOp.go rfl fun K hK => ?_
   refine wp_store (u := .agg #[.pointer (some ⟨b, 0, none⟩)]) (by rfl) (by rfl) (by kernel_rfl) hX1 (by simp [Value.cells]) (by simp [Value.cells, Value.oneCell']) ?_
   intro wb1 hmb1 hY1
   refine hK _ _ ?_
   clear hK K
   have hYb1 : Blk wb1 x1 87 [.pointer (some ⟨b, 0, none⟩)] := hY1
   have Ib1 := I1.ext (hma1.fresh hmb1 (by simpa using hx1))
   have y1 := hYb1.cell' (i := 0) rfl
   go_wp2_with (first
                 | (with_reducible refine st_store ?_)
                 | (go_at_call 43; (with_reducible refine (HB _ Ib1.P Ib1.B Ib1.T).mono ?_); rintro e wc1 ⟨rfl, hPc1, hmc1⟩))
   have Ic1 := Ib1.rd hmc1 hPc1
   refine StopOp.go rfl fun K hK => ?_
   refine wp_store (u := .agg #[.int .u64 (g1 : Nat), .int .u64 (c1 : Nat), .int .i64 l1, .int .u32 (s1 : Nat)]) (by rfl) (by rfl) (by kernel_rfl) Ic1.H (by simp [Value.cells]) (by simp [Value.cells, Value.oneCell']) ?_
   intro wd1 hmd1 hZ1
   refine hK _ _ ?_
   clear hK K
   have hZd1 : Blk wd1 t 95 [.int .u64 (g0 : Nat), .int .u64 (c0 : Nat), .int .i64 l0, .int .u32 (s0 : Nat), .int .u64 (g1 : Nat), .int .u64 (c1 : Nat), .int .i64 l1, .int .u32 (s1 : Nat)] := hZ1
   have I2 := Ic1.hd hmd1 hZd1
   clear hX1 hY1 hYb1 y1 hZ1 hZd1 hPc1
   by_cases hE1 : E1 = 0
   · subst hE1
     have hRR := HRR.out
     try simp only [if_true, reduceIte] at hRR
     go_wp2_with (first
                   | (with_reducible refine st_alloc ?_)
                   | (with_reducible refine LoopN.step (fun _ _ => ?_)))
     refine StopOp.go rfl fun K hK => ?_
     refine wp_alloc zero_ints ?_
     intro j we hj hj' hme hJ
     simp only [put_some, List.set_cons_succ, List.set_cons_zero]
     refine hK _ _ ?_
     clear hK K
     go_wp2_with (with_reducible refine st_store ?_)
     refine StopOp.go rfl fun K hK => ?_
     refine wp_store (u := .agg #[.int .i64 0, .int .i64 1]) (by rfl) (by rfl) (by kernel_rfl) hJ (by simp [Value.cells]) (by simp [Value.cells, Value.oneCell']) ?_
     intro wf hmf hJ2
     refine hK _ _ ?_
     clear hK K
     have hJf : Blk wf j 97 [.int .i64 0, .int .i64 1] := hJ2
     have I3 := I2.ext (hme.fresh hmf (by simpa using hj))
     have j0 := hJf.cell' (i := 0) rfl
     have j1 := hJf.cell' (i := 1) rfl
     have o0 := I3.H.cell' (i := 0) rfl
     have o1 := I3.H.cell' (i := 4) rfl
     clear hJ hJ2
     by_cases hlt : g0 < g1
     · have hr : R0 = bodG c z V1 [(f1, 1, ⟨g1, c1, l1, s1⟩), (f0, 0, ⟨g0, c0, l0, s0⟩)] := hRR.trans (if_pos hlt)
       have ylt : (g0 : Int) < g1 := by omega
       clear hRR
       go_wp2_with (with_reducible refine st_store ?_)
       refine StopOp.go rfl fun K hK => ?_
       refine wp_store (u := .agg #[.int .i64 1, .int .i64 0]) (by rfl) (by rfl) (by kernel_rfl) hJf (by simp [Value.cells]) (by simp [Value.cells, Value.oneCell']) ?_
       intro wg hmg hJ3
       refine hK _ _ ?_
       clear hK K
       have hJg : Blk wg j 97 [.int .i64 1, .int .i64 0] := hJ3
       have I4 := I2.ext ((hme.fresh hmf (by simpa using hj)).fresh hmg (by simpa using hj))
       have p0 := hJg.cell' (i := 0) rfl
       have p1 := hJg.cell' (i := 1) rfl
       clear j0 j1 o0 o1 hJf hJ3 I3
       have cg01 := I4.H.cell' (i := 4) rfl
       by_cases hg01x1 : g1 = 0
       · exfalso
         omega
       · have dz01x1 : ((g1 : Int) == 0) = false := by simpa using hg01x1
         have RD01x1 := fun w hP hR => gRead_any b p q f1 c z V1 L (z : Nat) l1 w hP hR (by rw [hmV1]; exact hz) (by rw [hmV1]; exact hf1) (by have := hnV1; omega) ⟨by omega, by omega⟩ hi1
         unfold GRdP at RD01x1
         have hlen01x1 := rdA_len f1 c z V1 z l1
         obtain ⟨hms01x1, hns01x1⟩ := rdA_sz f1 c z V1 z l1
         obtain ⟨⟨W01x1, E01x1, B01x1⟩, hR01x1⟩ : ∃ R, R = rdA f1 c z V1 z l1 := ⟨_, rfl⟩
         rw [← hR01x1] at RD01x1 hlen01x1 hms01x1 hns01x1
         dsimp only at RD01x1 hlen01x1 hms01x1 hns01x1
         have hmW01x1 : W01x1.m = v.m := hms01x1.trans hmV1
         have hnW01x1 : W01x1.n ≤ v.n + 3 * (c * z) := by have := hnV1; omega
         have HH01x1 := Lib.hid (And.intro hlen01x1 hR01x1)
         clear hms01x1 hns01x1 hlen01x1 hR01x1
         go_wp2_with (first
                       | (with_reducible refine LoopN.step (fun _ _ => ?_))
                       | (with_reducible refine wp_loopN 2 (fun _ _ => ?_)))
         refine wp_region_T [⟨0, true, []⟩, ⟨1, true, []⟩, ⟨2, true, []⟩, ⟨3, true, []⟩, ⟨4, true, []⟩, ⟨5, true, []⟩, ⟨6, true, []⟩, ⟨7, true, []⟩, ⟨8, true, []⟩, ⟨9, true, []⟩, ⟨10, true, []⟩, ⟨11, true, []⟩, ⟨12, true, []⟩, ⟨13, true, []⟩, ⟨15, true, []⟩, ⟨16, true, []⟩, ⟨17, true, []⟩, ⟨18, true, []⟩, ⟨14, false, [2, 6, 18]⟩, ⟨19, false, []⟩, ⟨20, true, []⟩, ⟨21, true, []⟩, ⟨22, true, []⟩, ⟨23, true, []⟩, ⟨24, true, []⟩] (by kernel_rfl) (by kernel_rfl) ?_
         have hmD01x1 := Mod.drew [] wg
         obtain ⟨x01x1, hx01x1⟩ : ∃ x, x = wg.drew := ⟨_, rfl⟩
         rw [← hx01x1] at hmD01x1 ⊢
         clear hx01x1
         have J01x1 := I4.ext hmD01x1
         have e001x1 := Blk.cell' J01x1.S (i := 0) rfl
         have e101x1 := Blk.cell' J01x1.S (i := 1) rfl
         have e201x1 := J01x1.H.cell' (i := 6) rfl
         iterate 18 (refine wpT_n rfl rfl (fun K hK => ?_); go_wp2_with fail)
         refine wpT_callh rfl rfl (fun K hK => ?_)
         go_wp2_with (go_at_call 39; (with_reducible refine (gSize_any b p f1 c z _ J01x1.B).mono ?_); rintro e w3 ⟨rfl, rfl⟩)
         refine ⟨agains_same, ?_⟩
         refine wpT_call rfl rfl (fun K hK => ?_)
         go_wp2_with (go_at_call 44; (with_reducible refine (RD01x1 _ J01x1.P J01x1.B).mono ?_); rintro e wr01x1 ⟨rv, rfl, ho01x1, hnw01x1, hP01x1, hm01x1⟩; obtain ⟨ao01x1, cap01x1, rfl, _, _⟩ := ho01x1.sl.form)
         have I01x1 := J01x1.rd hm01x1 hP01x1
         have hb01x1 := ho01x1.bs
         have k001x1 := I01x1.H.cell' (i := 4) rfl
         have k101x1 := I01x1.H.cell' (i := 5) rfl
         have k201x1 := I01x1.H.cell' (i := 6) rfl
         have k301x1 := I01x1.H.cell' (i := 7) rfl
         clear e001x1 e101x1 e201x1
         by_cases hE01x1 : E01x1 = 0
         · subst hE01x1
           iterate 5 (refine wpT_n rfl rfl (fun K hK => ?_); go_wp2_with fail)
           refine wpT_nil ?_
           have SU01x1 := fun w v h hT => sum_any B01x1 v w h hT
           obtain ⟨cs01x1, hcs01x1⟩ : ∃ x, x = crcS B01x1 := ⟨_, rfl⟩
           rw [← hcs01x1] at SU01x1
           go_wp2_with fail
           refine wp_region_T [⟨0, true, []⟩, ⟨2, true, []⟩, ⟨3, true, []⟩, ⟨4, true, []⟩, ⟨5, true, []⟩, ⟨1, false, [5]⟩, ⟨6, true, []⟩] (by kernel_rfl) (by kernel_rfl) ?_
           have hmE01x1 := Mod.drew [] wr01x1
           obtain ⟨y01x1, hy01x1⟩ : ∃ x, x = wr01x1.drew := ⟨_, rfl⟩
           rw [← hy01x1] at hmE01x1 ⊢
           clear hy01x1
           have Y01x1 := I01x1.ext hmE01x1
           have hby01x1 := hb01x1.ext hmE01x1
           have hoy01x1 := Ob.ext ho01x1 hmE01x1
           have u001x1 := Y01x1.H.cell' (i := 4) rfl
           have u101x1 := Y01x1.H.cell' (i := 5) rfl
           have u201x1 := Y01x1.H.cell' (i := 6) rfl
           have u301x1 := Y01x1.H.cell' (i := 7) rfl
           have hTy01x1 := Y01x1.T
           iterate 5 (refine wpT_n rfl rfl (fun K hK => ?_); go_wp2_with fail)
           refine wpT_callh rfl rfl (fun K hK => ?_)
           go_wp2_with (go_at_call 38; (with_reducible refine (SU01x1 _ _ hby01x1 hTy01x1).mono ?_); rintro e wz ⟨rfl, hwz⟩; obtain rfl := hwz)
           refine ⟨agains_same, ?_⟩
           by_cases hq01x1 : cs01x1 = s1
           · have dq01x1 : ((cs01x1 : Int) == (s1 : Int)) = true := by rw [hq01x1]; simp
             refine wpT_n rfl rfl (fun K hK => ?_)
             go_wp2_with fail
             refine wpT_nil ?_
             go_wp2_with (with_reducible refine st_store ?_)
             refine StopOp.go rfl fun K hK => ?_
             refine wp_store (u := .agg #[.int .u64 (g1 : Nat), .int .u64 (c1 : Nat), .int .i64 l1, .int .u32 (s1 : Nat)]) (by rfl) (by rfl) (by kernel_rfl) Y01x1.G (by simp [Value.cells]) (by simp [Value.cells, Value.oneCell']) ?_
             intro w90 hm90 hB90
             refine hK _ _ ?_
             clear hK K
             have z0 := hB90.cell' (i := 0) rfl
             have z1 := hB90.cell' (i := 1) rfl
             have z2 := hB90.cell' (i := 2) rfl
             have z3 := hB90.cell' (i := 3) rfl
             obtain ⟨hfp, hfm⟩ := Y01x1.fin hm90
             have hlaw : R0 = _ := hr.trans (bodG_y hg01x1 HH01x1.out.2.symm (hcs01x1 ▸ hq01x1))
             go_wp2_with fail
             refine bodyPost_ret (v := .tuple #[.agg #[.int .u64 (g1 : Nat), .int .u64 (c1 : Nat), .int .i64 l1, .int .u32 (s1 : Nat)], .slice ao01x1 B01x1.length cap01x1, .int .i64 1, .int .i64 0]) (by simp [results, Tryz.results12, go_sem, z0, z1, z2, z3]) rfl ?_
             rw [hlaw]
             exact ⟨_, rfl, Ow.mod hoy01x1 hm90 (fun k hk hh => by have e : k = g := (by simpa using hh); exact Ow.ne hoy01x1 Y01x1.G (by decide) (e ▸ hk)), fun k hk => Nat.le_trans J01x1.M.size (hnw01x1 k hk), hfp, hfm⟩
           · have dq01x1 : ((cs01x1 : Int) == (s1 : Int)) = false := beq_eq_false_iff_ne.2 (by omega)
             refine wpT_n rfl rfl (fun K hK => ?_)
             go_wp2_with fail
             refine wpT_nil ?_
             have hr01x1 := hr.trans (bodG_n hg01x1 HH01x1.out.2.symm (hcs01x1 ▸ hq01x1))
             clear ho01x1 hoy01x1 hb01x1 hby01x1 u001x1 u101x1 u201x1 u301x1 k001x1 k101x1 k201x1 k301x1 SU01x1 RD01x1
             have cg10 := Y01x1.H.cell' (i := 0) rfl
             by_cases hg10x2 : g0 = 0
             · have hr10x2 := hr01x1.trans (bodG_z hg10x2)
               have dz10x2 : ((g0 : Int) == 0) = true := by rw [hg10x2]; rfl
               have Hz1 := Lib.hid hg10x2
               clear hg10x2
               go_wp2_with (first
                             | (with_reducible refine st_store ?_)
                             | (with_reducible refine LoopN.step (fun _ _ => ?_))
                             | (with_reducible refine wp_loopN 2 (fun _ _ => ?_)))
               refine StopOp.go rfl fun K hK => ?_
               refine wp_store (u := .agg #[.int .u64 0, .int .u64 0, .int .i64 0, .int .u32 0]) (by rfl) (by rfl) (by kernel_rfl) Y01x1.G (by simp [Value.cells]) (by simp [Value.cells, Value.oneCell']) ?_
               intro w90 hm90 hB90
               refine hK _ _ ?_
               clear hK K
               have z0 := hB90.cell' (i := 0) rfl
               have z1 := hB90.cell' (i := 1) rfl
               have z2 := hB90.cell' (i := 2) rfl
               have z3 := hB90.cell' (i := 3) rfl
               obtain ⟨hfp, hfm⟩ := Y01x1.fin hm90
               have hlaw : R0 = _ := hr10x2
               go_wp2_with fail
               refine bodyPost_ret (v := .tuple #[.agg #[.int .u64 0, .int .u64 0, .int .i64 0, .int .u32 0], .slice none 0 0, .int .i64 (-1), .int .i64 0]) (by simp [results, Tryz.results12, go_sem, z0, z1, z2, z3]) rfl ?_
               rw [hlaw]
               exact ⟨_, rfl, Ob.nil _, by simp [New, blks], hfp, hfm⟩
             · have dz10x2 : ((g0 : Int) == 0) = false := by simpa using hg10x2
               have RD10x2 := fun w hP hR => gRead_any a p q f0 c z W01x1 L (z : Nat) l0 w hP hR (by rw [hmW01x1]; exact hz) (by rw [hmW01x1]; exact hf0) (by have := hnW01x1; omega) ⟨by omega, by omega⟩ hi0
               unfold GRdP at RD10x2
               have hlen10x2 := rdA_len f0 c z W01x1 z l0
               obtain ⟨hms10x2, hns10x2⟩ := rdA_sz f0 c z W01x1 z l0
               obtain ⟨⟨W10x2, E10x2, B10x2⟩, hR10x2⟩ : ∃ R, R = rdA f0 c z W01x1 z l0 := ⟨_, rfl⟩
               rw [← hR10x2] at RD10x2 hlen10x2 hms10x2 hns10x2
               dsimp only at RD10x2 hlen10x2 hms10x2 hns10x2
               have hmW10x2 : W10x2.m = v.m := hms10x2.trans hmW01x1
               have hnW10x2 : W10x2.n ≤ v.n + 4 * (c * z) := by have := hnW01x1; omega
               have HH10x2 := Lib.hid (And.intro hlen10x2 hR10x2)
               clear hms10x2 hns10x2 hlen10x2 hR10x2
               go_wp2_with (first
                             | (with_reducible refine LoopN.step (fun _ _ => ?_))
                             | (with_reducible refine wp_loopN 2 (fun _ _ => ?_)))
               refine wp_region_T [⟨0, true, []⟩, ⟨1, true, []⟩, ⟨2, true, []⟩, ⟨3, true, []⟩, ⟨4, true, []⟩, ⟨5, true, []⟩, ⟨6, true, []⟩, ⟨7, true, []⟩, ⟨8, true, []⟩, ⟨9, true, []⟩, ⟨10, true, []⟩, ⟨11, true, []⟩, ⟨12, true, []⟩, ⟨13, true, []⟩, ⟨15, true, []⟩, ⟨16, true, []⟩, ⟨17, true, []⟩, ⟨18, true, []⟩, ⟨14, false, [2, 6, 18]⟩, ⟨19, false, []⟩, ⟨20, true, []⟩, ⟨21, true, []⟩, ⟨22, true, []⟩, ⟨23, true, []⟩, ⟨24, true, []⟩] (by kernel_rfl) (by kernel_rfl) ?_
               have hmD10x2 := Mod.drew [] y01x1
               obtain ⟨x10x2, hx10x2⟩ : ∃ x, x = y01x1.drew := ⟨_, rfl⟩
               rw [← hx10x2] at hmD10x2 ⊢
               clear hx10x2
               have J10x2 := Y01x1.ext hmD10x2
               have e010x2 := Blk.cell' J10x2.S (i := 0) rfl
               have e110x2 := Blk.cell' J10x2.S (i := 1) rfl
               have e210x2 := J10x2.H.cell' (i := 2) rfl
               iterate 18 (refine wpT_n rfl rfl (fun K hK => ?_); go_wp2_with fail)
               refine wpT_callh rfl rfl (fun K hK => ?_)
               go_wp2_with (go_at_call 39; (with_reducible refine (gSize_any a p f0 c z _ J10x2.A).mono ?_); rintro e w3 ⟨rfl, rfl⟩)
               refine ⟨agains_same, ?_⟩
               refine wpT_call rfl rfl (fun K hK => ?_)
               go_wp2_with (go_at_call 44; (with_reducible refine (RD10x2 _ J10x2.P J10x2.A).mono ?_); rintro e wr10x2 ⟨rv, rfl, ho10x2, hnw10x2, hP10x2, hm10x2⟩; obtain ⟨ao10x2, cap10x2, rfl, _, _⟩ := ho10x2.sl.form)
               have I10x2 := J10x2.rd hm10x2 hP10x2
               have hb10x2 := ho10x2.bs
               have k010x2 := I10x2.H.cell' (i := 0) rfl
               have k110x2 := I10x2.H.cell' (i := 1) rfl
               have k210x2 := I10x2.H.cell' (i := 2) rfl
               have k310x2 := I10x2.H.cell' (i := 3) rfl
               clear e010x2 e110x2 e210x2
               by_cases hE10x2 : E10x2 = 0
               · subst hE10x2
                 iterate 5 (refine wpT_n rfl rfl (fun K hK => ?_); go_wp2_with fail)
                 refine wpT_nil ?_
                 have SU10x2 := fun w v h hT => sum_any B10x2 v w h hT
                 obtain ⟨cs10x2, hcs10x2⟩ : ∃ x, x = crcS B10x2 := ⟨_, rfl⟩
                 rw [← hcs10x2] at SU10x2
                 go_wp2_with fail
                 refine wp_region_T [⟨0, true, []⟩, ⟨2, true, []⟩, ⟨3, true, []⟩, ⟨4, true, []⟩, ⟨5, true, []⟩, ⟨1, false, [5]⟩, ⟨6, true, []⟩] (by kernel_rfl) (by kernel_rfl) ?_
                 have hmE10x2 := Mod.drew [] wr10x2
                 obtain ⟨y10x2, hy10x2⟩ : ∃ x, x = wr10x2.drew := ⟨_, rfl⟩
                 rw [← hy10x2] at hmE10x2 ⊢
                 clear hy10x2
                 have Y10x2 := I10x2.ext hmE10x2
                 have hby10x2 := hb10x2.ext hmE10x2
                 have hoy10x2 := Ob.ext ho10x2 hmE10x2
                 have u010x2 := Y10x2.H.cell' (i := 0) rfl
                 have u110x2 := Y10x2.H.cell' (i := 1) rfl
                 have u210x2 := Y10x2.H.cell' (i := 2) rfl
                 have u310x2 := Y10x2.H.cell' (i := 3) rfl
                 have hTy10x2 := Y10x2.T
                 iterate 5 (refine wpT_n rfl rfl (fun K hK => ?_); go_wp2_with fail)
                 refine wpT_callh rfl rfl (fun K hK => ?_)
                 go_wp2_with (go_at_call 38; (with_reducible refine (SU10x2 _ _ hby10x2 hTy10x2).mono ?_); rintro e wz ⟨rfl, hwz⟩; obtain rfl := hwz)
                 refine ⟨agains_same, ?_⟩
                 by_cases hq10x2 : cs10x2 = s0
                 · have dq10x2 : ((cs10x2 : Int) == (s0 : Int)) = true := by rw [hq10x2]; simp
                   refine wpT_n rfl rfl (fun K hK => ?_)
                   go_wp2_with fail
                   refine wpT_nil ?_
                   go_wp2_with (with_reducible refine st_store ?_)
                   refine StopOp.go rfl fun K hK => ?_
                   refine wp_store (u := .agg #[.int .u64 (g0 : Nat), .int .u64 (c0 : Nat), .int .i64 l0, .int .u32 (s0 : Nat)]) (by rfl) (by rfl) (by kernel_rfl) Y10x2.G (by simp [Value.cells]) (by simp [Value.cells, Value.oneCell']) ?_
                   intro w90 hm90 hB90
                   refine hK _ _ ?_
                   clear hK K
                   have z0 := hB90.cell' (i := 0) rfl
                   have z1 := hB90.cell' (i := 1) rfl
                   have z2 := hB90.cell' (i := 2) rfl
                   have z3 := hB90.cell' (i := 3) rfl
                   obtain ⟨hfp, hfm⟩ := Y10x2.fin hm90
                   have hlaw : R0 = _ := hr01x1.trans (bodG_y hg10x2 HH10x2.out.2.symm (hcs10x2 ▸ hq10x2))
                   go_wp2_with fail
                   refine bodyPost_ret (v := .tuple #[.agg #[.int .u64 (g0 : Nat), .int .u64 (c0 : Nat), .int .i64 l0, .int .u32 (s0 : Nat)], .slice ao10x2 B10x2.length cap10x2, .int .i64 0, .int .i64 0]) (by simp [results, Tryz.results12, go_sem, z0, z1, z2, z3]) rfl ?_
                   rw [hlaw]
                   exact ⟨_, rfl, Ow.mod hoy10x2 hm90 (fun k hk hh => by have e : k = g := (by simpa using hh); exact Ow.ne hoy10x2 Y10x2.G (by decide) (e ▸ hk)), fun k hk => Nat.le_trans J10x2.M.size (hnw10x2 k hk), hfp, hfm⟩
                 · have dq10x2 : ((cs10x2 : Int) == (s0 : Int)) = false := beq_eq_false_iff_ne.2 (by omega)
                   refine wpT_n rfl rfl (fun K hK => ?_)
                   go_wp2_with fail
                   refine wpT_nil ?_
                   have hr10x2 := hr01x1.trans (bodG_n hg10x2 HH10x2.out.2.symm (hcs10x2 ▸ hq10x2))
                   clear ho10x2 hoy10x2 hb10x2 hby10x2 u010x2 u110x2 u210x2 u310x2 k010x2 k110x2 k210x2 k310x2 SU10x2 RD10x2
                   go_wp2_with (first
                                 | (with_reducible refine st_store ?_)
                                 | (with_reducible refine LoopN.step (fun _ _ => ?_))
                                 | (with_reducible refine wp_loopN 2 (fun _ _ => ?_)))
                   refine StopOp.go rfl fun K hK => ?_
                   refine wp_store (u := .agg #[.int .u64 0, .int .u64 0, .int .i64 0, .int .u32 0]) (by rfl) (by rfl) (by kernel_rfl) Y10x2.G (by simp [Value.cells]) (by simp [Value.cells, Value.oneCell']) ?_
                   intro w90 hm90 hB90
                   refine hK _ _ ?_
                   clear hK K
                   have z0 := hB90.cell' (i := 0) rfl
                   have z1 := hB90.cell' (i := 1) rfl
                   have z2 := hB90.cell' (i := 2) rfl
                   have z3 := hB90.cell' (i := 3) rfl
                   obtain ⟨hfp, hfm⟩ := Y10x2.fin hm90
                   have hlaw : R0 = _ := hr10x2
                   go_wp2_with fail
                   refine bodyPost_ret (v := .tuple #[.agg #[.int .u64 0, .int .u64 0, .int .i64 0, .int .u32 0], .slice none 0 0, .int .i64 (-1), .int .i64 0]) (by simp [results, Tryz.results12, go_sem, z0, z1, z2, z3]) rfl ?_
                   rw [hlaw]
                   exact ⟨_, rfl, Ob.nil _, by simp [New, blks], hfp, hfm⟩
               · have dE10x2 : (E10x2 != 0) = true := bne_iff_ne.2 hE10x2
                 iterate 5 (refine wpT_n rfl rfl (fun K hK => ?_); go_wp2_with fail)
                 refine wpT_nil ?_
                 go_wp2_with (with_reducible refine st_store ?_)
                 refine StopOp.go rfl fun K hK => ?_
                 refine wp_store (u := .agg #[.int .u64 0, .int .u64 0, .int .i64 0, .int .u32 0]) (by rfl) (by rfl) (by kernel_rfl) I10x2.G (by simp [Value.cells]) (by simp [Value.cells, Value.oneCell']) ?_
                 intro w90 hm90 hB90
                 refine hK _ _ ?_
                 clear hK K
                 have z0 := hB90.cell' (i := 0) rfl
                 have z1 := hB90.cell' (i := 1) rfl
                 have z2 := hB90.cell' (i := 2) rfl
                 have z3 := hB90.cell' (i := 3) rfl
                 obtain ⟨hfp, hfm⟩ := I10x2.fin hm90
                 have hlaw : R0 = _ := hr01x1.trans (bodG_e hg10x2 HH10x2.out.2.symm hE10x2)
                 go_wp2_with fail
                 refine bodyPost_ret (v := .tuple #[.agg #[.int .u64 0, .int .u64 0, .int .i64 0, .int .u32 0], .slice none 0 0, .int .i64 0, .int .i64 E10x2]) (by simp [results, Tryz.results12, go_sem, z0, z1, z2, z3]) rfl ?_
                 rw [hlaw]
                 exact ⟨_, rfl, Ob.nil _, by simp [New, blks], hfp, hfm⟩
         · have dE01x1 : (E01x1 != 0) = true := bne_iff_ne.2 hE01x1
           iterate 5 (refine wpT_n rfl rfl (fun K hK => ?_); go_wp2_with fail)
           refine wpT_nil ?_
           go_wp2_with (with_reducible refine st_store ?_)
           refine StopOp.go rfl fun K hK => ?_
           refine wp_store (u := .agg #[.int .u64 0, .int .u64 0, .int .i64 0, .int .u32 0]) (by rfl) (by rfl) (by kernel_rfl) I01x1.G (by simp [Value.cells]) (by simp [Value.cells, Value.oneCell']) ?_
           intro w90 hm90 hB90
           refine hK _ _ ?_
           clear hK K
           have z0 := hB90.cell' (i := 0) rfl
           have z1 := hB90.cell' (i := 1) rfl
           have z2 := hB90.cell' (i := 2) rfl
           have z3 := hB90.cell' (i := 3) rfl
           obtain ⟨hfp, hfm⟩ := I01x1.fin hm90
           have hlaw : R0 = _ := hr.trans (bodG_e hg01x1 HH01x1.out.2.symm hE01x1)
           go_wp2_with fail
           refine bodyPost_ret (v := .tuple #[.agg #[.int .u64 0, .int .u64 0, .int .i64 0, .int .u32 0], .slice none 0 0, .int .i64 0, .int .i64 E01x1]) (by simp [results, Tryz.results12, go_sem, z0, z1, z2, z3]) rfl ?_
           rw [hlaw]
           exact ⟨_, rfl, Ob.nil _, by simp [New, blks], hfp, hfm⟩
     · have hr : R0 = bodG c z V1 [(f0, 0, ⟨g0, c0, l0, s0⟩), (f1, 1, ⟨g1, c1, l1, s1⟩)] := hRR.trans (if_neg hlt)
       have ylt : (g1 : Int) ≤ g0 := by omega
       clear hRR
       have cg00 := I3.H.cell' (i := 0) rfl
       by_cases hg00o3 : g0 = 0
       · have hr00o3 := hr.trans (bodG_z hg00o3)
         have dz00o3 : ((g0 : Int) == 0) = true := by rw [hg00o3]; rfl
         have Hz0 := Lib.hid hg00o3
         clear hg00o3
         have cg11 := I3.H.cell' (i := 4) rfl
         by_cases hg11o4 : g1 = 0
         · have hr11o4 := hr00o3.trans (bodG_z hg11o4)
           have dz11o4 : ((g1 : Int) == 0) = true := by rw [hg11o4]; rfl
           have Hz1 := Lib.hid hg11o4
           clear hg11o4
           go_wp2_with (first
                         | (with_reducible refine st_store ?_)
                         | (with_reducible refine LoopN.step (fun _ _ => ?_))
                         | (with_reducible refine wp_loopN 2 (fun _ _ => ?_)))
           refine StopOp.go rfl fun K hK => ?_
           refine wp_store (u := .agg #[.int .u64 0, .int .u64 0, .int .i64 0, .int .u32 0]) (by rfl) (by rfl) (by kernel_rfl) I3.G (by simp [Value.cells]) (by simp [Value.cells, Value.oneCell']) ?_
           intro w90 hm90 hB90
           refine hK _ _ ?_
           clear hK K
           have z0 := hB90.cell' (i := 0) rfl
           have z1 := hB90.cell' (i := 1) rfl
           have z2 := hB90.cell' (i := 2) rfl
           have z3 := hB90.cell' (i := 3) rfl
           obtain ⟨hfp, hfm⟩ := I3.fin hm90
           have hlaw : R0 = _ := hr11o4
           go_wp2_with fail
           refine bodyPost_ret (v := .tuple #[.agg #[.int .u64 0, .int .u64 0, .int .i64 0, .int .u32 0], .slice none 0 0, .int .i64 (-1), .int .i64 0]) (by simp [results, Tryz.results12, go_sem, z0, z1, z2, z3]) rfl ?_
           rw [hlaw]
           exact ⟨_, rfl, Ob.nil _, by simp [New, blks], hfp, hfm⟩
         · exfalso
           have := Hz0.out
           omega
       · have dz00o3 : ((g0 : Int) == 0) = false := by simpa using hg00o3
         have RD00o3 := fun w hP hR => gRead_any a p q f0 c z V1 L (z : Nat) l0 w hP hR (by rw [hmV1]; exact hz) (by rw [hmV1]; exact hf0) (by have := hnV1; omega) ⟨by omega, by omega⟩ hi0
         unfold GRdP at RD00o3
         have hlen00o3 := rdA_len f0 c z V1 z l0
         obtain ⟨hms00o3, hns00o3⟩ := rdA_sz f0 c z V1 z l0
         obtain ⟨⟨W00o3, E00o3, B00o3⟩, hR00o3⟩ : ∃ R, R = rdA f0 c z V1 z l0 := ⟨_, rfl⟩
         rw [← hR00o3] at RD00o3 hlen00o3 hms00o3 hns00o3
         dsimp only at RD00o3 hlen00o3 hms00o3 hns00o3
         have hmW00o3 : W00o3.m = v.m := hms00o3.trans hmV1
         have hnW00o3 : W00o3.n ≤ v.n + 3 * (c * z) := by have := hnV1; omega
         have HH00o3 := Lib.hid (And.intro hlen00o3 hR00o3)
         clear hms00o3 hns00o3 hlen00o3 hR00o3
         go_wp2_with (first
                       | (with_reducible refine LoopN.step (fun _ _ => ?_))
                       | (with_reducible refine wp_loopN 2 (fun _ _ => ?_)))
         refine wp_region_T [⟨0, true, []⟩, ⟨1, true, []⟩, ⟨2, true, []⟩, ⟨3, true, []⟩, ⟨4, true, []⟩, ⟨5, true, []⟩, ⟨6, true, []⟩, ⟨7, true, []⟩, ⟨8, true, []⟩, ⟨9, true, []⟩, ⟨10, true, []⟩, ⟨11, true, []⟩, ⟨12, true, []⟩, ⟨13, true, []⟩, ⟨15, true, []⟩, ⟨16, true, []⟩, ⟨17, true, []⟩, ⟨18, true, []⟩, ⟨14, false, [2, 6, 18]⟩, ⟨19, false, []⟩, ⟨20, true, []⟩, ⟨21, true, []⟩, ⟨22, true, []⟩, ⟨23, true, []⟩, ⟨24, true, []⟩] (by kernel_rfl) (by kernel_rfl) ?_
         have hmD00o3 := Mod.drew [] wf
         obtain ⟨x00o3, hx00o3⟩ : ∃ x, x = wf.drew := ⟨_, rfl⟩
         rw [← hx00o3] at hmD00o3 ⊢
         clear hx00o3
         have J00o3 := I3.ext hmD00o3
         have e000o3 := Blk.cell' J00o3.S (i := 0) rfl
         have e100o3 := Blk.cell' J00o3.S (i := 1) rfl
         have e200o3 := J00o3.H.cell' (i := 2) rfl
         iterate 18 (refine wpT_n rfl rfl (fun K hK => ?_); go_wp2_with fail)
         refine wpT_callh rfl rfl (fun K hK => ?_)
         go_wp2_with (go_at_call 39; (with_reducible refine (gSize_any a p f0 c z _ J00o3.A).mono ?_); rintro e w3 ⟨rfl, rfl⟩)
         refine ⟨agains_same, ?_⟩
         refine wpT_call rfl rfl (fun K hK => ?_)
         go_wp2_with (go_at_call 44; (with_reducible refine (RD00o3 _ J00o3.P J00o3.A).mono ?_); rintro e wr00o3 ⟨rv, rfl, ho00o3, hnw00o3, hP00o3, hm00o3⟩; obtain ⟨ao00o3, cap00o3, rfl, _, _⟩ := ho00o3.sl.form)
         have I00o3 := J00o3.rd hm00o3 hP00o3
         have hb00o3 := ho00o3.bs
         have k000o3 := I00o3.H.cell' (i := 0) rfl
         have k100o3 := I00o3.H.cell' (i := 1) rfl
         have k200o3 := I00o3.H.cell' (i := 2) rfl
         have k300o3 := I00o3.H.cell' (i := 3) rfl
         clear e000o3 e100o3 e200o3
         by_cases hE00o3 : E00o3 = 0
         · subst hE00o3
           iterate 5 (refine wpT_n rfl rfl (fun K hK => ?_); go_wp2_with fail)
           refine wpT_nil ?_
           have SU00o3 := fun w v h hT => sum_any B00o3 v w h hT
           obtain ⟨cs00o3, hcs00o3⟩ : ∃ x, x = crcS B00o3 := ⟨_, rfl⟩
           rw [← hcs00o3] at SU00o3
           go_wp2_with fail
           refine wp_region_T [⟨0, true, []⟩, ⟨2, true, []⟩, ⟨3, true, []⟩, ⟨4, true, []⟩, ⟨5, true, []⟩, ⟨1, false, [5]⟩, ⟨6, true, []⟩] (by kernel_rfl) (by kernel_rfl) ?_
           have hmE00o3 := Mod.drew [] wr00o3
           obtain ⟨y00o3, hy00o3⟩ : ∃ x, x = wr00o3.drew := ⟨_, rfl⟩
           rw [← hy00o3] at hmE00o3 ⊢
           clear hy00o3
           have Y00o3 := I00o3.ext hmE00o3
           have hby00o3 := hb00o3.ext hmE00o3
           have hoy00o3 := Ob.ext ho00o3 hmE00o3
           have u000o3 := Y00o3.H.cell' (i := 0) rfl
           have u100o3 := Y00o3.H.cell' (i := 1) rfl
           have u200o3 := Y00o3.H.cell' (i := 2) rfl
           have u300o3 := Y00o3.H.cell' (i := 3) rfl
           have hTy00o3 := Y00o3.T
           iterate 5 (refine wpT_n rfl rfl (fun K hK => ?_); go_wp2_with fail)
           refine wpT_callh rfl rfl (fun K hK => ?_)
           go_wp2_with (go_at_call 38; (with_reducible refine (SU00o3 _ _ hby00o3 hTy00o3).mono ?_); rintro e wz ⟨rfl, hwz⟩; obtain rfl := hwz)
           refine ⟨agains_same, ?_⟩
           by_cases hq00o3 : cs00o3 = s0
           · have dq00o3 : ((cs00o3 : Int) == (s0 : Int)) = true := by rw [hq00o3]; simp
             refine wpT_n rfl rfl (fun K hK => ?_)
             go_wp2_with fail
             refine wpT_nil ?_
             go_wp2_with (with_reducible refine st_store ?_)
             refine StopOp.go rfl fun K hK => ?_
             refine wp_store (u := .agg #[.int .u64 (g0 : Nat), .int .u64 (c0 : Nat), .int .i64 l0, .int .u32 (s0 : Nat)]) (by rfl) (by rfl) (by kernel_rfl) Y00o3.G (by simp [Value.cells]) (by simp [Value.cells, Value.oneCell']) ?_
             intro w90 hm90 hB90
             refine hK _ _ ?_
             clear hK K
             have z0 := hB90.cell' (i := 0) rfl
             have z1 := hB90.cell' (i := 1) rfl
             have z2 := hB90.cell' (i := 2) rfl
             have z3 := hB90.cell' (i := 3) rfl
             obtain ⟨hfp, hfm⟩ := Y00o3.fin hm90
             have hlaw : R0 = _ := hr.trans (bodG_y hg00o3 HH00o3.out.2.symm (hcs00o3 ▸ hq00o3))
             go_wp2_with fail
             refine bodyPost_ret (v := .tuple #[.agg #[.int .u64 (g0 : Nat), .int .u64 (c0 : Nat), .int .i64 l0, .int .u32 (s0 : Nat)], .slice ao00o3 B00o3.length cap00o3, .int .i64 0, .int .i64 0]) (by simp [results, Tryz.results12, go_sem, z0, z1, z2, z3]) rfl ?_
             rw [hlaw]
             exact ⟨_, rfl, Ow.mod hoy00o3 hm90 (fun k hk hh => by have e : k = g := (by simpa using hh); exact Ow.ne hoy00o3 Y00o3.G (by decide) (e ▸ hk)), fun k hk => Nat.le_trans J00o3.M.size (hnw00o3 k hk), hfp, hfm⟩
           · have dq00o3 : ((cs00o3 : Int) == (s0 : Int)) = false := beq_eq_false_iff_ne.2 (by omega)
             refine wpT_n rfl rfl (fun K hK => ?_)
             go_wp2_with fail
             refine wpT_nil ?_
             have hr00o3 := hr.trans (bodG_n hg00o3 HH00o3.out.2.symm (hcs00o3 ▸ hq00o3))
             clear ho00o3 hoy00o3 hb00o3 hby00o3 u000o3 u100o3 u200o3 u300o3 k000o3 k100o3 k200o3 k300o3 SU00o3 RD00o3
             have cg11 := Y00o3.H.cell' (i := 4) rfl
             by_cases hg11o5 : g1 = 0
             · have hr11o5 := hr00o3.trans (bodG_z hg11o5)
               have dz11o5 : ((g1 : Int) == 0) = true := by rw [hg11o5]; rfl
               have Hz1 := Lib.hid hg11o5
               clear hg11o5
               go_wp2_with (first
                             | (with_reducible refine st_store ?_)
                             | (with_reducible refine LoopN.step (fun _ _ => ?_))
                             | (with_reducible refine wp_loopN 2 (fun _ _ => ?_)))
               refine StopOp.go rfl fun K hK => ?_
               refine wp_store (u := .agg #[.int .u64 0, .int .u64 0, .int .i64 0, .int .u32 0]) (by rfl) (by rfl) (by kernel_rfl) Y00o3.G (by simp [Value.cells]) (by simp [Value.cells, Value.oneCell']) ?_
               intro w90 hm90 hB90
               refine hK _ _ ?_
               clear hK K
               have z0 := hB90.cell' (i := 0) rfl
               have z1 := hB90.cell' (i := 1) rfl
               have z2 := hB90.cell' (i := 2) rfl
               have z3 := hB90.cell' (i := 3) rfl
               obtain ⟨hfp, hfm⟩ := Y00o3.fin hm90
               have hlaw : R0 = _ := hr11o5
               go_wp2_with fail
               refine bodyPost_ret (v := .tuple #[.agg #[.int .u64 0, .int .u64 0, .int .i64 0, .int .u32 0], .slice none 0 0, .int .i64 (-1), .int .i64 0]) (by simp [results, Tryz.results12, go_sem, z0, z1, z2, z3]) rfl ?_
               rw [hlaw]
               exact ⟨_, rfl, Ob.nil _, by simp [New, blks], hfp, hfm⟩
             · have dz11o5 : ((g1 : Int) == 0) = false := by simpa using hg11o5
               have RD11o5 := fun w hP hR => gRead_any b p q f1 c z W00o3 L (z : Nat) l1 w hP hR (by rw [hmW00o3]; exact hz) (by rw [hmW00o3]; exact hf1) (by have := hnW00o3; omega) ⟨by omega, by omega⟩ hi1
               unfold GRdP at RD11o5
               have hlen11o5 := rdA_len f1 c z W00o3 z l1
               obtain ⟨hms11o5, hns11o5⟩ := rdA_sz f1 c z W00o3 z l1
               obtain ⟨⟨W11o5, E11o5, B11o5⟩, hR11o5⟩ : ∃ R, R = rdA f1 c z W00o3 z l1 := ⟨_, rfl⟩
               rw [← hR11o5] at RD11o5 hlen11o5 hms11o5 hns11o5
               dsimp only at RD11o5 hlen11o5 hms11o5 hns11o5
               have hmW11o5 : W11o5.m = v.m := hms11o5.trans hmW00o3
               have hnW11o5 : W11o5.n ≤ v.n + 4 * (c * z) := by have := hnW00o3; omega
               have HH11o5 := Lib.hid (And.intro hlen11o5 hR11o5)
               clear hms11o5 hns11o5 hlen11o5 hR11o5
               go_wp2_with (first
                             | (with_reducible refine LoopN.step (fun _ _ => ?_))
                             | (with_reducible refine wp_loopN 2 (fun _ _ => ?_)))
               refine wp_region_T [⟨0, true, []⟩, ⟨1, true, []⟩, ⟨2, true, []⟩, ⟨3, true, []⟩, ⟨4, true, []⟩, ⟨5, true, []⟩, ⟨6, true, []⟩, ⟨7, true, []⟩, ⟨8, true, []⟩, ⟨9, true, []⟩, ⟨10, true, []⟩, ⟨11, true, []⟩, ⟨12, true, []⟩, ⟨13, true, []⟩, ⟨15, true, []⟩, ⟨16, true, []⟩, ⟨17, true, []⟩, ⟨18, true, []⟩, ⟨14, false, [2, 6, 18]⟩, ⟨19, false, []⟩, ⟨20, true, []⟩, ⟨21, true, []⟩, ⟨22, true, []⟩, ⟨23, true, []⟩, ⟨24, true, []⟩] (by kernel_rfl) (by kernel_rfl) ?_
               have hmD11o5 := Mod.drew [] y00o3
               obtain ⟨x11o5, hx11o5⟩ : ∃ x, x = y00o3.drew := ⟨_, rfl⟩
               rw [← hx11o5] at hmD11o5 ⊢
               clear hx11o5
               have J11o5 := Y00o3.ext hmD11o5
               have e011o5 := Blk.cell' J11o5.S (i := 0) rfl
               have e111o5 := Blk.cell' J11o5.S (i := 1) rfl
               have e211o5 := J11o5.H.cell' (i := 6) rfl
               iterate 18 (refine wpT_n rfl rfl (fun K hK => ?_); go_wp2_with fail)
               refine wpT_callh rfl rfl (fun K hK => ?_)
               go_wp2_with (go_at_call 39; (with_reducible refine (gSize_any b p f1 c z _ J11o5.B).mono ?_); rintro e w3 ⟨rfl, rfl⟩)
               refine ⟨agains_same, ?_⟩
               refine wpT_call rfl rfl (fun K hK => ?_)
               go_wp2_with (go_at_call 44; (with_reducible refine (RD11o5 _ J11o5.P J11o5.B).mono ?_); rintro e wr11o5 ⟨rv, rfl, ho11o5, hnw11o5, hP11o5, hm11o5⟩; obtain ⟨ao11o5, cap11o5, rfl, _, _⟩ := ho11o5.sl.form)
               have I11o5 := J11o5.rd hm11o5 hP11o5
               have hb11o5 := ho11o5.bs
               have k011o5 := I11o5.H.cell' (i := 4) rfl
               have k111o5 := I11o5.H.cell' (i := 5) rfl
               have k211o5 := I11o5.H.cell' (i := 6) rfl
               have k311o5 := I11o5.H.cell' (i := 7) rfl
               clear e011o5 e111o5 e211o5
               by_cases hE11o5 : E11o5 = 0
               · subst hE11o5
                 iterate 5 (refine wpT_n rfl rfl (fun K hK => ?_); go_wp2_with fail)
                 refine wpT_nil ?_
                 have SU11o5 := fun w v h hT => sum_any B11o5 v w h hT
                 obtain ⟨cs11o5, hcs11o5⟩ : ∃ x, x = crcS B11o5 := ⟨_, rfl⟩
                 rw [← hcs11o5] at SU11o5
                 go_wp2_with fail
                 refine wp_region_T [⟨0, true, []⟩, ⟨2, true, []⟩, ⟨3, true, []⟩, ⟨4, true, []⟩, ⟨5, true, []⟩, ⟨1, false, [5]⟩, ⟨6, true, []⟩] (by kernel_rfl) (by kernel_rfl) ?_
                 have hmE11o5 := Mod.drew [] wr11o5
                 obtain ⟨y11o5, hy11o5⟩ : ∃ x, x = wr11o5.drew := ⟨_, rfl⟩
                 rw [← hy11o5] at hmE11o5 ⊢
                 clear hy11o5
                 have Y11o5 := I11o5.ext hmE11o5
                 have hby11o5 := hb11o5.ext hmE11o5
                 have hoy11o5 := Ob.ext ho11o5 hmE11o5
                 have u011o5 := Y11o5.H.cell' (i := 4) rfl
                 have u111o5 := Y11o5.H.cell' (i := 5) rfl
                 have u211o5 := Y11o5.H.cell' (i := 6) rfl
                 have u311o5 := Y11o5.H.cell' (i := 7) rfl
                 have hTy11o5 := Y11o5.T
                 iterate 5 (refine wpT_n rfl rfl (fun K hK => ?_); go_wp2_with fail)
                 refine wpT_callh rfl rfl (fun K hK => ?_)
                 go_wp2_with (go_at_call 38; (with_reducible refine (SU11o5 _ _ hby11o5 hTy11o5).mono ?_); rintro e wz ⟨rfl, hwz⟩; obtain rfl := hwz)
                 refine ⟨agains_same, ?_⟩
                 by_cases hq11o5 : cs11o5 = s1
                 · have dq11o5 : ((cs11o5 : Int) == (s1 : Int)) = true := by rw [hq11o5]; simp
                   refine wpT_n rfl rfl (fun K hK => ?_)
                   go_wp2_with fail
                   refine wpT_nil ?_
                   go_wp2_with (with_reducible refine st_store ?_)
                   refine StopOp.go rfl fun K hK => ?_
                   refine wp_store (u := .agg #[.int .u64 (g1 : Nat), .int .u64 (c1 : Nat), .int .i64 l1, .int .u32 (s1 : Nat)]) (by rfl) (by rfl) (by kernel_rfl) Y11o5.G (by simp [Value.cells]) (by simp [Value.cells, Value.oneCell']) ?_
                   intro w90 hm90 hB90
                   refine hK _ _ ?_
                   clear hK K
                   have z0 := hB90.cell' (i := 0) rfl
                   have z1 := hB90.cell' (i := 1) rfl
                   have z2 := hB90.cell' (i := 2) rfl
                   have z3 := hB90.cell' (i := 3) rfl
                   obtain ⟨hfp, hfm⟩ := Y11o5.fin hm90
                   have hlaw : R0 = _ := hr00o3.trans (bodG_y hg11o5 HH11o5.out.2.symm (hcs11o5 ▸ hq11o5))
                   go_wp2_with fail
                   refine bodyPost_ret (v := .tuple #[.agg #[.int .u64 (g1 : Nat), .int .u64 (c1 : Nat), .int .i64 l1, .int .u32 (s1 : Nat)], .slice ao11o5 B11o5.length cap11o5, .int .i64 1, .int .i64 0]) (by simp [results, Tryz.results12, go_sem, z0, z1, z2, z3]) rfl ?_
                   rw [hlaw]
                   exact ⟨_, rfl, Ow.mod hoy11o5 hm90 (fun k hk hh => by have e : k = g := (by simpa using hh); exact Ow.ne hoy11o5 Y11o5.G (by decide) (e ▸ hk)), fun k hk => Nat.le_trans J11o5.M.size (hnw11o5 k hk), hfp, hfm⟩
                 · have dq11o5 : ((cs11o5 : Int) == (s1 : Int)) = false := beq_eq_false_iff_ne.2 (by omega)
                   refine wpT_n rfl rfl (fun K hK => ?_)
                   go_wp2_with fail
                   refine wpT_nil ?_
                   have hr11o5 := hr00o3.trans (bodG_n hg11o5 HH11o5.out.2.symm (hcs11o5 ▸ hq11o5))
                   clear ho11o5 hoy11o5 hb11o5 hby11o5 u011o5 u111o5 u211o5 u311o5 k011o5 k111o5 k211o5 k311o5 SU11o5 RD11o5
                   go_wp2_with (first
                                 | (with_reducible refine st_store ?_)
                                 | (with_reducible refine LoopN.step (fun _ _ => ?_))
                                 | (with_reducible refine wp_loopN 2 (fun _ _ => ?_)))
                   refine StopOp.go rfl fun K hK => ?_
                   refine wp_store (u := .agg #[.int .u64 0, .int .u64 0, .int .i64 0, .int .u32 0]) (by rfl) (by rfl) (by kernel_rfl) Y11o5.G (by simp [Value.cells]) (by simp [Value.cells, Value.oneCell']) ?_
                   intro w90 hm90 hB90
                   refine hK _ _ ?_
                   clear hK K
                   have z0 := hB90.cell' (i := 0) rfl
                   have z1 := hB90.cell' (i := 1) rfl
                   have z2 := hB90.cell' (i := 2) rfl
                   have z3 := hB90.cell' (i := 3) rfl
                   obtain ⟨hfp, hfm⟩ := Y11o5.fin hm90
                   have hlaw : R0 = _ := hr11o5
                   go_wp2_with fail
                   refine bodyPost_ret (v := .tuple #[.agg #[.int .u64 0, .int .u64 0, .int .i64 0, .int .u32 0], .slice none 0 0, .int .i64 (-1), .int .i64 0]) (by simp [results, Tryz.results12, go_sem, z0, z1, z2, z3]) rfl ?_
                   rw [hlaw]
                   exact ⟨_, rfl, Ob.nil _, by simp [New, blks], hfp, hfm⟩
               · have dE11o5 : (E11o5 != 0) = true := bne_iff_ne.2 hE11o5
                 iterate 5 (refine wpT_n rfl rfl (fun K hK => ?_); go_wp2_with fail)
                 refine wpT_nil ?_
                 go_wp2_with (with_reducible refine st_store ?_)
                 refine StopOp.go rfl fun K hK => ?_
                 refine wp_store (u := .agg #[.int .u64 0, .int .u64 0, .int .i64 0, .int .u32 0]) (by rfl) (by rfl) (by kernel_rfl) I11o5.G (by simp [Value.cells]) (by simp [Value.cells, Value.oneCell']) ?_
                 intro w90 hm90 hB90
                 refine hK _ _ ?_
                 clear hK K
                 have z0 := hB90.cell' (i := 0) rfl
                 have z1 := hB90.cell' (i := 1) rfl
                 have z2 := hB90.cell' (i := 2) rfl
                 have z3 := hB90.cell' (i := 3) rfl
                 obtain ⟨hfp, hfm⟩ := I11o5.fin hm90
                 have hlaw : R0 = _ := hr00o3.trans (bodG_e hg11o5 HH11o5.out.2.symm hE11o5)
                 go_wp2_with fail
                 refine bodyPost_ret (v := .tuple #[.agg #[.int .u64 0, .int .u64 0, .int .i64 0, .int .u32 0], .slice none 0 0, .int .i64 0, .int .i64 E11o5]) (by simp [results, Tryz.results12, go_sem, z0, z1, z2, z3]) rfl ?_
                 rw [hlaw]
                 exact ⟨_, rfl, Ob.nil _, by simp [New, blks], hfp, hfm⟩
         · have dE00o3 : (E00o3 != 0) = true := bne_iff_ne.2 hE00o3
           iterate 5 (refine wpT_n rfl rfl (fun K hK => ?_); go_wp2_with fail)
           refine wpT_nil ?_
           go_wp2_with (with_reducible refine st_store ?_)
           refine StopOp.go rfl fun K hK => ?_
           refine wp_store (u := .agg #[.int .u64 0, .int .u64 0, .int .i64 0, .int .u32 0]) (by rfl) (by rfl) (by kernel_rfl) I00o3.G (by simp [Value.cells]) (by simp [Value.cells, Value.oneCell']) ?_
           intro w90 hm90 hB90
           refine hK _ _ ?_
           clear hK K
           have z0 := hB90.cell' (i := 0) rfl
           have z1 := hB90.cell' (i := 1) rfl
           have z2 := hB90.cell' (i := 2) rfl
           have z3 := hB90.cell' (i := 3) rfl
           obtain ⟨hfp, hfm⟩ := I00o3.fin hm90
           have hlaw : R0 = _ := hr.trans (bodG_e hg00o3 HH00o3.out.2.symm hE00o3)
           go_wp2_with fail
           refine bodyPost_ret (v := .tuple #[.agg #[.int .u64 0, .int .u64 0, .int .i64 0, .int .u32 0], .slice none 0 0, .int .i64 0, .int .i64 E00o3]) (by simp [results, Tryz.results12, go_sem, z0, z1, z2, z3]) rfl ?_
           rw [hlaw]
           exact ⟨_, rfl, Ob.nil _, by simp [New, blks], hfp, hfm⟩
   · have dE1 : (E1 != 0) = true := bne_iff_ne.2 hE1
     go_wp2_with (with_reducible refine st_store ?_)
     refine StopOp.go rfl fun K hK => ?_
     refine wp_store (u := .agg #[.int .u64 0, .int .u64 0, .int .i64 0, .int .u32 0]) (by rfl) (by rfl) (by kernel_rfl) I2.G (by simp [Value.cells]) (by simp [Value.cells, Value.oneCell']) ?_
     intro w90 hm90 hB90
     refine hK _ _ ?_
     clear hK K
     have z0 := hB90.cell' (i := 0) rfl
     have z1 := hB90.cell' (i := 1) rfl
     have z2 := hB90.cell' (i := 2) rfl
     have z3 := hB90.cell' (i := 3) rfl
     obtain ⟨hfp, hfm⟩ := I2.fin hm90
     have hlaw : R0 = _ := (by have h := HRR.out; (try simp only [if_true, reduceIte] at h); exact h.trans (if_neg hE1))
     go_wp2_with fail
     refine bodyPost_ret (v := .tuple #[.agg #[.int .u64 0, .int .u64 0, .int .i64 0, .int .u32 0], .slice none 0 0, .int .i64 0, .int .i64 E1]) (by simp [results, Tryz.results12, go_sem, z0, z1, z2, z3]) rfl ?_
     rw [hlaw]
     exact ⟨_, rfl, Ob.nil _, by simp [New, blks], hfp, hfm⟩
 · have dE0 : (E0 != 0) = true := bne_iff_ne.2 hE0
   go_wp2_with (with_reducible refine st_store ?_)
   refine StopOp.go rfl fun K hK => ?_
   refine wp_store (u := .agg #[.int .u64 0, .int .u64 0, .int .i64 0, .int .u32 0]) (by rfl) (by rfl) (by kernel_rfl) I1.G (by simp [Value.cells]) (by simp [Value.cells, Value.oneCell']) ?_
   intro w90 hm90 hB90
   refine hK _ _ ?_
   clear hK K
   have z0 := hB90.cell' (i := 0) rfl
   have z1 := hB90.cell' (i := 1) rfl
   have z2 := hB90.cell' (i := 2) rfl
   have z3 := hB90.cell' (i := 3) rfl
   obtain ⟨hfp, hfm⟩ := I1.fin hm90
   have hlaw : R0 = _ := HRR.out.trans (if_neg hE0)
   go_wp2_with fail
   refine bodyPost_ret (v := .tuple #[.agg #[.int .u64 0, .int .u64 0, .int .i64 0, .int .u32 0], .slice none 0 0, .int .i64 0, .int .i64 E0]) (by simp [results, Tryz.results12, go_sem, z0, z1, z2, z3]) rfl ?_
   rw [hlaw]
   exact ⟨_, rfl, Ob.nil _, by simp [New, blks], hfp, hfm⟩
end Go.Proofs.YtminfegoldgjpaaGreatDoor
