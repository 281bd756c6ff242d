import Derived.Test.YtminfegoldgjpaaGreatDoorSyA
import Derived.Test.YtminfegoldgjpaaGreatDoorLpN
set_option linter.unusedVariables false
set_option linter.unusedSimpArgs false
set_option maxRecDepth 100000
namespace Go.Proofs.YtminfegoldgjpaaGreatDoor
open Go.RowKit Gw
structure Sq (W w : World) (p q : Nat) (V : Pv) (L : List Nat) (Os : List (Nat × TypeId × List Value)) : Prop where
 P : Pr w p q V L
 M : Mod [p] W w
 O : ∀ x ∈ Os, W.heap.size ≤ x.1 ∧ x.1 ≠ p ∧ Blk w x.1 x.2.1 x.2.2
 nd : (Os.map (·.1)).Nodup
 lt : ∀ k ∈ p :: L, k < W.heap.size
section
variable {W w w' : World} {p q : Nat} {V V' : Pv} {L : List Nat} {O O2 : List (Nat × TypeId × List Value)} {g i : Nat} {t : TypeId} {cs cs' : List Value}
theorem Sq.start (h : Pr W p q V L) : Sq W W p q V L [] := ⟨h, Mod.refl _ _, fun _ h => (List.not_mem_nil h).elim, List.nodup_nil, h.lt1⟩
theorem Sq.ext (h : Sq W w p q V L O) (hm : Mod [] w w') : Sq W w' p q V L O :=
 ⟨h.P.ext hm, h.M.ext hm, fun o ho => ⟨(h.O o ho).1, (h.O o ho).2.1, (h.O o ho).2.2.ext hm⟩, h.nd, h.lt⟩
theorem Sq.new (h : Sq W w p q V L O) (hm : Mod [] w w') (h1 : w.heap.size ≤ g) (hB : Blk w' g t cs) : Sq W w' p q V L ((g, t, cs) :: O) := by
 have h3 := h.ext hm
 refine ⟨h3.P, h3.M, fun o ho => ?_, ?_, h.lt⟩
 · rcases List.mem_cons.1 ho with e | e
   · subst e
     exact ⟨Nat.le_trans h.M.size h1, fun hh => by have := h.P.b.lt; omega, hB⟩
   · exact h3.O o e
 · rw [List.map_cons]
   refine List.nodup_cons.2 ⟨fun hh => ?_, h.nd⟩
   obtain ⟨x, hx, e⟩ := List.mem_map.1 hh
   have := (h.O x hx).2.2.lt
   dsimp only at e
   omega
theorem Sq.set (h : Sq W w p q V L O) (hi : O[i]? = some (g, t, cs)) (hm : Mod [g] w w') (hB : Blk w' g t cs') (hO : O.set i (g, t, cs') = O2) : Sq W w' p q V L O2 := by
 subst hO
 have hg := h.O _ (List.mem_of_getElem? hi)
 refine ⟨h.P.keep1 hm (fun k hk hh => ?_), h.M.then hm (fun k hk => ?_), fun x hx => ?_, ?_, h.lt⟩
 · have e : k = g := by simpa using hh
   have := h.lt k hk
   have := hg.1
   omega
 · have e : k = g := by simpa using hk
   exact .inr (e ▸ hg.1)
 · obtain ⟨k, hk⟩ := List.mem_iff_getElem?.1 hx
   rw [List.getElem?_set] at hk
   by_cases hik : i = k
   · rw [if_pos hik] at hk
     split at hk
     · cases hk
       exact ⟨hg.1, hg.2.1, hB⟩
     · cases hk
   · rw [if_neg hik] at hk
     have hx2 := h.O x (List.mem_of_getElem? hk)
     refine ⟨hx2.1, hx2.2.1, hx2.2.2.mod hm (fun hh => hik ?_)⟩
     have e : x.1 = g := by simpa using hh
     exact nodup_at h.nd (show (O.map (·.1))[i]? = some g by rw [List.getElem?_map, hi]; rfl) (show (O.map (·.1))[k]? = some g by rw [List.getElem?_map, hk]; exact congrArg some e)
 · have e : ((O.set i (g, t, cs')).map (·.1)) = O.map (·.1) := by
     rw [List.map_set]
     exact set_same (show (O.map (·.1))[i]? = some g by rw [List.getElem?_map, hi]; rfl)
   rw [e]
   exact h.nd
theorem Sq.blk (h : Sq W w p q V L O) (i : Nat) (hi : O[i]? = some (g, t, cs)) : Blk w g t cs := (h.O _ (List.mem_of_getElem? hi)).2.2
theorem Sq.rd (h : Sq W w p q V L O) (hm : Mod [p] w w') (hP : Pr w' p q V' L) : Sq W w' p q V' L O :=
 ⟨hP, h.M.trans hm, fun o ho => ⟨(h.O o ho).1, (h.O o ho).2.1, (h.O o ho).2.2.mod hm (by simpa using (h.O o ho).2.1)⟩, h.nd, h.lt⟩
end
theorem fitH_yes {lim : Int} {b : List UInt8} (h : fitH lim b = true) : seeH lim b = getH b ∧ (getH b).g ≠ 0 := by
 have h2 := of_decide_eq_true h
 have e : seeH lim b = getH b := if_pos h2
 refine ⟨e, ?_⟩
 rcases seeH_or lim b with h3 | ⟨h3, _⟩
 · exfalso
   have he := h2.1
   have hg : getH b = parH b := if_pos he
   rw [e] at h3
   have hm : mayH (getH b) = true := by
     rw [hg]
     unfold errH at he
     split at he
     · exact absurd he (by decide)
     · split at he
       · split at he
         · assumption
         · exact absurd he (by decide)
       · exact absurd he (by decide)
   rw [h3] at hm
   exact absurd hm (by decide)
 · rw [e] at h3
   have := (of_decide_eq_true h3).1
   omega
theorem fitH_no {lim : Int} {b : List UInt8} (h : fitH lim b = false) : seeH lim b = hd0 := if_neg (of_decide_eq_false h)
theorem stHD : ST Tryz.prog 136 25 (.agg #[.int .u64 0, .int .u64 0, .int .i64 0, .int .u32 0]) 4 32 := ⟨Tryz.underlying136, by kernel_rfl, rfl, by decide⟩
theorem stBO : ST Tryz.prog 137 4 (.bool false) 1 1 := ⟨Tryz.underlying137, by kernel_rfl, rfl, by decide⟩
def SLdR (w : World) (P Q : Nat) (M : List Nat) (R : Ld5) (e : Ending) (w' : World) : Prop := ∃ bw, e = .returned (.tuple #[R.h.v, bw, .int .i64 R.i, .int .i64 R.e]) ∧ Ob w' bw R.b ∧ New w bw ∧ Pr w' P Q R.v M ∧ Mod [P] w w'
set_option maxRecDepth 1000000 in
set_option maxHeartbeats 40000000 in
theorem rload_any (r h k P Q f0 f1 c z : Nat) (u : Pv) (M : List Nat) (w : World) (hS : Slr w r h k) (hP : Pr w P Q u M) (hA : Rgr w h P f0 c) (hB : Rgr w k P f1 c) (hz : u.m.sz = z) (hf0 : f0 + c ≤ u.m.dur.length) (hf1 : f1 + c ≤ u.m.dur.length) (hn : u.n + 4 * (c * z) ≤ 1000000) (hrP : r ≠ P) (hhP : h ≠ P) (hkP : k ≠ P) :
   Calls Tryz.prog 21 #[.pointer (some ⟨r, 0, none⟩)] w (SLdR w P Q M (loadG f0 f1 c z u)) := by
 have hrP' : r ∉ [P] := by simpa using hrP
 have hhP' : h ∉ [P] := by simpa using hhP
 have hkP' : k ∉ [P] := by simpa using hkP
 have HD0 := fun w hS hA hP => rhead_any r h k h P Q f0 f0 c z 0 u M w (rslot0 r h k) hS hA hA hP hz hf0 (by omega) hrP hhP
 unfold HheadP at HD0
 unfold SLdR
 obtain ⟨hm0', hn0'⟩ := rdA_sz f0 c z u 0 z
 have e0 : headG f0 c z u = if (rdA f0 c z u 0 z).2.1 = 0 then ((rdA f0 c z u 0 z).1, 0, seeH ((c : Int) * z - z) (rdA f0 c z u 0 z).2.2) else ((rdA f0 c z u 0 z).1, (rdA f0 c z u 0 z).2.1, hd0) := rfl
 obtain ⟨⟨V0, E0, B0⟩, hRa⟩ : ∃ R, R = rdA f0 c z u 0 z := ⟨_, rfl⟩
 rw [← hRa] at HD0 hm0' hn0' e0
 dsimp only at HD0 hm0' hn0' e0
 have HD1 := fun w hS hB hA hP => rhead_any r h k k P Q f0 f1 c z 1 V0 M w (rslot1 r h k) hS hA hB hP (by rw [hm0']; exact hz) (by rw [hm0']; exact hf1) (by omega) hrP hhP
 unfold HheadP at HD1
 obtain ⟨hm1', hn1'⟩ := rdA_sz f1 c z V0 0 z
 have e1 : headG f1 c z V0 = if (rdA f1 c z V0 0 z).2.1 = 0 then ((rdA f1 c z V0 0 z).1, 0, seeH ((c : Int) * z - z) (rdA f1 c z V0 0 z).2.2) else ((rdA f1 c z V0 0 z).1, (rdA f1 c z V0 0 z).2.1, hd0) := rfl
 obtain ⟨⟨V1, E1, B1⟩, hRb⟩ : ∃ R, R = rdA f1 c z V0 0 z := ⟨_, rfl⟩
 rw [← hRb] at HD1 hm1' hn1' e1
 dsimp only at HD1 hm1' hn1' e1
 have hmV1 : V1.m = u.m := hm1'.trans hm0'
 have hnV1 : V1.n ≤ u.n + 2 * (c * z) := by omega
 have hLG : loadG f0 f1 c z u = if (headG f0 c z u).2.1 = 0 then
   if (headG f1 c z (headG f0 c z u).1).2.1 = 0 then
     if (headG f0 c z u).2.2.g < (headG f1 c z (headG f0 c z u).1).2.2.g then
       bodG c z (headG f1 c z (headG f0 c z u).1).1 [(f1, 1, (headG f1 c z (headG f0 c z u).1).2.2), (f0, 0, (headG f0 c z u).2.2)]
     else bodG c z (headG f1 c z (headG f0 c z u).1).1 [(f0, 0, (headG f0 c z u).2.2), (f1, 1, (headG f1 c z (headG f0 c z u).1).2.2)]
   else ⟨(headG f1 c z (headG f0 c z u).1).1, (headG f1 c z (headG f0 c z u).1).2.1, hd0, [], 0⟩
 else ⟨(headG f0 c z u).1, (headG f0 c z u).2.1, hd0, [], 0⟩ := rfl
 obtain ⟨R0, hR0⟩ : ∃ R, R = loadG f0 f1 c z u := ⟨_, rfl⟩
 rw [← hR0]
 have SQ0 := Sq.start hP
 obtain ⟨lim, hlim⟩ : ∃ l, l = (c : Int) * z - z := ⟨_, rfl⟩
 rw [← hlim] at HD0 HD1 e0 e1
 clear hRa hRb hlim hm0' hn0' hm1' hn1'
 by_cases hE0 : E0 = 0
 · subst hE0
   have hf0w := fitH_yes (lim := lim) (b := B0)
   have hf0n := fitH_no (lim := lim) (b := B0)
   have hw0 := getH_wf B0
   obtain ⟨fit0, hfit0⟩ : ∃ b, b = fitH lim B0 := ⟨_, rfl⟩
   have HN0 : ∀ w, Slr w r h k → Rgr w h P f0 c → Pr w P Q u M → Calls Tryz.prog 72 #[.pointer (some ⟨r, 0, none⟩), .int .i64 0] w fun e w' => e = .returned (.tuple #[(getH B0).v, .bool fit0, .int .i64 0]) ∧ Pr w' P Q V0 M ∧ Mod [P] w w' := fun w a b c => (HD0 w a b c).mono fun e w' hh => by
     obtain ⟨h1 | h1, h2⟩ := hh
     · exact absurd rfl h1.1
     · rw [hfit0]; exact ⟨h1.2, h2⟩
   rw [if_pos rfl] at e0
   rw [e0, if_pos rfl] at hLG
   dsimp only at hLG
   obtain ⟨X0, hX0⟩ : ∃ X, X = getH B0 := ⟨_, rfl⟩
   rw [← hX0] at HN0 hf0w hw0
   rw [← hfit0] at hf0w hf0n
   obtain ⟨Y0, hY0⟩ : ∃ X, X = seeH lim B0 := ⟨_, rfl⟩
   rw [← hY0] at hf0w hf0n hLG
   clear hX0 hY0 hfit0 e0
   obtain ⟨g0, c0, l0, s0⟩ := X0
   obtain ⟨a1, a2, a3, a4⟩ := hw0
   have hi0 : i64 l0 := a4
   have yg0 : (g0 : Int) ≤ 18446744073709551615 := by dsimp only at a1; omega
   clear a1 a2 a3 a4
   by_cases hE1 : E1 = 0
   · subst hE1
     have hf1w := fitH_yes (lim := lim) (b := B1)
     have hf1n := fitH_no (lim := lim) (b := B1)
     have hw1 := getH_wf B1
     obtain ⟨fit1, hfit1⟩ : ∃ b, b = fitH lim B1 := ⟨_, rfl⟩
     have HN1 : ∀ w, Slr w r h k → Rgr w k P f1 c → Rgr w h P f0 c → Pr w P Q V0 M → Calls Tryz.prog 72 #[.pointer (some ⟨r, 0, none⟩), .int .i64 1] w fun e w' => e = .returned (.tuple #[(getH B1).v, .bool fit1, .int .i64 0]) ∧ Pr w' P Q V1 M ∧ Mod [P] w w' := fun w a b c d => (HD1 w a b c d).mono fun e w' hh => by
       obtain ⟨h1 | h1, h2⟩ := hh
       · exact absurd rfl h1.1
       · rw [hfit1]; exact ⟨h1.2, h2⟩
     rw [if_pos rfl] at e1
     rw [e1, if_pos rfl] at hLG
     dsimp only at hLG
     obtain ⟨X1, hX1⟩ : ∃ X, X = getH B1 := ⟨_, rfl⟩
     rw [← hX1] at HN1 hf1w hw1
     rw [← hfit1] at hf1w hf1n
     obtain ⟨Y1, hY1⟩ : ∃ X, X = seeH lim B1 := ⟨_, rfl⟩
     rw [← hY1] at hf1w hf1n hLG
     clear hX1 hY1 hfit1 e1
     obtain ⟨g1, c1, l1, s1⟩ := X1
     obtain ⟨a1, a2, a3, a4⟩ := hw1
     have hi1 : i64 l1 := a4
     have yg1 : (g1 : Int) ≤ 18446744073709551615 := by dsimp only at a1; omega
     clear a1 a2 a3 a4
     unfold Hd.v at HN0 HN1
     dsimp only at HN0 HN1
     clear HD0 HD1
     have HRR := Lib.hid (hR0.trans hLG)
     have HF := Lib.hid (And.intro hf0w (And.intro hf0n (And.intro hf1w hf1n)))
     clear hLG hR0 hf0w hf0n hf1w hf1n
     have hrr := HRR.out
     cases fit0 with
     | false =>
       have y0 := HF.out.2.1 rfl
       subst y0
       cases fit1 with
       | false =>
         have y1 := HF.out.2.2.2 rfl
         subst y1
         have hr : R0 = bodG c z V1 [(f0, 0, hd0), (f1, 1, hd0)] := hrr.trans (if_neg (by decide))
         clear hrr HF HRR
         go_enter Tryz.func21, Tryz.ntmps21
         go_wp2_with (with_reducible refine st_alloc ?_)
         refine StopOp.go rfl fun K hK => ?_
         refine wp_alloc zero_header ?_
         intro g w1 hga hgb hm1 hG1
         simp only [put_some, List.set_cons_succ, List.set_cons_zero]
         refine hK _ _ ?_
         clear hK K
         have S1 := SQ0.new (cs := [.int .u64 0, .int .u64 0, .int .i64 0, .int .u32 0]) hm1 hga hG1
         go_wp2_with (with_reducible refine st_alloc ?_)
         refine StopOp.go rfl fun K hK => ?_
         refine wp_alloc zero_header ?_
         intro t6 w2 h61 h62 hm2 hG2
         simp only [put_some, List.set_cons_succ, List.set_cons_zero]
         refine hK _ _ ?_
         clear hK K
         go_wp2_with (with_reducible refine st_store ?_)
         refine StopOp.go rfl fun K hK => ?_
         refine wp_store (u := .agg #[.int .u64 0, .int .u64 0, .int .i64 0, .int .u32 0]) (by rfl) (by rfl) (by kernel_rfl) hG2 (by simp [Value.cells]) (by simp [Value.cells, Value.oneCell']) ?_
         intro w3 hm3 hG3
         refine hK _ _ ?_
         clear hK K
         have S3 := (S1.new (cs := [.int .u64 0, .int .u64 0, .int .i64 0, .int .u32 0]) hm2 h61 hG2).set (i := 0) (cs' := [.int .u64 0, .int .u64 0, .int .i64 0, .int .u32 0]) rfl hm3 hG3 rfl
         clear hG1 hG2 hG3 hm1 hm2 hm3 S1
         go_wp2_with (first
                       | (with_reducible refine st_alloc ?_)
                       | (go_at_call 72; (with_reducible refine (HN0 _ (hS.mod S3.M hrP') (hA.mod S3.M hhP') S3.P).mono ?_); rintro e w4 ⟨rfl, hP4, hm4⟩))
         have S4 := S3.rd hm4 hP4
         refine StopOp.go rfl fun K hK => ?_
         refine wp_alloc zero_header ?_
         intro t7 w5 h51 h52 hm5 hB5
         simp only [put_some, List.set_cons_succ, List.set_cons_zero]
         refine hK _ _ ?_
         clear hK K
         go_wp2_with (with_reducible refine st_store ?_)
         refine StopOp.go rfl fun K hK => ?_
         refine wp_store (u := .agg #[.int .u64 (g0 : Nat), .int .u64 (c0 : Nat), .int .i64 l0, .int .u32 (s0 : Nat)]) (by rfl) (by rfl) (by kernel_rfl) hB5 (by simp [Value.cells]) (by simp [Value.cells, Value.oneCell']) ?_
         intro w6 hm6 hB6
         refine hK _ _ ?_
         clear hK K
         have S7 := (S4.new (cs := [.int .u64 0, .int .u64 0, .int .i64 0, .int .u32 0]) hm5 h51 hB5).set (i := 0) (cs' := [.int .u64 (g0 : Nat), .int .u64 (c0 : Nat), .int .i64 l0, .int .u32 (s0 : Nat)]) rfl hm6 hB6 rfl
         clear hB5 hB6 hm5 hm6 S4 S3 hm4 hP4
         go_wp2_with (first
                       | (with_reducible refine st_alloc ?_)
                       | (go_at_call 72; (with_reducible refine (HN1 _ (hS.mod S7.M hrP') (hB.mod S7.M hkP') (hA.mod S7.M hhP') S7.P).mono ?_); rintro e w8 ⟨rfl, hP8, hm8⟩))
         have S8 := S7.rd hm8 hP8
         refine StopOp.go rfl fun K hK => ?_
         refine wp_alloc zero_header ?_
         intro t10 w9 h91 h92 hm9 hB9
         simp only [put_some, List.set_cons_succ, List.set_cons_zero]
         refine hK _ _ ?_
         clear hK K
         go_wp2_with (with_reducible refine st_store ?_)
         refine StopOp.go rfl fun K hK => ?_
         refine wp_store (u := .agg #[.int .u64 (g1 : Nat), .int .u64 (c1 : Nat), .int .i64 l1, .int .u32 (s1 : Nat)]) (by rfl) (by rfl) (by kernel_rfl) hB9 (by simp [Value.cells]) (by simp [Value.cells, Value.oneCell']) ?_
         intro w10 hm10 hB10
         refine hK _ _ ?_
         clear hK K
         have S10 := (S8.new hm9 h91 hB9).set (i := 0) (cs' := [.int .u64 (g1 : Nat), .int .u64 (c1 : Nat), .int .i64 l1, .int .u32 (s1 : Nat)]) rfl hm10 hB10 rfl
         clear hB9 hB10 hm9 hm10 S8 hm8 hP8 S7
         have e00 := (S10.blk 0 rfl).cell' (i := 0) rfl
         have e01 := (S10.blk 0 rfl).cell' (i := 1) rfl
         have e02 := (S10.blk 0 rfl).cell' (i := 2) rfl
         have e03 := (S10.blk 0 rfl).cell' (i := 3) rfl
         have e10 := (S10.blk 1 rfl).cell' (i := 0) rfl
         have e11 := (S10.blk 1 rfl).cell' (i := 1) rfl
         have e12 := (S10.blk 1 rfl).cell' (i := 2) rfl
         have e13 := (S10.blk 1 rfl).cell' (i := 3) rfl
         go_wp2_with (with_reducible refine st_bslice ?_)
         refine StopOp.go rfl fun K hK => ?_
         refine wp_bslice stHD [.agg #[.int .u64 (g0 : Nat), .int .u64 (c0 : Nat), .int .i64 l0, .int .u32 (s0 : Nat)], .agg #[.int .u64 (g1 : Nat), .int .u64 (c1 : Nat), .int .i64 l1, .int .u32 (s1 : Nat)]] rfl (by decide) (by rfl) (by simp [Value.cells]) ?_
         intro hb w11 hb1 hb2 hm11 hB11
         simp only [put_some, List.set_cons_succ, List.set_cons_zero]
         refine hK _ _ ?_
         clear hK K
         have hB11' : Blk w11 hb 25 [.int .u64 (g0 : Nat), .int .u64 (c0 : Nat), .int .i64 l0, .int .u32 (s0 : Nat), .int .u64 (g1 : Nat), .int .u64 (c1 : Nat), .int .i64 l1, .int .u32 (s1 : Nat)] := hB11
         have S11 := S10.new hm11 hb1 hB11'
         go_wp2_with (with_reducible refine st_bslice ?_)
         refine StopOp.go rfl fun K hK => ?_
         refine wp_bslice stBO [.bool false, .bool false] rfl (by decide) (by rfl) (by simp [Value.cells]) ?_
         intro fb w12 fb1 fb2 hm12 hB12
         simp only [put_some, List.set_cons_succ, List.set_cons_zero]
         refine hK _ _ ?_
         clear hK K
         have hB12' : Blk w12 fb 4 [.bool false, .bool false] := hB12
         have S12 := S11.new hm12 fb1 hB12'
         clear hB11 hB12 hB11' hB12' hm11 hm12 S11 e00 e01 e02 e03 e10 e11 e12 e13
         have v0 := (S12.blk 0 rfl).cell' (i := 0) rfl
         have v1 := (S12.blk 0 rfl).cell' (i := 1) rfl
         have o0 := (S12.blk 2 rfl).cell' (i := 0) rfl
         have o1 := (S12.blk 3 rfl).cell' (i := 0) rfl
         have zz00 := (S12.blk 4 rfl).cell' (i := 0) rfl
         have zz01 := (S12.blk 4 rfl).cell' (i := 1) rfl
         have zz02 := (S12.blk 4 rfl).cell' (i := 2) rfl
         have zz03 := (S12.blk 4 rfl).cell' (i := 3) rfl
         go_wp2_with (first
                       | (with_reducible refine st_store ?_)
                       | (with_reducible refine LoopN.step (fun _ _ => ?_))
                       | (with_reducible refine wp_loopN 2 (fun _ _ => ?_)))
         refine StopOp.go rfl fun K hK => ?_
         refine wp_store (u := .agg #[.int .u64 0, .int .u64 0, .int .i64 0, .int .u32 0]) (by rfl) (by rfl) (by kernel_rfl) (S12.blk 5 rfl) (by simp [Value.cells]) (by simp [Value.cells, Value.oneCell']) ?_
         intro w90 hm90 hB90
         refine hK _ _ ?_
         clear hK K
         have z0 := hB90.cell' (i := 0) rfl
         have z1 := hB90.cell' (i := 1) rfl
         have z2 := hB90.cell' (i := 2) rfl
         have z3 := hB90.cell' (i := 3) rfl
         have hfin := S12.set (i := 5) rfl hm90 hB90 rfl
         have hlaw : R0 = _ := ((hr.trans (bodG_z rfl)).trans (bodG_z rfl))
         go_wp2_with fail
         refine bodyPost_ret (v := .tuple #[.agg #[.int .u64 0, .int .u64 0, .int .i64 0, .int .u32 0], .slice none 0 0, .int .i64 (-1), .int .i64 0]) (by simp [results, Tryz.results21, go_sem, z0, z1, z2, z3]) rfl ?_
         rw [hlaw]
         exact ⟨_, rfl, Ob.nil _, by simp [New, blks], hfin.P, hfin.M⟩
       | true =>
         obtain ⟨y1, hg1⟩ := HF.out.2.2.1 rfl
         subst y1
         have hr : R0 = bodG c z V1 [(f1, 1, ⟨g1, c1, l1, s1⟩), (f0, 0, hd0)] := hrr.trans (if_pos (by dsimp only [hd0]; dsimp only at hg1; omega))
         clear hrr HF HRR
         go_enter Tryz.func21, Tryz.ntmps21
         go_wp2_with (with_reducible refine st_alloc ?_)
         refine StopOp.go rfl fun K hK => ?_
         refine wp_alloc zero_header ?_
         intro g w1 hga hgb hm1 hG1
         simp only [put_some, List.set_cons_succ, List.set_cons_zero]
         refine hK _ _ ?_
         clear hK K
         have S1 := SQ0.new (cs := [.int .u64 0, .int .u64 0, .int .i64 0, .int .u32 0]) hm1 hga hG1
         go_wp2_with (with_reducible refine st_alloc ?_)
         refine StopOp.go rfl fun K hK => ?_
         refine wp_alloc zero_header ?_
         intro t6 w2 h61 h62 hm2 hG2
         simp only [put_some, List.set_cons_succ, List.set_cons_zero]
         refine hK _ _ ?_
         clear hK K
         go_wp2_with (with_reducible refine st_store ?_)
         refine StopOp.go rfl fun K hK => ?_
         refine wp_store (u := .agg #[.int .u64 0, .int .u64 0, .int .i64 0, .int .u32 0]) (by rfl) (by rfl) (by kernel_rfl) hG2 (by simp [Value.cells]) (by simp [Value.cells, Value.oneCell']) ?_
         intro w3 hm3 hG3
         refine hK _ _ ?_
         clear hK K
         have S3 := (S1.new (cs := [.int .u64 0, .int .u64 0, .int .i64 0, .int .u32 0]) hm2 h61 hG2).set (i := 0) (cs' := [.int .u64 0, .int .u64 0, .int .i64 0, .int .u32 0]) rfl hm3 hG3 rfl
         clear hG1 hG2 hG3 hm1 hm2 hm3 S1
         go_wp2_with (first
                       | (with_reducible refine st_alloc ?_)
                       | (go_at_call 72; (with_reducible refine (HN0 _ (hS.mod S3.M hrP') (hA.mod S3.M hhP') S3.P).mono ?_); rintro e w4 ⟨rfl, hP4, hm4⟩))
         have S4 := S3.rd hm4 hP4
         refine StopOp.go rfl fun K hK => ?_
         refine wp_alloc zero_header ?_
         intro t7 w5 h51 h52 hm5 hB5
         simp only [put_some, List.set_cons_succ, List.set_cons_zero]
         refine hK _ _ ?_
         clear hK K
         go_wp2_with (with_reducible refine st_store ?_)
         refine StopOp.go rfl fun K hK => ?_
         refine wp_store (u := .agg #[.int .u64 (g0 : Nat), .int .u64 (c0 : Nat), .int .i64 l0, .int .u32 (s0 : Nat)]) (by rfl) (by rfl) (by kernel_rfl) hB5 (by simp [Value.cells]) (by simp [Value.cells, Value.oneCell']) ?_
         intro w6 hm6 hB6
         refine hK _ _ ?_
         clear hK K
         have S7 := (S4.new (cs := [.int .u64 0, .int .u64 0, .int .i64 0, .int .u32 0]) hm5 h51 hB5).set (i := 0) (cs' := [.int .u64 (g0 : Nat), .int .u64 (c0 : Nat), .int .i64 l0, .int .u32 (s0 : Nat)]) rfl hm6 hB6 rfl
         clear hB5 hB6 hm5 hm6 S4 S3 hm4 hP4
         go_wp2_with (first
                       | (with_reducible refine st_alloc ?_)
                       | (go_at_call 72; (with_reducible refine (HN1 _ (hS.mod S7.M hrP') (hB.mod S7.M hkP') (hA.mod S7.M hhP') S7.P).mono ?_); rintro e w8 ⟨rfl, hP8, hm8⟩))
         have S8 := S7.rd hm8 hP8
         refine StopOp.go rfl fun K hK => ?_
         refine wp_alloc zero_header ?_
         intro t10 w9 h91 h92 hm9 hB9
         simp only [put_some, List.set_cons_succ, List.set_cons_zero]
         refine hK _ _ ?_
         clear hK K
         go_wp2_with (with_reducible refine st_store ?_)
         refine StopOp.go rfl fun K hK => ?_
         refine wp_store (u := .agg #[.int .u64 (g1 : Nat), .int .u64 (c1 : Nat), .int .i64 l1, .int .u32 (s1 : Nat)]) (by rfl) (by rfl) (by kernel_rfl) hB9 (by simp [Value.cells]) (by simp [Value.cells, Value.oneCell']) ?_
         intro w10 hm10 hB10
         refine hK _ _ ?_
         clear hK K
         have S10 := (S8.new hm9 h91 hB9).set (i := 0) (cs' := [.int .u64 (g1 : Nat), .int .u64 (c1 : Nat), .int .i64 l1, .int .u32 (s1 : Nat)]) rfl hm10 hB10 rfl
         clear hB9 hB10 hm9 hm10 S8 hm8 hP8 S7
         have e00 := (S10.blk 0 rfl).cell' (i := 0) rfl
         have e01 := (S10.blk 0 rfl).cell' (i := 1) rfl
         have e02 := (S10.blk 0 rfl).cell' (i := 2) rfl
         have e03 := (S10.blk 0 rfl).cell' (i := 3) rfl
         have e10 := (S10.blk 1 rfl).cell' (i := 0) rfl
         have e11 := (S10.blk 1 rfl).cell' (i := 1) rfl
         have e12 := (S10.blk 1 rfl).cell' (i := 2) rfl
         have e13 := (S10.blk 1 rfl).cell' (i := 3) rfl
         go_wp2_with (with_reducible refine st_bslice ?_)
         refine StopOp.go rfl fun K hK => ?_
         refine wp_bslice stHD [.agg #[.int .u64 (g0 : Nat), .int .u64 (c0 : Nat), .int .i64 l0, .int .u32 (s0 : Nat)], .agg #[.int .u64 (g1 : Nat), .int .u64 (c1 : Nat), .int .i64 l1, .int .u32 (s1 : Nat)]] rfl (by decide) (by rfl) (by simp [Value.cells]) ?_
         intro hb w11 hb1 hb2 hm11 hB11
         simp only [put_some, List.set_cons_succ, List.set_cons_zero]
         refine hK _ _ ?_
         clear hK K
         have hB11' : Blk w11 hb 25 [.int .u64 (g0 : Nat), .int .u64 (c0 : Nat), .int .i64 l0, .int .u32 (s0 : Nat), .int .u64 (g1 : Nat), .int .u64 (c1 : Nat), .int .i64 l1, .int .u32 (s1 : Nat)] := hB11
         have S11 := S10.new hm11 hb1 hB11'
         go_wp2_with (with_reducible refine st_bslice ?_)
         refine StopOp.go rfl fun K hK => ?_
         refine wp_bslice stBO [.bool false, .bool true] rfl (by decide) (by rfl) (by simp [Value.cells]) ?_
         intro fb w12 fb1 fb2 hm12 hB12
         simp only [put_some, List.set_cons_succ, List.set_cons_zero]
         refine hK _ _ ?_
         clear hK K
         have hB12' : Blk w12 fb 4 [.bool false, .bool true] := hB12
         have S12 := S11.new hm12 fb1 hB12'
         clear hB11 hB12 hB11' hB12' hm11 hm12 S11 e00 e01 e02 e03 e10 e11 e12 e13
         have v0 := (S12.blk 0 rfl).cell' (i := 0) rfl
         have v1 := (S12.blk 0 rfl).cell' (i := 1) rfl
         have o0 := (S12.blk 2 rfl).cell' (i := 0) rfl
         have o1 := (S12.blk 3 rfl).cell' (i := 0) rfl
         obtain ⟨⟨W01q1, E01q1, B01q1⟩, hR01q1⟩ : ∃ R, R = rdA f1 c z V1 z l1 := ⟨_, rfl⟩
         have BD01q1 := fun w hS hR hP => rbody_any r h k k P Q f1 c z g1 c1 s1 1 l1 V1 M w (rslot1 r h k) hS hR hP (by rw [hmV1]; exact hz) (by rw [hmV1]; exact hf1) (by have := hnV1; omega) hi1
         unfold HbodyP at BD01q1
         rw [← hR01q1] at BD01q1
         obtain ⟨hms01q1, hns01q1⟩ := rdA_sz f1 c z V1 z l1
         rw [← hR01q1] at hms01q1 hns01q1
         dsimp only at BD01q1 hms01q1 hns01q1
         have hmW01q1 : W01q1.m = u.m := hms01q1.trans hmV1
         have hnW01q1 : W01q1.n ≤ u.n + 3 * (c * z) := by have := hnV1; omega
         have HR01q1 := Lib.hid hR01q1
         clear hR01q1 hms01q1 hns01q1
         have S01q1 : Slr w12 r h k := hS.mod S12.M hrP'
         have A01q1 : Rgr w12 k P f1 c := hB.mod S12.M hkP'
         have P01q1 := S12.P
         have x01q10 := (S12.blk 0 rfl).cell' (i := 0) rfl
         have x01q11 := (S12.blk 0 rfl).cell' (i := 1) rfl
         have y01q10 := (S12.blk 1 rfl).cell' (i := 4) rfl
         have y01q11 := (S12.blk 1 rfl).cell' (i := 5) rfl
         have y01q12 := (S12.blk 1 rfl).cell' (i := 6) rfl
         have y01q13 := (S12.blk 1 rfl).cell' (i := 7) rfl
         obtain ⟨ok01q1, hok01q1⟩ : ∃ b, b = decide (E01q1 = 0 ∧ crcS B01q1 = s1) := ⟨_, rfl⟩
         rw [← hok01q1] at BD01q1
         have HK01q1 := Lib.hid hok01q1
         clear hok01q1
         by_cases hE01q1 : E01q1 = 0
         · subst hE01q1
           cases ok01q1 with
           | true =>
             have hq01q1 : crcS B01q1 = s1 := (of_decide_eq_true HK01q1.out.symm).2
             have HQ01q1 := Lib.hid hq01q1
             clear hq01q1
             go_wp2_with (first
                           | (with_reducible refine st_store ?_)
                           | (with_reducible refine LoopN.step (fun _ _ => ?_))
                           | (with_reducible refine wp_loopN 2 (fun _ _ => ?_))
                           | (go_at_call 73; (with_reducible refine (BD01q1 _ S01q1 A01q1 P01q1).mono ?_); rintro e w01q1 ⟨bw01q1, rfl, ho01q1, hnw01q1, hP01q1, hm01q1⟩; obtain ⟨ao01q1, cap01q1, rfl, _, _⟩ := ho01q1.sl.form; have SQ01q1 := S12.rd hm01q1 hP01q1; have zt01q10 := (SQ01q1.blk 4 rfl).cell' (i := 0) rfl; have zt01q11 := (SQ01q1.blk 4 rfl).cell' (i := 1) rfl; have zt01q12 := (SQ01q1.blk 4 rfl).cell' (i := 2) rfl; have zt01q13 := (SQ01q1.blk 4 rfl).cell' (i := 3) rfl; have yt01q10 := (SQ01q1.blk 1 rfl).cell' (i := 4) rfl; have yt01q11 := (SQ01q1.blk 1 rfl).cell' (i := 5) rfl; have yt01q12 := (SQ01q1.blk 1 rfl).cell' (i := 6) rfl; have yt01q13 := (SQ01q1.blk 1 rfl).cell' (i := 7) rfl; have xt01q10 := (SQ01q1.blk 0 rfl).cell' (i := 0) rfl; have xt01q11 := (SQ01q1.blk 0 rfl).cell' (i := 1) rfl))
             refine StopOp.go rfl fun K hK => ?_
             refine wp_store (u := .agg #[.int .u64 (g1 : Nat), .int .u64 (c1 : Nat), .int .i64 l1, .int .u32 (s1 : Nat)]) (by rfl) (by rfl) (by kernel_rfl) (SQ01q1.blk 5 rfl) (by simp [Value.cells]) (by simp [Value.cells, Value.oneCell']) ?_
             intro w90 hm90 hB90
             refine hK _ _ ?_
             clear hK K
             have z0 := hB90.cell' (i := 0) rfl
             have z1 := hB90.cell' (i := 1) rfl
             have z2 := hB90.cell' (i := 2) rfl
             have z3 := hB90.cell' (i := 3) rfl
             have hfin := SQ01q1.set (i := 5) rfl hm90 hB90 rfl
             have hlaw : R0 = _ := hr.trans (bodG_y hg1 HR01q1.out.symm HQ01q1.out)
             go_wp2_with fail
             refine bodyPost_ret (v := .tuple #[.agg #[.int .u64 (g1 : Nat), .int .u64 (c1 : Nat), .int .i64 l1, .int .u32 (s1 : Nat)], .slice ao01q1 B01q1.length cap01q1, .int .i64 1, .int .i64 0]) (by simp [results, Tryz.results21, go_sem, z0, z1, z2, z3]) rfl ?_
             rw [hlaw]
             exact ⟨_, rfl, Ow.mod ho01q1 hm90 (fun k hk hh => by have e : k = g := (by simpa using hh); exact Ow.ne ho01q1 (SQ01q1.blk 5 rfl) (by decide) (e ▸ hk)), fun k hk => Nat.le_trans S12.M.size (hnw01q1 k hk), hfin.P, hfin.M⟩
           | false =>
             have hq01q1 : crcS B01q1 ≠ s1 := fun hh => of_decide_eq_false HK01q1.out.symm ⟨rfl, hh⟩
             have HQ01q1 := Lib.hid hq01q1
             clear hq01q1
             go_wp2_with (first
                           | (with_reducible refine st_store ?_)
                           | (with_reducible refine LoopN.step (fun _ _ => ?_))
                           | (with_reducible refine wp_loopN 2 (fun _ _ => ?_))
                           | (go_at_call 73; (with_reducible refine (BD01q1 _ S01q1 A01q1 P01q1).mono ?_); rintro e w01q1 ⟨bw01q1, rfl, ho01q1, hnw01q1, hP01q1, hm01q1⟩; obtain ⟨ao01q1, cap01q1, rfl, _, _⟩ := ho01q1.sl.form; have SQ01q1 := S12.rd hm01q1 hP01q1; have zt01q10 := (SQ01q1.blk 4 rfl).cell' (i := 0) rfl; have zt01q11 := (SQ01q1.blk 4 rfl).cell' (i := 1) rfl; have zt01q12 := (SQ01q1.blk 4 rfl).cell' (i := 2) rfl; have zt01q13 := (SQ01q1.blk 4 rfl).cell' (i := 3) rfl; have yt01q10 := (SQ01q1.blk 1 rfl).cell' (i := 4) rfl; have yt01q11 := (SQ01q1.blk 1 rfl).cell' (i := 5) rfl; have yt01q12 := (SQ01q1.blk 1 rfl).cell' (i := 6) rfl; have yt01q13 := (SQ01q1.blk 1 rfl).cell' (i := 7) rfl; have xt01q10 := (SQ01q1.blk 0 rfl).cell' (i := 0) rfl; have xt01q11 := (SQ01q1.blk 0 rfl).cell' (i := 1) rfl))
             refine StopOp.go rfl fun K hK => ?_
             refine wp_store (u := .agg #[.int .u64 0, .int .u64 0, .int .i64 0, .int .u32 0]) (by rfl) (by rfl) (by kernel_rfl) (SQ01q1.blk 5 rfl) (by simp [Value.cells]) (by simp [Value.cells, Value.oneCell']) ?_
             intro w90 hm90 hB90
             refine hK _ _ ?_
             clear hK K
             have z0 := hB90.cell' (i := 0) rfl
             have z1 := hB90.cell' (i := 1) rfl
             have z2 := hB90.cell' (i := 2) rfl
             have z3 := hB90.cell' (i := 3) rfl
             have hfin := SQ01q1.set (i := 5) rfl hm90 hB90 rfl
             have hlaw : R0 = _ := ((hr.trans (bodG_n hg1 HR01q1.out.symm HQ01q1.out)).trans (bodG_z rfl))
             go_wp2_with fail
             refine bodyPost_ret (v := .tuple #[.agg #[.int .u64 0, .int .u64 0, .int .i64 0, .int .u32 0], .slice none 0 0, .int .i64 (-1), .int .i64 0]) (by simp [results, Tryz.results21, go_sem, z0, z1, z2, z3]) rfl ?_
             rw [hlaw]
             exact ⟨_, rfl, Ob.nil _, by simp [New, blks], hfin.P, hfin.M⟩
         · have dE01q1 : (E01q1 != 0) = true := bne_iff_ne.2 hE01q1
           go_wp2_with (first
                         | (with_reducible refine st_store ?_)
                         | (with_reducible refine LoopN.step (fun _ _ => ?_))
                         | (with_reducible refine wp_loopN 2 (fun _ _ => ?_))
                         | (go_at_call 73; (with_reducible refine (BD01q1 _ S01q1 A01q1 P01q1).mono ?_); rintro e w01q1 ⟨bw01q1, rfl, ho01q1, hnw01q1, hP01q1, hm01q1⟩; obtain ⟨ao01q1, cap01q1, rfl, _, _⟩ := ho01q1.sl.form; have SQ01q1 := S12.rd hm01q1 hP01q1; have zt01q10 := (SQ01q1.blk 4 rfl).cell' (i := 0) rfl; have zt01q11 := (SQ01q1.blk 4 rfl).cell' (i := 1) rfl; have zt01q12 := (SQ01q1.blk 4 rfl).cell' (i := 2) rfl; have zt01q13 := (SQ01q1.blk 4 rfl).cell' (i := 3) rfl; have yt01q10 := (SQ01q1.blk 1 rfl).cell' (i := 4) rfl; have yt01q11 := (SQ01q1.blk 1 rfl).cell' (i := 5) rfl; have yt01q12 := (SQ01q1.blk 1 rfl).cell' (i := 6) rfl; have yt01q13 := (SQ01q1.blk 1 rfl).cell' (i := 7) rfl; have xt01q10 := (SQ01q1.blk 0 rfl).cell' (i := 0) rfl; have xt01q11 := (SQ01q1.blk 0 rfl).cell' (i := 1) rfl))
           refine StopOp.go rfl fun K hK => ?_
           refine wp_store (u := .agg #[.int .u64 0, .int .u64 0, .int .i64 0, .int .u32 0]) (by rfl) (by rfl) (by kernel_rfl) (SQ01q1.blk 5 rfl) (by simp [Value.cells]) (by simp [Value.cells, Value.oneCell']) ?_
           intro w90 hm90 hB90
           refine hK _ _ ?_
           clear hK K
           have z0 := hB90.cell' (i := 0) rfl
           have z1 := hB90.cell' (i := 1) rfl
           have z2 := hB90.cell' (i := 2) rfl
           have z3 := hB90.cell' (i := 3) rfl
           have hfin := SQ01q1.set (i := 5) rfl hm90 hB90 rfl
           have hlaw : R0 = _ := hr.trans (bodG_e hg1 HR01q1.out.symm hE01q1)
           go_wp2_with fail
           refine bodyPost_ret (v := .tuple #[.agg #[.int .u64 0, .int .u64 0, .int .i64 0, .int .u32 0], .slice none 0 0, .int .i64 0, .int .i64 E01q1]) (by simp [results, Tryz.results21, go_sem, z0, z1, z2, z3]) rfl ?_
           rw [hlaw]
           exact ⟨_, rfl, Ob.nil _, by simp [New, blks], hfin.P, hfin.M⟩
     | true =>
       obtain ⟨y0, hg0⟩ := HF.out.1 rfl
       subst y0
       cases fit1 with
       | false =>
         have y1 := HF.out.2.2.2 rfl
         subst y1
         have hr : R0 = bodG c z V1 [(f0, 0, ⟨g0, c0, l0, s0⟩), (f1, 1, hd0)] := hrr.trans (if_neg (by dsimp only [hd0]; omega))
         clear hrr HF HRR
         go_enter Tryz.func21, Tryz.ntmps21
         go_wp2_with (with_reducible refine st_alloc ?_)
         refine StopOp.go rfl fun K hK => ?_
         refine wp_alloc zero_header ?_
         intro g w1 hga hgb hm1 hG1
         simp only [put_some, List.set_cons_succ, List.set_cons_zero]
         refine hK _ _ ?_
         clear hK K
         have S1 := SQ0.new (cs := [.int .u64 0, .int .u64 0, .int .i64 0, .int .u32 0]) hm1 hga hG1
         go_wp2_with (with_reducible refine st_alloc ?_)
         refine StopOp.go rfl fun K hK => ?_
         refine wp_alloc zero_header ?_
         intro t6 w2 h61 h62 hm2 hG2
         simp only [put_some, List.set_cons_succ, List.set_cons_zero]
         refine hK _ _ ?_
         clear hK K
         go_wp2_with (with_reducible refine st_store ?_)
         refine StopOp.go rfl fun K hK => ?_
         refine wp_store (u := .agg #[.int .u64 0, .int .u64 0, .int .i64 0, .int .u32 0]) (by rfl) (by rfl) (by kernel_rfl) hG2 (by simp [Value.cells]) (by simp [Value.cells, Value.oneCell']) ?_
         intro w3 hm3 hG3
         refine hK _ _ ?_
         clear hK K
         have S3 := (S1.new (cs := [.int .u64 0, .int .u64 0, .int .i64 0, .int .u32 0]) hm2 h61 hG2).set (i := 0) (cs' := [.int .u64 0, .int .u64 0, .int .i64 0, .int .u32 0]) rfl hm3 hG3 rfl
         clear hG1 hG2 hG3 hm1 hm2 hm3 S1
         go_wp2_with (first
                       | (with_reducible refine st_alloc ?_)
                       | (go_at_call 72; (with_reducible refine (HN0 _ (hS.mod S3.M hrP') (hA.mod S3.M hhP') S3.P).mono ?_); rintro e w4 ⟨rfl, hP4, hm4⟩))
         have S4 := S3.rd hm4 hP4
         refine StopOp.go rfl fun K hK => ?_
         refine wp_alloc zero_header ?_
         intro t7 w5 h51 h52 hm5 hB5
         simp only [put_some, List.set_cons_succ, List.set_cons_zero]
         refine hK _ _ ?_
         clear hK K
         go_wp2_with (with_reducible refine st_store ?_)
         refine StopOp.go rfl fun K hK => ?_
         refine wp_store (u := .agg #[.int .u64 (g0 : Nat), .int .u64 (c0 : Nat), .int .i64 l0, .int .u32 (s0 : Nat)]) (by rfl) (by rfl) (by kernel_rfl) hB5 (by simp [Value.cells]) (by simp [Value.cells, Value.oneCell']) ?_
         intro w6 hm6 hB6
         refine hK _ _ ?_
         clear hK K
         have S7 := (S4.new (cs := [.int .u64 0, .int .u64 0, .int .i64 0, .int .u32 0]) hm5 h51 hB5).set (i := 0) (cs' := [.int .u64 (g0 : Nat), .int .u64 (c0 : Nat), .int .i64 l0, .int .u32 (s0 : Nat)]) rfl hm6 hB6 rfl
         clear hB5 hB6 hm5 hm6 S4 S3 hm4 hP4
         go_wp2_with (first
                       | (with_reducible refine st_alloc ?_)
                       | (go_at_call 72; (with_reducible refine (HN1 _ (hS.mod S7.M hrP') (hB.mod S7.M hkP') (hA.mod S7.M hhP') S7.P).mono ?_); rintro e w8 ⟨rfl, hP8, hm8⟩))
         have S8 := S7.rd hm8 hP8
         refine StopOp.go rfl fun K hK => ?_
         refine wp_alloc zero_header ?_
         intro t10 w9 h91 h92 hm9 hB9
         simp only [put_some, List.set_cons_succ, List.set_cons_zero]
         refine hK _ _ ?_
         clear hK K
         go_wp2_with (with_reducible refine st_store ?_)
         refine StopOp.go rfl fun K hK => ?_
         refine wp_store (u := .agg #[.int .u64 (g1 : Nat), .int .u64 (c1 : Nat), .int .i64 l1, .int .u32 (s1 : Nat)]) (by rfl) (by rfl) (by kernel_rfl) hB9 (by simp [Value.cells]) (by simp [Value.cells, Value.oneCell']) ?_
         intro w10 hm10 hB10
         refine hK _ _ ?_
         clear hK K
         have S10 := (S8.new hm9 h91 hB9).set (i := 0) (cs' := [.int .u64 (g1 : Nat), .int .u64 (c1 : Nat), .int .i64 l1, .int .u32 (s1 : Nat)]) rfl hm10 hB10 rfl
         clear hB9 hB10 hm9 hm10 S8 hm8 hP8 S7
         have e00 := (S10.blk 0 rfl).cell' (i := 0) rfl
         have e01 := (S10.blk 0 rfl).cell' (i := 1) rfl
         have e02 := (S10.blk 0 rfl).cell' (i := 2) rfl
         have e03 := (S10.blk 0 rfl).cell' (i := 3) rfl
         have e10 := (S10.blk 1 rfl).cell' (i := 0) rfl
         have e11 := (S10.blk 1 rfl).cell' (i := 1) rfl
         have e12 := (S10.blk 1 rfl).cell' (i := 2) rfl
         have e13 := (S10.blk 1 rfl).cell' (i := 3) rfl
         go_wp2_with (with_reducible refine st_bslice ?_)
         refine StopOp.go rfl fun K hK => ?_
         refine wp_bslice stHD [.agg #[.int .u64 (g0 : Nat), .int .u64 (c0 : Nat), .int .i64 l0, .int .u32 (s0 : Nat)], .agg #[.int .u64 (g1 : Nat), .int .u64 (c1 : Nat), .int .i64 l1, .int .u32 (s1 : Nat)]] rfl (by decide) (by rfl) (by simp [Value.cells]) ?_
         intro hb w11 hb1 hb2 hm11 hB11
         simp only [put_some, List.set_cons_succ, List.set_cons_zero]
         refine hK _ _ ?_
         clear hK K
         have hB11' : Blk w11 hb 25 [.int .u64 (g0 : Nat), .int .u64 (c0 : Nat), .int .i64 l0, .int .u32 (s0 : Nat), .int .u64 (g1 : Nat), .int .u64 (c1 : Nat), .int .i64 l1, .int .u32 (s1 : Nat)] := hB11
         have S11 := S10.new hm11 hb1 hB11'
         go_wp2_with (with_reducible refine st_bslice ?_)
         refine StopOp.go rfl fun K hK => ?_
         refine wp_bslice stBO [.bool true, .bool false] rfl (by decide) (by rfl) (by simp [Value.cells]) ?_
         intro fb w12 fb1 fb2 hm12 hB12
         simp only [put_some, List.set_cons_succ, List.set_cons_zero]
         refine hK _ _ ?_
         clear hK K
         have hB12' : Blk w12 fb 4 [.bool true, .bool false] := hB12
         have S12 := S11.new hm12 fb1 hB12'
         clear hB11 hB12 hB11' hB12' hm11 hm12 S11 e00 e01 e02 e03 e10 e11 e12 e13
         have v0 := (S12.blk 0 rfl).cell' (i := 0) rfl
         have v1 := (S12.blk 0 rfl).cell' (i := 1) rfl
         have o0 := (S12.blk 2 rfl).cell' (i := 0) rfl
         have o1 := (S12.blk 3 rfl).cell' (i := 0) rfl
         obtain ⟨⟨W00q2, E00q2, B00q2⟩, hR00q2⟩ : ∃ R, R = rdA f0 c z V1 z l0 := ⟨_, rfl⟩
         have BD00q2 := fun w hS hR hP => rbody_any r h k h P Q f0 c z g0 c0 s0 0 l0 V1 M w (rslot0 r h k) hS hR hP (by rw [hmV1]; exact hz) (by rw [hmV1]; exact hf0) (by have := hnV1; omega) hi0
         unfold HbodyP at BD00q2
         rw [← hR00q2] at BD00q2
         obtain ⟨hms00q2, hns00q2⟩ := rdA_sz f0 c z V1 z l0
         rw [← hR00q2] at hms00q2 hns00q2
         dsimp only at BD00q2 hms00q2 hns00q2
         have hmW00q2 : W00q2.m = u.m := hms00q2.trans hmV1
         have hnW00q2 : W00q2.n ≤ u.n + 3 * (c * z) := by have := hnV1; omega
         have HR00q2 := Lib.hid hR00q2
         clear hR00q2 hms00q2 hns00q2
         have S00q2 : Slr w12 r h k := hS.mod S12.M hrP'
         have A00q2 : Rgr w12 h P f0 c := hA.mod S12.M hhP'
         have P00q2 := S12.P
         have x00q20 := (S12.blk 0 rfl).cell' (i := 0) rfl
         have x00q21 := (S12.blk 0 rfl).cell' (i := 1) rfl
         have y00q20 := (S12.blk 1 rfl).cell' (i := 0) rfl
         have y00q21 := (S12.blk 1 rfl).cell' (i := 1) rfl
         have y00q22 := (S12.blk 1 rfl).cell' (i := 2) rfl
         have y00q23 := (S12.blk 1 rfl).cell' (i := 3) rfl
         obtain ⟨ok00q2, hok00q2⟩ : ∃ b, b = decide (E00q2 = 0 ∧ crcS B00q2 = s0) := ⟨_, rfl⟩
         rw [← hok00q2] at BD00q2
         have HK00q2 := Lib.hid hok00q2
         clear hok00q2
         by_cases hE00q2 : E00q2 = 0
         · subst hE00q2
           cases ok00q2 with
           | true =>
             have hq00q2 : crcS B00q2 = s0 := (of_decide_eq_true HK00q2.out.symm).2
             have HQ00q2 := Lib.hid hq00q2
             clear hq00q2
             go_wp2_with (first
                           | (with_reducible refine st_store ?_)
                           | (with_reducible refine LoopN.step (fun _ _ => ?_))
                           | (with_reducible refine wp_loopN 2 (fun _ _ => ?_))
                           | (go_at_call 73; (with_reducible refine (BD00q2 _ S00q2 A00q2 P00q2).mono ?_); rintro e w00q2 ⟨bw00q2, rfl, ho00q2, hnw00q2, hP00q2, hm00q2⟩; obtain ⟨ao00q2, cap00q2, rfl, _, _⟩ := ho00q2.sl.form; have SQ00q2 := S12.rd hm00q2 hP00q2; have zt00q20 := (SQ00q2.blk 4 rfl).cell' (i := 0) rfl; have zt00q21 := (SQ00q2.blk 4 rfl).cell' (i := 1) rfl; have zt00q22 := (SQ00q2.blk 4 rfl).cell' (i := 2) rfl; have zt00q23 := (SQ00q2.blk 4 rfl).cell' (i := 3) rfl; have yt00q20 := (SQ00q2.blk 1 rfl).cell' (i := 0) rfl; have yt00q21 := (SQ00q2.blk 1 rfl).cell' (i := 1) rfl; have yt00q22 := (SQ00q2.blk 1 rfl).cell' (i := 2) rfl; have yt00q23 := (SQ00q2.blk 1 rfl).cell' (i := 3) rfl; have xt00q20 := (SQ00q2.blk 0 rfl).cell' (i := 0) rfl; have xt00q21 := (SQ00q2.blk 0 rfl).cell' (i := 1) rfl))
             refine StopOp.go rfl fun K hK => ?_
             refine wp_store (u := .agg #[.int .u64 (g0 : Nat), .int .u64 (c0 : Nat), .int .i64 l0, .int .u32 (s0 : Nat)]) (by rfl) (by rfl) (by kernel_rfl) (SQ00q2.blk 5 rfl) (by simp [Value.cells]) (by simp [Value.cells, Value.oneCell']) ?_
             intro w90 hm90 hB90
             refine hK _ _ ?_
             clear hK K
             have z0 := hB90.cell' (i := 0) rfl
             have z1 := hB90.cell' (i := 1) rfl
             have z2 := hB90.cell' (i := 2) rfl
             have z3 := hB90.cell' (i := 3) rfl
             have hfin := SQ00q2.set (i := 5) rfl hm90 hB90 rfl
             have hlaw : R0 = _ := hr.trans (bodG_y hg0 HR00q2.out.symm HQ00q2.out)
             go_wp2_with fail
             refine bodyPost_ret (v := .tuple #[.agg #[.int .u64 (g0 : Nat), .int .u64 (c0 : Nat), .int .i64 l0, .int .u32 (s0 : Nat)], .slice ao00q2 B00q2.length cap00q2, .int .i64 0, .int .i64 0]) (by simp [results, Tryz.results21, go_sem, z0, z1, z2, z3]) rfl ?_
             rw [hlaw]
             exact ⟨_, rfl, Ow.mod ho00q2 hm90 (fun k hk hh => by have e : k = g := (by simpa using hh); exact Ow.ne ho00q2 (SQ00q2.blk 5 rfl) (by decide) (e ▸ hk)), fun k hk => Nat.le_trans S12.M.size (hnw00q2 k hk), hfin.P, hfin.M⟩
           | false =>
             have hq00q2 : crcS B00q2 ≠ s0 := fun hh => of_decide_eq_false HK00q2.out.symm ⟨rfl, hh⟩
             have HQ00q2 := Lib.hid hq00q2
             clear hq00q2
             go_wp2_with (first
                           | (with_reducible refine st_store ?_)
                           | (with_reducible refine LoopN.step (fun _ _ => ?_))
                           | (with_reducible refine wp_loopN 2 (fun _ _ => ?_))
                           | (go_at_call 73; (with_reducible refine (BD00q2 _ S00q2 A00q2 P00q2).mono ?_); rintro e w00q2 ⟨bw00q2, rfl, ho00q2, hnw00q2, hP00q2, hm00q2⟩; obtain ⟨ao00q2, cap00q2, rfl, _, _⟩ := ho00q2.sl.form; have SQ00q2 := S12.rd hm00q2 hP00q2; have zt00q20 := (SQ00q2.blk 4 rfl).cell' (i := 0) rfl; have zt00q21 := (SQ00q2.blk 4 rfl).cell' (i := 1) rfl; have zt00q22 := (SQ00q2.blk 4 rfl).cell' (i := 2) rfl; have zt00q23 := (SQ00q2.blk 4 rfl).cell' (i := 3) rfl; have yt00q20 := (SQ00q2.blk 1 rfl).cell' (i := 0) rfl; have yt00q21 := (SQ00q2.blk 1 rfl).cell' (i := 1) rfl; have yt00q22 := (SQ00q2.blk 1 rfl).cell' (i := 2) rfl; have yt00q23 := (SQ00q2.blk 1 rfl).cell' (i := 3) rfl; have xt00q20 := (SQ00q2.blk 0 rfl).cell' (i := 0) rfl; have xt00q21 := (SQ00q2.blk 0 rfl).cell' (i := 1) rfl))
             refine StopOp.go rfl fun K hK => ?_
             refine wp_store (u := .agg #[.int .u64 0, .int .u64 0, .int .i64 0, .int .u32 0]) (by rfl) (by rfl) (by kernel_rfl) (SQ00q2.blk 5 rfl) (by simp [Value.cells]) (by simp [Value.cells, Value.oneCell']) ?_
             intro w90 hm90 hB90
             refine hK _ _ ?_
             clear hK K
             have z0 := hB90.cell' (i := 0) rfl
             have z1 := hB90.cell' (i := 1) rfl
             have z2 := hB90.cell' (i := 2) rfl
             have z3 := hB90.cell' (i := 3) rfl
             have hfin := SQ00q2.set (i := 5) rfl hm90 hB90 rfl
             have hlaw : R0 = _ := ((hr.trans (bodG_n hg0 HR00q2.out.symm HQ00q2.out)).trans (bodG_z rfl))
             go_wp2_with fail
             refine bodyPost_ret (v := .tuple #[.agg #[.int .u64 0, .int .u64 0, .int .i64 0, .int .u32 0], .slice none 0 0, .int .i64 (-1), .int .i64 0]) (by simp [results, Tryz.results21, go_sem, z0, z1, z2, z3]) rfl ?_
             rw [hlaw]
             exact ⟨_, rfl, Ob.nil _, by simp [New, blks], hfin.P, hfin.M⟩
         · have dE00q2 : (E00q2 != 0) = true := bne_iff_ne.2 hE00q2
           go_wp2_with (first
                         | (with_reducible refine st_store ?_)
                         | (with_reducible refine LoopN.step (fun _ _ => ?_))
                         | (with_reducible refine wp_loopN 2 (fun _ _ => ?_))
                         | (go_at_call 73; (with_reducible refine (BD00q2 _ S00q2 A00q2 P00q2).mono ?_); rintro e w00q2 ⟨bw00q2, rfl, ho00q2, hnw00q2, hP00q2, hm00q2⟩; obtain ⟨ao00q2, cap00q2, rfl, _, _⟩ := ho00q2.sl.form; have SQ00q2 := S12.rd hm00q2 hP00q2; have zt00q20 := (SQ00q2.blk 4 rfl).cell' (i := 0) rfl; have zt00q21 := (SQ00q2.blk 4 rfl).cell' (i := 1) rfl; have zt00q22 := (SQ00q2.blk 4 rfl).cell' (i := 2) rfl; have zt00q23 := (SQ00q2.blk 4 rfl).cell' (i := 3) rfl; have yt00q20 := (SQ00q2.blk 1 rfl).cell' (i := 0) rfl; have yt00q21 := (SQ00q2.blk 1 rfl).cell' (i := 1) rfl; have yt00q22 := (SQ00q2.blk 1 rfl).cell' (i := 2) rfl; have yt00q23 := (SQ00q2.blk 1 rfl).cell' (i := 3) rfl; have xt00q20 := (SQ00q2.blk 0 rfl).cell' (i := 0) rfl; have xt00q21 := (SQ00q2.blk 0 rfl).cell' (i := 1) rfl))
           refine StopOp.go rfl fun K hK => ?_
           refine wp_store (u := .agg #[.int .u64 0, .int .u64 0, .int .i64 0, .int .u32 0]) (by rfl) (by rfl) (by kernel_rfl) (SQ00q2.blk 5 rfl) (by simp [Value.cells]) (by simp [Value.cells, Value.oneCell']) ?_
           intro w90 hm90 hB90
           refine hK _ _ ?_
           clear hK K
           have z0 := hB90.cell' (i := 0) rfl
           have z1 := hB90.cell' (i := 1) rfl
           have z2 := hB90.cell' (i := 2) rfl
           have z3 := hB90.cell' (i := 3) rfl
           have hfin := SQ00q2.set (i := 5) rfl hm90 hB90 rfl
           have hlaw : R0 = _ := hr.trans (bodG_e hg0 HR00q2.out.symm hE00q2)
           go_wp2_with fail
           refine bodyPost_ret (v := .tuple #[.agg #[.int .u64 0, .int .u64 0, .int .i64 0, .int .u32 0], .slice none 0 0, .int .i64 0, .int .i64 E00q2]) (by simp [results, Tryz.results21, go_sem, z0, z1, z2, z3]) rfl ?_
           rw [hlaw]
           exact ⟨_, rfl, Ob.nil _, by simp [New, blks], hfin.P, hfin.M⟩
       | true =>
         obtain ⟨y1, hg1⟩ := HF.out.2.2.1 rfl
         subst y1
         by_cases hlt : g0 < g1
         · have hr : R0 = bodG c z V1 [(f1, 1, ⟨g1, c1, l1, s1⟩), (f0, 0, ⟨g0, c0, l0, s0⟩)] := hrr.trans (if_pos hlt)
           have ylt : (g0 : Int) < g1 := by omega
           clear hrr HF HRR
           go_enter Tryz.func21, Tryz.ntmps21
           go_wp2_with (with_reducible refine st_alloc ?_)
           refine StopOp.go rfl fun K hK => ?_
           refine wp_alloc zero_header ?_
           intro g w1 hga hgb hm1 hG1
           simp only [put_some, List.set_cons_succ, List.set_cons_zero]
           refine hK _ _ ?_
           clear hK K
           have S1 := SQ0.new (cs := [.int .u64 0, .int .u64 0, .int .i64 0, .int .u32 0]) hm1 hga hG1
           go_wp2_with (with_reducible refine st_alloc ?_)
           refine StopOp.go rfl fun K hK => ?_
           refine wp_alloc zero_header ?_
           intro t6 w2 h61 h62 hm2 hG2
           simp only [put_some, List.set_cons_succ, List.set_cons_zero]
           refine hK _ _ ?_
           clear hK K
           go_wp2_with (with_reducible refine st_store ?_)
           refine StopOp.go rfl fun K hK => ?_
           refine wp_store (u := .agg #[.int .u64 0, .int .u64 0, .int .i64 0, .int .u32 0]) (by rfl) (by rfl) (by kernel_rfl) hG2 (by simp [Value.cells]) (by simp [Value.cells, Value.oneCell']) ?_
           intro w3 hm3 hG3
           refine hK _ _ ?_
           clear hK K
           have S3 := (S1.new (cs := [.int .u64 0, .int .u64 0, .int .i64 0, .int .u32 0]) hm2 h61 hG2).set (i := 0) (cs' := [.int .u64 0, .int .u64 0, .int .i64 0, .int .u32 0]) rfl hm3 hG3 rfl
           clear hG1 hG2 hG3 hm1 hm2 hm3 S1
           go_wp2_with (first
                         | (with_reducible refine st_alloc ?_)
                         | (go_at_call 72; (with_reducible refine (HN0 _ (hS.mod S3.M hrP') (hA.mod S3.M hhP') S3.P).mono ?_); rintro e w4 ⟨rfl, hP4, hm4⟩))
           have S4 := S3.rd hm4 hP4
           refine StopOp.go rfl fun K hK => ?_
           refine wp_alloc zero_header ?_
           intro t7 w5 h51 h52 hm5 hB5
           simp only [put_some, List.set_cons_succ, List.set_cons_zero]
           refine hK _ _ ?_
           clear hK K
           go_wp2_with (with_reducible refine st_store ?_)
           refine StopOp.go rfl fun K hK => ?_
           refine wp_store (u := .agg #[.int .u64 (g0 : Nat), .int .u64 (c0 : Nat), .int .i64 l0, .int .u32 (s0 : Nat)]) (by rfl) (by rfl) (by kernel_rfl) hB5 (by simp [Value.cells]) (by simp [Value.cells, Value.oneCell']) ?_
           intro w6 hm6 hB6
           refine hK _ _ ?_
           clear hK K
           have S7 := (S4.new (cs := [.int .u64 0, .int .u64 0, .int .i64 0, .int .u32 0]) hm5 h51 hB5).set (i := 0) (cs' := [.int .u64 (g0 : Nat), .int .u64 (c0 : Nat), .int .i64 l0, .int .u32 (s0 : Nat)]) rfl hm6 hB6 rfl
           clear hB5 hB6 hm5 hm6 S4 S3 hm4 hP4
           go_wp2_with (first
                         | (with_reducible refine st_alloc ?_)
                         | (go_at_call 72; (with_reducible refine (HN1 _ (hS.mod S7.M hrP') (hB.mod S7.M hkP') (hA.mod S7.M hhP') S7.P).mono ?_); rintro e w8 ⟨rfl, hP8, hm8⟩))
           have S8 := S7.rd hm8 hP8
           refine StopOp.go rfl fun K hK => ?_
           refine wp_alloc zero_header ?_
           intro t10 w9 h91 h92 hm9 hB9
           simp only [put_some, List.set_cons_succ, List.set_cons_zero]
           refine hK _ _ ?_
           clear hK K
           go_wp2_with (with_reducible refine st_store ?_)
           refine StopOp.go rfl fun K hK => ?_
           refine wp_store (u := .agg #[.int .u64 (g1 : Nat), .int .u64 (c1 : Nat), .int .i64 l1, .int .u32 (s1 : Nat)]) (by rfl) (by rfl) (by kernel_rfl) hB9 (by simp [Value.cells]) (by simp [Value.cells, Value.oneCell']) ?_
           intro w10 hm10 hB10
           refine hK _ _ ?_
           clear hK K
           have S10 := (S8.new hm9 h91 hB9).set (i := 0) (cs' := [.int .u64 (g1 : Nat), .int .u64 (c1 : Nat), .int .i64 l1, .int .u32 (s1 : Nat)]) rfl hm10 hB10 rfl
           clear hB9 hB10 hm9 hm10 S8 hm8 hP8 S7
           have e00 := (S10.blk 0 rfl).cell' (i := 0) rfl
           have e01 := (S10.blk 0 rfl).cell' (i := 1) rfl
           have e02 := (S10.blk 0 rfl).cell' (i := 2) rfl
           have e03 := (S10.blk 0 rfl).cell' (i := 3) rfl
           have e10 := (S10.blk 1 rfl).cell' (i := 0) rfl
           have e11 := (S10.blk 1 rfl).cell' (i := 1) rfl
           have e12 := (S10.blk 1 rfl).cell' (i := 2) rfl
           have e13 := (S10.blk 1 rfl).cell' (i := 3) rfl
           go_wp2_with (with_reducible refine st_bslice ?_)
           refine StopOp.go rfl fun K hK => ?_
           refine wp_bslice stHD [.agg #[.int .u64 (g0 : Nat), .int .u64 (c0 : Nat), .int .i64 l0, .int .u32 (s0 : Nat)], .agg #[.int .u64 (g1 : Nat), .int .u64 (c1 : Nat), .int .i64 l1, .int .u32 (s1 : Nat)]] rfl (by decide) (by rfl) (by simp [Value.cells]) ?_
           intro hb w11 hb1 hb2 hm11 hB11
           simp only [put_some, List.set_cons_succ, List.set_cons_zero]
           refine hK _ _ ?_
           clear hK K
           have hB11' : Blk w11 hb 25 [.int .u64 (g0 : Nat), .int .u64 (c0 : Nat), .int .i64 l0, .int .u32 (s0 : Nat), .int .u64 (g1 : Nat), .int .u64 (c1 : Nat), .int .i64 l1, .int .u32 (s1 : Nat)] := hB11
           have S11 := S10.new hm11 hb1 hB11'
           go_wp2_with (with_reducible refine st_bslice ?_)
           refine StopOp.go rfl fun K hK => ?_
           refine wp_bslice stBO [.bool true, .bool true] rfl (by decide) (by rfl) (by simp [Value.cells]) ?_
           intro fb w12 fb1 fb2 hm12 hB12
           simp only [put_some, List.set_cons_succ, List.set_cons_zero]
           refine hK _ _ ?_
           clear hK K
           have hB12' : Blk w12 fb 4 [.bool true, .bool true] := hB12
           have S12 := S11.new hm12 fb1 hB12'
           clear hB11 hB12 hB11' hB12' hm11 hm12 S11 e00 e01 e02 e03 e10 e11 e12 e13
           have v0 := (S12.blk 0 rfl).cell' (i := 0) rfl
           have v1 := (S12.blk 0 rfl).cell' (i := 1) rfl
           have o0 := (S12.blk 2 rfl).cell' (i := 0) rfl
           have o1 := (S12.blk 3 rfl).cell' (i := 0) rfl
           obtain ⟨⟨W01q3, E01q3, B01q3⟩, hR01q3⟩ : ∃ R, R = rdA f1 c z V1 z l1 := ⟨_, rfl⟩
           have BD01q3 := fun w hS hR hP => rbody_any r h k k P Q f1 c z g1 c1 s1 1 l1 V1 M w (rslot1 r h k) hS hR hP (by rw [hmV1]; exact hz) (by rw [hmV1]; exact hf1) (by have := hnV1; omega) hi1
           unfold HbodyP at BD01q3
           rw [← hR01q3] at BD01q3
           obtain ⟨hms01q3, hns01q3⟩ := rdA_sz f1 c z V1 z l1
           rw [← hR01q3] at hms01q3 hns01q3
           dsimp only at BD01q3 hms01q3 hns01q3
           have hmW01q3 : W01q3.m = u.m := hms01q3.trans hmV1
           have hnW01q3 : W01q3.n ≤ u.n + 3 * (c * z) := by have := hnV1; omega
           have HR01q3 := Lib.hid hR01q3
           clear hR01q3 hms01q3 hns01q3
           have S01q3 : Slr w12 r h k := hS.mod S12.M hrP'
           have A01q3 : Rgr w12 k P f1 c := hB.mod S12.M hkP'
           have P01q3 := S12.P
           have x01q30 := (S12.blk 0 rfl).cell' (i := 0) rfl
           have x01q31 := (S12.blk 0 rfl).cell' (i := 1) rfl
           have y01q30 := (S12.blk 1 rfl).cell' (i := 4) rfl
           have y01q31 := (S12.blk 1 rfl).cell' (i := 5) rfl
           have y01q32 := (S12.blk 1 rfl).cell' (i := 6) rfl
           have y01q33 := (S12.blk 1 rfl).cell' (i := 7) rfl
           obtain ⟨ok01q3, hok01q3⟩ : ∃ b, b = decide (E01q3 = 0 ∧ crcS B01q3 = s1) := ⟨_, rfl⟩
           rw [← hok01q3] at BD01q3
           have HK01q3 := Lib.hid hok01q3
           clear hok01q3
           by_cases hE01q3 : E01q3 = 0
           · subst hE01q3
             cases ok01q3 with
             | true =>
               have hq01q3 : crcS B01q3 = s1 := (of_decide_eq_true HK01q3.out.symm).2
               have HQ01q3 := Lib.hid hq01q3
               clear hq01q3
               go_wp2_with (first
                             | (with_reducible refine st_store ?_)
                             | (with_reducible refine LoopN.step (fun _ _ => ?_))
                             | (with_reducible refine wp_loopN 2 (fun _ _ => ?_))
                             | (go_at_call 73; (with_reducible refine (BD01q3 _ S01q3 A01q3 P01q3).mono ?_); rintro e w01q3 ⟨bw01q3, rfl, ho01q3, hnw01q3, hP01q3, hm01q3⟩; obtain ⟨ao01q3, cap01q3, rfl, _, _⟩ := ho01q3.sl.form; have SQ01q3 := S12.rd hm01q3 hP01q3; have zt01q30 := (SQ01q3.blk 4 rfl).cell' (i := 0) rfl; have zt01q31 := (SQ01q3.blk 4 rfl).cell' (i := 1) rfl; have zt01q32 := (SQ01q3.blk 4 rfl).cell' (i := 2) rfl; have zt01q33 := (SQ01q3.blk 4 rfl).cell' (i := 3) rfl; have yt01q30 := (SQ01q3.blk 1 rfl).cell' (i := 4) rfl; have yt01q31 := (SQ01q3.blk 1 rfl).cell' (i := 5) rfl; have yt01q32 := (SQ01q3.blk 1 rfl).cell' (i := 6) rfl; have yt01q33 := (SQ01q3.blk 1 rfl).cell' (i := 7) rfl; have xt01q30 := (SQ01q3.blk 0 rfl).cell' (i := 0) rfl; have xt01q31 := (SQ01q3.blk 0 rfl).cell' (i := 1) rfl))
               refine StopOp.go rfl fun K hK => ?_
               refine wp_store (u := .agg #[.int .u64 (g1 : Nat), .int .u64 (c1 : Nat), .int .i64 l1, .int .u32 (s1 : Nat)]) (by rfl) (by rfl) (by kernel_rfl) (SQ01q3.blk 5 rfl) (by simp [Value.cells]) (by simp [Value.cells, Value.oneCell']) ?_
               intro w90 hm90 hB90
               refine hK _ _ ?_
               clear hK K
               have z0 := hB90.cell' (i := 0) rfl
               have z1 := hB90.cell' (i := 1) rfl
               have z2 := hB90.cell' (i := 2) rfl
               have z3 := hB90.cell' (i := 3) rfl
               have hfin := SQ01q3.set (i := 5) rfl hm90 hB90 rfl
               have hlaw : R0 = _ := hr.trans (bodG_y hg1 HR01q3.out.symm HQ01q3.out)
               go_wp2_with fail
               refine bodyPost_ret (v := .tuple #[.agg #[.int .u64 (g1 : Nat), .int .u64 (c1 : Nat), .int .i64 l1, .int .u32 (s1 : Nat)], .slice ao01q3 B01q3.length cap01q3, .int .i64 1, .int .i64 0]) (by simp [results, Tryz.results21, go_sem, z0, z1, z2, z3]) rfl ?_
               rw [hlaw]
               exact ⟨_, rfl, Ow.mod ho01q3 hm90 (fun k hk hh => by have e : k = g := (by simpa using hh); exact Ow.ne ho01q3 (SQ01q3.blk 5 rfl) (by decide) (e ▸ hk)), fun k hk => Nat.le_trans S12.M.size (hnw01q3 k hk), hfin.P, hfin.M⟩
             | false =>
               have hq01q3 : crcS B01q3 ≠ s1 := fun hh => of_decide_eq_false HK01q3.out.symm ⟨rfl, hh⟩
               have HQ01q3 := Lib.hid hq01q3
               clear hq01q3
               obtain ⟨⟨W10r4, E10r4, B10r4⟩, hR10r4⟩ : ∃ R, R = rdA f0 c z W01q3 z l0 := ⟨_, rfl⟩
               have BD10r4 := fun w hS hR hP => rbody_any r h k h P Q f0 c z g0 c0 s0 0 l0 W01q3 M w (rslot0 r h k) hS hR hP (by rw [hmW01q3]; exact hz) (by rw [hmW01q3]; exact hf0) (by have := hnW01q3; omega) hi0
               unfold HbodyP at BD10r4
               rw [← hR10r4] at BD10r4
               dsimp only at BD10r4
               have HR10r4 := Lib.hid hR10r4
               clear hR10r4
               obtain ⟨ok10r4, hok10r4⟩ : ∃ b, b = decide (E10r4 = 0 ∧ crcS B10r4 = s0) := ⟨_, rfl⟩
               rw [← hok10r4] at BD10r4
               have HK10r4 := Lib.hid hok10r4
               clear hok10r4
               by_cases hE10r4 : E10r4 = 0
               · subst hE10r4
                 cases ok10r4 with
                 | true =>
                   have hq10r4 : crcS B10r4 = s0 := (of_decide_eq_true HK10r4.out.symm).2
                   have HQ10r4 := Lib.hid hq10r4
                   clear hq10r4
                   go_wp2_with (first
                                 | (with_reducible refine st_store ?_)
                                 | (with_reducible refine LoopN.step (fun _ _ => ?_))
                                 | (with_reducible refine wp_loopN 2 (fun _ _ => ?_))
                                 | (go_at_call 73; (with_reducible refine (BD01q3 _ S01q3 A01q3 P01q3).mono ?_); rintro e w01q3 ⟨bw01q3, rfl, ho01q3, hnw01q3, hP01q3, hm01q3⟩; obtain ⟨ao01q3, cap01q3, rfl, _, _⟩ := ho01q3.sl.form; have SQ01q3 := S12.rd hm01q3 hP01q3; have zt01q30 := (SQ01q3.blk 4 rfl).cell' (i := 0) rfl; have zt01q31 := (SQ01q3.blk 4 rfl).cell' (i := 1) rfl; have zt01q32 := (SQ01q3.blk 4 rfl).cell' (i := 2) rfl; have zt01q33 := (SQ01q3.blk 4 rfl).cell' (i := 3) rfl; have yt01q30 := (SQ01q3.blk 1 rfl).cell' (i := 4) rfl; have yt01q31 := (SQ01q3.blk 1 rfl).cell' (i := 5) rfl; have yt01q32 := (SQ01q3.blk 1 rfl).cell' (i := 6) rfl; have yt01q33 := (SQ01q3.blk 1 rfl).cell' (i := 7) rfl; have xt01q30 := (SQ01q3.blk 0 rfl).cell' (i := 0) rfl; have xt01q31 := (SQ01q3.blk 0 rfl).cell' (i := 1) rfl; have y10r40 := (SQ01q3.blk 1 rfl).cell' (i := 0) rfl; have y10r41 := (SQ01q3.blk 1 rfl).cell' (i := 1) rfl; have y10r42 := (SQ01q3.blk 1 rfl).cell' (i := 2) rfl; have y10r43 := (SQ01q3.blk 1 rfl).cell' (i := 3) rfl; have S10r4 : Slr w01q3 r h k := hS.mod SQ01q3.M hrP'; have A10r4 : Rgr w01q3 h P f0 c := hA.mod SQ01q3.M hhP'; have P10r4 := SQ01q3.P)
                                 | (go_at_call 73; (with_reducible refine (BD10r4 _ S10r4 A10r4 P10r4).mono ?_); rintro e w10r4 ⟨bw10r4, rfl, ho10r4, hnw10r4, hP10r4, hm10r4⟩; obtain ⟨ao10r4, cap10r4, rfl, _, _⟩ := ho10r4.sl.form; have SQ10r4 := SQ01q3.rd hm10r4 hP10r4; have zt10r40 := (SQ10r4.blk 4 rfl).cell' (i := 0) rfl; have zt10r41 := (SQ10r4.blk 4 rfl).cell' (i := 1) rfl; have zt10r42 := (SQ10r4.blk 4 rfl).cell' (i := 2) rfl; have zt10r43 := (SQ10r4.blk 4 rfl).cell' (i := 3) rfl; have yt10r40 := (SQ10r4.blk 1 rfl).cell' (i := 0) rfl; have yt10r41 := (SQ10r4.blk 1 rfl).cell' (i := 1) rfl; have yt10r42 := (SQ10r4.blk 1 rfl).cell' (i := 2) rfl; have yt10r43 := (SQ10r4.blk 1 rfl).cell' (i := 3) rfl))
                   refine StopOp.go rfl fun K hK => ?_
                   refine wp_store (u := .agg #[.int .u64 (g0 : Nat), .int .u64 (c0 : Nat), .int .i64 l0, .int .u32 (s0 : Nat)]) (by rfl) (by rfl) (by kernel_rfl) (SQ10r4.blk 5 rfl) (by simp [Value.cells]) (by simp [Value.cells, Value.oneCell']) ?_
                   intro w90 hm90 hB90
                   refine hK _ _ ?_
                   clear hK K
                   have z0 := hB90.cell' (i := 0) rfl
                   have z1 := hB90.cell' (i := 1) rfl
                   have z2 := hB90.cell' (i := 2) rfl
                   have z3 := hB90.cell' (i := 3) rfl
                   have hfin := SQ10r4.set (i := 5) rfl hm90 hB90 rfl
                   have hlaw : R0 = _ := (hr.trans (bodG_n hg1 HR01q3.out.symm HQ01q3.out)).trans (bodG_y hg0 HR10r4.out.symm HQ10r4.out)
                   go_wp2_with fail
                   refine bodyPost_ret (v := .tuple #[.agg #[.int .u64 (g0 : Nat), .int .u64 (c0 : Nat), .int .i64 l0, .int .u32 (s0 : Nat)], .slice ao10r4 B10r4.length cap10r4, .int .i64 0, .int .i64 0]) (by simp [results, Tryz.results21, go_sem, z0, z1, z2, z3]) rfl ?_
                   rw [hlaw]
                   exact ⟨_, rfl, Ow.mod ho10r4 hm90 (fun k hk hh => by have e : k = g := (by simpa using hh); exact Ow.ne ho10r4 (SQ10r4.blk 5 rfl) (by decide) (e ▸ hk)), fun k hk => Nat.le_trans SQ01q3.M.size (hnw10r4 k hk), hfin.P, hfin.M⟩
                 | false =>
                   have hq10r4 : crcS B10r4 ≠ s0 := fun hh => of_decide_eq_false HK10r4.out.symm ⟨rfl, hh⟩
                   have HQ10r4 := Lib.hid hq10r4
                   clear hq10r4
                   go_wp2_with (first
                                 | (with_reducible refine st_store ?_)
                                 | (with_reducible refine LoopN.step (fun _ _ => ?_))
                                 | (with_reducible refine wp_loopN 2 (fun _ _ => ?_))
                                 | (go_at_call 73; (with_reducible refine (BD01q3 _ S01q3 A01q3 P01q3).mono ?_); rintro e w01q3 ⟨bw01q3, rfl, ho01q3, hnw01q3, hP01q3, hm01q3⟩; obtain ⟨ao01q3, cap01q3, rfl, _, _⟩ := ho01q3.sl.form; have SQ01q3 := S12.rd hm01q3 hP01q3; have zt01q30 := (SQ01q3.blk 4 rfl).cell' (i := 0) rfl; have zt01q31 := (SQ01q3.blk 4 rfl).cell' (i := 1) rfl; have zt01q32 := (SQ01q3.blk 4 rfl).cell' (i := 2) rfl; have zt01q33 := (SQ01q3.blk 4 rfl).cell' (i := 3) rfl; have yt01q30 := (SQ01q3.blk 1 rfl).cell' (i := 4) rfl; have yt01q31 := (SQ01q3.blk 1 rfl).cell' (i := 5) rfl; have yt01q32 := (SQ01q3.blk 1 rfl).cell' (i := 6) rfl; have yt01q33 := (SQ01q3.blk 1 rfl).cell' (i := 7) rfl; have xt01q30 := (SQ01q3.blk 0 rfl).cell' (i := 0) rfl; have xt01q31 := (SQ01q3.blk 0 rfl).cell' (i := 1) rfl; have y10r40 := (SQ01q3.blk 1 rfl).cell' (i := 0) rfl; have y10r41 := (SQ01q3.blk 1 rfl).cell' (i := 1) rfl; have y10r42 := (SQ01q3.blk 1 rfl).cell' (i := 2) rfl; have y10r43 := (SQ01q3.blk 1 rfl).cell' (i := 3) rfl; have S10r4 : Slr w01q3 r h k := hS.mod SQ01q3.M hrP'; have A10r4 : Rgr w01q3 h P f0 c := hA.mod SQ01q3.M hhP'; have P10r4 := SQ01q3.P)
                                 | (go_at_call 73; (with_reducible refine (BD10r4 _ S10r4 A10r4 P10r4).mono ?_); rintro e w10r4 ⟨bw10r4, rfl, ho10r4, hnw10r4, hP10r4, hm10r4⟩; obtain ⟨ao10r4, cap10r4, rfl, _, _⟩ := ho10r4.sl.form; have SQ10r4 := SQ01q3.rd hm10r4 hP10r4; have zt10r40 := (SQ10r4.blk 4 rfl).cell' (i := 0) rfl; have zt10r41 := (SQ10r4.blk 4 rfl).cell' (i := 1) rfl; have zt10r42 := (SQ10r4.blk 4 rfl).cell' (i := 2) rfl; have zt10r43 := (SQ10r4.blk 4 rfl).cell' (i := 3) rfl; have yt10r40 := (SQ10r4.blk 1 rfl).cell' (i := 0) rfl; have yt10r41 := (SQ10r4.blk 1 rfl).cell' (i := 1) rfl; have yt10r42 := (SQ10r4.blk 1 rfl).cell' (i := 2) rfl; have yt10r43 := (SQ10r4.blk 1 rfl).cell' (i := 3) rfl))
                   refine StopOp.go rfl fun K hK => ?_
                   refine wp_store (u := .agg #[.int .u64 0, .int .u64 0, .int .i64 0, .int .u32 0]) (by rfl) (by rfl) (by kernel_rfl) (SQ10r4.blk 5 rfl) (by simp [Value.cells]) (by simp [Value.cells, Value.oneCell']) ?_
                   intro w90 hm90 hB90
                   refine hK _ _ ?_
                   clear hK K
                   have z0 := hB90.cell' (i := 0) rfl
                   have z1 := hB90.cell' (i := 1) rfl
                   have z2 := hB90.cell' (i := 2) rfl
                   have z3 := hB90.cell' (i := 3) rfl
                   have hfin := SQ10r4.set (i := 5) rfl hm90 hB90 rfl
                   have hlaw : R0 = _ := (hr.trans (bodG_n hg1 HR01q3.out.symm HQ01q3.out)).trans (bodG_n hg0 HR10r4.out.symm HQ10r4.out)
                   go_wp2_with fail
                   refine bodyPost_ret (v := .tuple #[.agg #[.int .u64 0, .int .u64 0, .int .i64 0, .int .u32 0], .slice none 0 0, .int .i64 (-1), .int .i64 0]) (by simp [results, Tryz.results21, go_sem, z0, z1, z2, z3]) rfl ?_
                   rw [hlaw]
                   exact ⟨_, rfl, Ob.nil _, by simp [New, blks], hfin.P, hfin.M⟩
               · have dE10r4 : (E10r4 != 0) = true := bne_iff_ne.2 hE10r4
                 go_wp2_with (first
                               | (with_reducible refine st_store ?_)
                               | (with_reducible refine LoopN.step (fun _ _ => ?_))
                               | (with_reducible refine wp_loopN 2 (fun _ _ => ?_))
                               | (go_at_call 73; (with_reducible refine (BD01q3 _ S01q3 A01q3 P01q3).mono ?_); rintro e w01q3 ⟨bw01q3, rfl, ho01q3, hnw01q3, hP01q3, hm01q3⟩; obtain ⟨ao01q3, cap01q3, rfl, _, _⟩ := ho01q3.sl.form; have SQ01q3 := S12.rd hm01q3 hP01q3; have zt01q30 := (SQ01q3.blk 4 rfl).cell' (i := 0) rfl; have zt01q31 := (SQ01q3.blk 4 rfl).cell' (i := 1) rfl; have zt01q32 := (SQ01q3.blk 4 rfl).cell' (i := 2) rfl; have zt01q33 := (SQ01q3.blk 4 rfl).cell' (i := 3) rfl; have yt01q30 := (SQ01q3.blk 1 rfl).cell' (i := 4) rfl; have yt01q31 := (SQ01q3.blk 1 rfl).cell' (i := 5) rfl; have yt01q32 := (SQ01q3.blk 1 rfl).cell' (i := 6) rfl; have yt01q33 := (SQ01q3.blk 1 rfl).cell' (i := 7) rfl; have xt01q30 := (SQ01q3.blk 0 rfl).cell' (i := 0) rfl; have xt01q31 := (SQ01q3.blk 0 rfl).cell' (i := 1) rfl; have y10r40 := (SQ01q3.blk 1 rfl).cell' (i := 0) rfl; have y10r41 := (SQ01q3.blk 1 rfl).cell' (i := 1) rfl; have y10r42 := (SQ01q3.blk 1 rfl).cell' (i := 2) rfl; have y10r43 := (SQ01q3.blk 1 rfl).cell' (i := 3) rfl; have S10r4 : Slr w01q3 r h k := hS.mod SQ01q3.M hrP'; have A10r4 : Rgr w01q3 h P f0 c := hA.mod SQ01q3.M hhP'; have P10r4 := SQ01q3.P)
                               | (go_at_call 73; (with_reducible refine (BD10r4 _ S10r4 A10r4 P10r4).mono ?_); rintro e w10r4 ⟨bw10r4, rfl, ho10r4, hnw10r4, hP10r4, hm10r4⟩; obtain ⟨ao10r4, cap10r4, rfl, _, _⟩ := ho10r4.sl.form; have SQ10r4 := SQ01q3.rd hm10r4 hP10r4; have zt10r40 := (SQ10r4.blk 4 rfl).cell' (i := 0) rfl; have zt10r41 := (SQ10r4.blk 4 rfl).cell' (i := 1) rfl; have zt10r42 := (SQ10r4.blk 4 rfl).cell' (i := 2) rfl; have zt10r43 := (SQ10r4.blk 4 rfl).cell' (i := 3) rfl; have yt10r40 := (SQ10r4.blk 1 rfl).cell' (i := 0) rfl; have yt10r41 := (SQ10r4.blk 1 rfl).cell' (i := 1) rfl; have yt10r42 := (SQ10r4.blk 1 rfl).cell' (i := 2) rfl; have yt10r43 := (SQ10r4.blk 1 rfl).cell' (i := 3) rfl))
                 refine StopOp.go rfl fun K hK => ?_
                 refine wp_store (u := .agg #[.int .u64 0, .int .u64 0, .int .i64 0, .int .u32 0]) (by rfl) (by rfl) (by kernel_rfl) (SQ10r4.blk 5 rfl) (by simp [Value.cells]) (by simp [Value.cells, Value.oneCell']) ?_
                 intro w90 hm90 hB90
                 refine hK _ _ ?_
                 clear hK K
                 have z0 := hB90.cell' (i := 0) rfl
                 have z1 := hB90.cell' (i := 1) rfl
                 have z2 := hB90.cell' (i := 2) rfl
                 have z3 := hB90.cell' (i := 3) rfl
                 have hfin := SQ10r4.set (i := 5) rfl hm90 hB90 rfl
                 have hlaw : R0 = _ := (hr.trans (bodG_n hg1 HR01q3.out.symm HQ01q3.out)).trans (bodG_e hg0 HR10r4.out.symm hE10r4)
                 go_wp2_with fail
                 refine bodyPost_ret (v := .tuple #[.agg #[.int .u64 0, .int .u64 0, .int .i64 0, .int .u32 0], .slice none 0 0, .int .i64 0, .int .i64 E10r4]) (by simp [results, Tryz.results21, go_sem, z0, z1, z2, z3]) rfl ?_
                 rw [hlaw]
                 exact ⟨_, rfl, Ob.nil _, by simp [New, blks], hfin.P, hfin.M⟩
           · have dE01q3 : (E01q3 != 0) = true := bne_iff_ne.2 hE01q3
             go_wp2_with (first
                           | (with_reducible refine st_store ?_)
                           | (with_reducible refine LoopN.step (fun _ _ => ?_))
                           | (with_reducible refine wp_loopN 2 (fun _ _ => ?_))
                           | (go_at_call 73; (with_reducible refine (BD01q3 _ S01q3 A01q3 P01q3).mono ?_); rintro e w01q3 ⟨bw01q3, rfl, ho01q3, hnw01q3, hP01q3, hm01q3⟩; obtain ⟨ao01q3, cap01q3, rfl, _, _⟩ := ho01q3.sl.form; have SQ01q3 := S12.rd hm01q3 hP01q3; have zt01q30 := (SQ01q3.blk 4 rfl).cell' (i := 0) rfl; have zt01q31 := (SQ01q3.blk 4 rfl).cell' (i := 1) rfl; have zt01q32 := (SQ01q3.blk 4 rfl).cell' (i := 2) rfl; have zt01q33 := (SQ01q3.blk 4 rfl).cell' (i := 3) rfl; have yt01q30 := (SQ01q3.blk 1 rfl).cell' (i := 4) rfl; have yt01q31 := (SQ01q3.blk 1 rfl).cell' (i := 5) rfl; have yt01q32 := (SQ01q3.blk 1 rfl).cell' (i := 6) rfl; have yt01q33 := (SQ01q3.blk 1 rfl).cell' (i := 7) rfl; have xt01q30 := (SQ01q3.blk 0 rfl).cell' (i := 0) rfl; have xt01q31 := (SQ01q3.blk 0 rfl).cell' (i := 1) rfl))
             refine StopOp.go rfl fun K hK => ?_
             refine wp_store (u := .agg #[.int .u64 0, .int .u64 0, .int .i64 0, .int .u32 0]) (by rfl) (by rfl) (by kernel_rfl) (SQ01q3.blk 5 rfl) (by simp [Value.cells]) (by simp [Value.cells, Value.oneCell']) ?_
             intro w90 hm90 hB90
             refine hK _ _ ?_
             clear hK K
             have z0 := hB90.cell' (i := 0) rfl
             have z1 := hB90.cell' (i := 1) rfl
             have z2 := hB90.cell' (i := 2) rfl
             have z3 := hB90.cell' (i := 3) rfl
             have hfin := SQ01q3.set (i := 5) rfl hm90 hB90 rfl
             have hlaw : R0 = _ := hr.trans (bodG_e hg1 HR01q3.out.symm hE01q3)
             go_wp2_with fail
             refine bodyPost_ret (v := .tuple #[.agg #[.int .u64 0, .int .u64 0, .int .i64 0, .int .u32 0], .slice none 0 0, .int .i64 0, .int .i64 E01q3]) (by simp [results, Tryz.results21, go_sem, z0, z1, z2, z3]) rfl ?_
             rw [hlaw]
             exact ⟨_, rfl, Ob.nil _, by simp [New, blks], hfin.P, hfin.M⟩
         · have hr : R0 = bodG c z V1 [(f0, 0, ⟨g0, c0, l0, s0⟩), (f1, 1, ⟨g1, c1, l1, s1⟩)] := hrr.trans (if_neg hlt)
           have ylt : (g1 : Int) ≤ g0 := by omega
           clear hrr HF HRR
           go_enter Tryz.func21, Tryz.ntmps21
           go_wp2_with (with_reducible refine st_alloc ?_)
           refine StopOp.go rfl fun K hK => ?_
           refine wp_alloc zero_header ?_
           intro g w1 hga hgb hm1 hG1
           simp only [put_some, List.set_cons_succ, List.set_cons_zero]
           refine hK _ _ ?_
           clear hK K
           have S1 := SQ0.new (cs := [.int .u64 0, .int .u64 0, .int .i64 0, .int .u32 0]) hm1 hga hG1
           go_wp2_with (with_reducible refine st_alloc ?_)
           refine StopOp.go rfl fun K hK => ?_
           refine wp_alloc zero_header ?_
           intro t6 w2 h61 h62 hm2 hG2
           simp only [put_some, List.set_cons_succ, List.set_cons_zero]
           refine hK _ _ ?_
           clear hK K
           go_wp2_with (with_reducible refine st_store ?_)
           refine StopOp.go rfl fun K hK => ?_
           refine wp_store (u := .agg #[.int .u64 0, .int .u64 0, .int .i64 0, .int .u32 0]) (by rfl) (by rfl) (by kernel_rfl) hG2 (by simp [Value.cells]) (by simp [Value.cells, Value.oneCell']) ?_
           intro w3 hm3 hG3
           refine hK _ _ ?_
           clear hK K
           have S3 := (S1.new (cs := [.int .u64 0, .int .u64 0, .int .i64 0, .int .u32 0]) hm2 h61 hG2).set (i := 0) (cs' := [.int .u64 0, .int .u64 0, .int .i64 0, .int .u32 0]) rfl hm3 hG3 rfl
           clear hG1 hG2 hG3 hm1 hm2 hm3 S1
           go_wp2_with (first
                         | (with_reducible refine st_alloc ?_)
                         | (go_at_call 72; (with_reducible refine (HN0 _ (hS.mod S3.M hrP') (hA.mod S3.M hhP') S3.P).mono ?_); rintro e w4 ⟨rfl, hP4, hm4⟩))
           have S4 := S3.rd hm4 hP4
           refine StopOp.go rfl fun K hK => ?_
           refine wp_alloc zero_header ?_
           intro t7 w5 h51 h52 hm5 hB5
           simp only [put_some, List.set_cons_succ, List.set_cons_zero]
           refine hK _ _ ?_
           clear hK K
           go_wp2_with (with_reducible refine st_store ?_)
           refine StopOp.go rfl fun K hK => ?_
           refine wp_store (u := .agg #[.int .u64 (g0 : Nat), .int .u64 (c0 : Nat), .int .i64 l0, .int .u32 (s0 : Nat)]) (by rfl) (by rfl) (by kernel_rfl) hB5 (by simp [Value.cells]) (by simp [Value.cells, Value.oneCell']) ?_
           intro w6 hm6 hB6
           refine hK _ _ ?_
           clear hK K
           have S7 := (S4.new (cs := [.int .u64 0, .int .u64 0, .int .i64 0, .int .u32 0]) hm5 h51 hB5).set (i := 0) (cs' := [.int .u64 (g0 : Nat), .int .u64 (c0 : Nat), .int .i64 l0, .int .u32 (s0 : Nat)]) rfl hm6 hB6 rfl
           clear hB5 hB6 hm5 hm6 S4 S3 hm4 hP4
           go_wp2_with (first
                         | (with_reducible refine st_alloc ?_)
                         | (go_at_call 72; (with_reducible refine (HN1 _ (hS.mod S7.M hrP') (hB.mod S7.M hkP') (hA.mod S7.M hhP') S7.P).mono ?_); rintro e w8 ⟨rfl, hP8, hm8⟩))
           have S8 := S7.rd hm8 hP8
           refine StopOp.go rfl fun K hK => ?_
           refine wp_alloc zero_header ?_
           intro t10 w9 h91 h92 hm9 hB9
           simp only [put_some, List.set_cons_succ, List.set_cons_zero]
           refine hK _ _ ?_
           clear hK K
           go_wp2_with (with_reducible refine st_store ?_)
           refine StopOp.go rfl fun K hK => ?_
           refine wp_store (u := .agg #[.int .u64 (g1 : Nat), .int .u64 (c1 : Nat), .int .i64 l1, .int .u32 (s1 : Nat)]) (by rfl) (by rfl) (by kernel_rfl) hB9 (by simp [Value.cells]) (by simp [Value.cells, Value.oneCell']) ?_
           intro w10 hm10 hB10
           refine hK _ _ ?_
           clear hK K
           have S10 := (S8.new hm9 h91 hB9).set (i := 0) (cs' := [.int .u64 (g1 : Nat), .int .u64 (c1 : Nat), .int .i64 l1, .int .u32 (s1 : Nat)]) rfl hm10 hB10 rfl
           clear hB9 hB10 hm9 hm10 S8 hm8 hP8 S7
           have e00 := (S10.blk 0 rfl).cell' (i := 0) rfl
           have e01 := (S10.blk 0 rfl).cell' (i := 1) rfl
           have e02 := (S10.blk 0 rfl).cell' (i := 2) rfl
           have e03 := (S10.blk 0 rfl).cell' (i := 3) rfl
           have e10 := (S10.blk 1 rfl).cell' (i := 0) rfl
           have e11 := (S10.blk 1 rfl).cell' (i := 1) rfl
           have e12 := (S10.blk 1 rfl).cell' (i := 2) rfl
           have e13 := (S10.blk 1 rfl).cell' (i := 3) rfl
           go_wp2_with (with_reducible refine st_bslice ?_)
           refine StopOp.go rfl fun K hK => ?_
           refine wp_bslice stHD [.agg #[.int .u64 (g0 : Nat), .int .u64 (c0 : Nat), .int .i64 l0, .int .u32 (s0 : Nat)], .agg #[.int .u64 (g1 : Nat), .int .u64 (c1 : Nat), .int .i64 l1, .int .u32 (s1 : Nat)]] rfl (by decide) (by rfl) (by simp [Value.cells]) ?_
           intro hb w11 hb1 hb2 hm11 hB11
           simp only [put_some, List.set_cons_succ, List.set_cons_zero]
           refine hK _ _ ?_
           clear hK K
           have hB11' : Blk w11 hb 25 [.int .u64 (g0 : Nat), .int .u64 (c0 : Nat), .int .i64 l0, .int .u32 (s0 : Nat), .int .u64 (g1 : Nat), .int .u64 (c1 : Nat), .int .i64 l1, .int .u32 (s1 : Nat)] := hB11
           have S11 := S10.new hm11 hb1 hB11'
           go_wp2_with (with_reducible refine st_bslice ?_)
           refine StopOp.go rfl fun K hK => ?_
           refine wp_bslice stBO [.bool true, .bool true] rfl (by decide) (by rfl) (by simp [Value.cells]) ?_
           intro fb w12 fb1 fb2 hm12 hB12
           simp only [put_some, List.set_cons_succ, List.set_cons_zero]
           refine hK _ _ ?_
           clear hK K
           have hB12' : Blk w12 fb 4 [.bool true, .bool true] := hB12
           have S12 := S11.new hm12 fb1 hB12'
           clear hB11 hB12 hB11' hB12' hm11 hm12 S11 e00 e01 e02 e03 e10 e11 e12 e13
           have v0 := (S12.blk 0 rfl).cell' (i := 0) rfl
           have v1 := (S12.blk 0 rfl).cell' (i := 1) rfl
           have o0 := (S12.blk 2 rfl).cell' (i := 0) rfl
           have o1 := (S12.blk 3 rfl).cell' (i := 0) rfl
           obtain ⟨⟨W00q5, E00q5, B00q5⟩, hR00q5⟩ : ∃ R, R = rdA f0 c z V1 z l0 := ⟨_, rfl⟩
           have BD00q5 := fun w hS hR hP => rbody_any r h k h P Q f0 c z g0 c0 s0 0 l0 V1 M w (rslot0 r h k) hS hR hP (by rw [hmV1]; exact hz) (by rw [hmV1]; exact hf0) (by have := hnV1; omega) hi0
           unfold HbodyP at BD00q5
           rw [← hR00q5] at BD00q5
           obtain ⟨hms00q5, hns00q5⟩ := rdA_sz f0 c z V1 z l0
           rw [← hR00q5] at hms00q5 hns00q5
           dsimp only at BD00q5 hms00q5 hns00q5
           have hmW00q5 : W00q5.m = u.m := hms00q5.trans hmV1
           have hnW00q5 : W00q5.n ≤ u.n + 3 * (c * z) := by have := hnV1; omega
           have HR00q5 := Lib.hid hR00q5
           clear hR00q5 hms00q5 hns00q5
           have S00q5 : Slr w12 r h k := hS.mod S12.M hrP'
           have A00q5 : Rgr w12 h P f0 c := hA.mod S12.M hhP'
           have P00q5 := S12.P
           have x00q50 := (S12.blk 0 rfl).cell' (i := 0) rfl
           have x00q51 := (S12.blk 0 rfl).cell' (i := 1) rfl
           have y00q50 := (S12.blk 1 rfl).cell' (i := 0) rfl
           have y00q51 := (S12.blk 1 rfl).cell' (i := 1) rfl
           have y00q52 := (S12.blk 1 rfl).cell' (i := 2) rfl
           have y00q53 := (S12.blk 1 rfl).cell' (i := 3) rfl
           obtain ⟨ok00q5, hok00q5⟩ : ∃ b, b = decide (E00q5 = 0 ∧ crcS B00q5 = s0) := ⟨_, rfl⟩
           rw [← hok00q5] at BD00q5
           have HK00q5 := Lib.hid hok00q5
           clear hok00q5
           by_cases hE00q5 : E00q5 = 0
           · subst hE00q5
             cases ok00q5 with
             | true =>
               have hq00q5 : crcS B00q5 = s0 := (of_decide_eq_true HK00q5.out.symm).2
               have HQ00q5 := Lib.hid hq00q5
               clear hq00q5
               go_wp2_with (first
                             | (with_reducible refine st_store ?_)
                             | (with_reducible refine LoopN.step (fun _ _ => ?_))
                             | (with_reducible refine wp_loopN 2 (fun _ _ => ?_))
                             | (go_at_call 73; (with_reducible refine (BD00q5 _ S00q5 A00q5 P00q5).mono ?_); rintro e w00q5 ⟨bw00q5, rfl, ho00q5, hnw00q5, hP00q5, hm00q5⟩; obtain ⟨ao00q5, cap00q5, rfl, _, _⟩ := ho00q5.sl.form; have SQ00q5 := S12.rd hm00q5 hP00q5; have zt00q50 := (SQ00q5.blk 4 rfl).cell' (i := 0) rfl; have zt00q51 := (SQ00q5.blk 4 rfl).cell' (i := 1) rfl; have zt00q52 := (SQ00q5.blk 4 rfl).cell' (i := 2) rfl; have zt00q53 := (SQ00q5.blk 4 rfl).cell' (i := 3) rfl; have yt00q50 := (SQ00q5.blk 1 rfl).cell' (i := 0) rfl; have yt00q51 := (SQ00q5.blk 1 rfl).cell' (i := 1) rfl; have yt00q52 := (SQ00q5.blk 1 rfl).cell' (i := 2) rfl; have yt00q53 := (SQ00q5.blk 1 rfl).cell' (i := 3) rfl; have xt00q50 := (SQ00q5.blk 0 rfl).cell' (i := 0) rfl; have xt00q51 := (SQ00q5.blk 0 rfl).cell' (i := 1) rfl))
               refine StopOp.go rfl fun K hK => ?_
               refine wp_store (u := .agg #[.int .u64 (g0 : Nat), .int .u64 (c0 : Nat), .int .i64 l0, .int .u32 (s0 : Nat)]) (by rfl) (by rfl) (by kernel_rfl) (SQ00q5.blk 5 rfl) (by simp [Value.cells]) (by simp [Value.cells, Value.oneCell']) ?_
               intro w90 hm90 hB90
               refine hK _ _ ?_
               clear hK K
               have z0 := hB90.cell' (i := 0) rfl
               have z1 := hB90.cell' (i := 1) rfl
               have z2 := hB90.cell' (i := 2) rfl
               have z3 := hB90.cell' (i := 3) rfl
               have hfin := SQ00q5.set (i := 5) rfl hm90 hB90 rfl
               have hlaw : R0 = _ := hr.trans (bodG_y hg0 HR00q5.out.symm HQ00q5.out)
               go_wp2_with fail
               refine bodyPost_ret (v := .tuple #[.agg #[.int .u64 (g0 : Nat), .int .u64 (c0 : Nat), .int .i64 l0, .int .u32 (s0 : Nat)], .slice ao00q5 B00q5.length cap00q5, .int .i64 0, .int .i64 0]) (by simp [results, Tryz.results21, go_sem, z0, z1, z2, z3]) rfl ?_
               rw [hlaw]
               exact ⟨_, rfl, Ow.mod ho00q5 hm90 (fun k hk hh => by have e : k = g := (by simpa using hh); exact Ow.ne ho00q5 (SQ00q5.blk 5 rfl) (by decide) (e ▸ hk)), fun k hk => Nat.le_trans S12.M.size (hnw00q5 k hk), hfin.P, hfin.M⟩
             | false =>
               have hq00q5 : crcS B00q5 ≠ s0 := fun hh => of_decide_eq_false HK00q5.out.symm ⟨rfl, hh⟩
               have HQ00q5 := Lib.hid hq00q5
               clear hq00q5
               obtain ⟨⟨W11r6, E11r6, B11r6⟩, hR11r6⟩ : ∃ R, R = rdA f1 c z W00q5 z l1 := ⟨_, rfl⟩
               have BD11r6 := fun w hS hR hP => rbody_any r h k k P Q f1 c z g1 c1 s1 1 l1 W00q5 M w (rslot1 r h k) hS hR hP (by rw [hmW00q5]; exact hz) (by rw [hmW00q5]; exact hf1) (by have := hnW00q5; omega) hi1
               unfold HbodyP at BD11r6
               rw [← hR11r6] at BD11r6
               dsimp only at BD11r6
               have HR11r6 := Lib.hid hR11r6
               clear hR11r6
               obtain ⟨ok11r6, hok11r6⟩ : ∃ b, b = decide (E11r6 = 0 ∧ crcS B11r6 = s1) := ⟨_, rfl⟩
               rw [← hok11r6] at BD11r6
               have HK11r6 := Lib.hid hok11r6
               clear hok11r6
               by_cases hE11r6 : E11r6 = 0
               · subst hE11r6
                 cases ok11r6 with
                 | true =>
                   have hq11r6 : crcS B11r6 = s1 := (of_decide_eq_true HK11r6.out.symm).2
                   have HQ11r6 := Lib.hid hq11r6
                   clear hq11r6
                   go_wp2_with (first
                                 | (with_reducible refine st_store ?_)
                                 | (with_reducible refine LoopN.step (fun _ _ => ?_))
                                 | (with_reducible refine wp_loopN 2 (fun _ _ => ?_))
                                 | (go_at_call 73; (with_reducible refine (BD00q5 _ S00q5 A00q5 P00q5).mono ?_); rintro e w00q5 ⟨bw00q5, rfl, ho00q5, hnw00q5, hP00q5, hm00q5⟩; obtain ⟨ao00q5, cap00q5, rfl, _, _⟩ := ho00q5.sl.form; have SQ00q5 := S12.rd hm00q5 hP00q5; have zt00q50 := (SQ00q5.blk 4 rfl).cell' (i := 0) rfl; have zt00q51 := (SQ00q5.blk 4 rfl).cell' (i := 1) rfl; have zt00q52 := (SQ00q5.blk 4 rfl).cell' (i := 2) rfl; have zt00q53 := (SQ00q5.blk 4 rfl).cell' (i := 3) rfl; have yt00q50 := (SQ00q5.blk 1 rfl).cell' (i := 0) rfl; have yt00q51 := (SQ00q5.blk 1 rfl).cell' (i := 1) rfl; have yt00q52 := (SQ00q5.blk 1 rfl).cell' (i := 2) rfl; have yt00q53 := (SQ00q5.blk 1 rfl).cell' (i := 3) rfl; have xt00q50 := (SQ00q5.blk 0 rfl).cell' (i := 0) rfl; have xt00q51 := (SQ00q5.blk 0 rfl).cell' (i := 1) rfl; have y11r60 := (SQ00q5.blk 1 rfl).cell' (i := 4) rfl; have y11r61 := (SQ00q5.blk 1 rfl).cell' (i := 5) rfl; have y11r62 := (SQ00q5.blk 1 rfl).cell' (i := 6) rfl; have y11r63 := (SQ00q5.blk 1 rfl).cell' (i := 7) rfl; have S11r6 : Slr w00q5 r h k := hS.mod SQ00q5.M hrP'; have A11r6 : Rgr w00q5 k P f1 c := hB.mod SQ00q5.M hkP'; have P11r6 := SQ00q5.P)
                                 | (go_at_call 73; (with_reducible refine (BD11r6 _ S11r6 A11r6 P11r6).mono ?_); rintro e w11r6 ⟨bw11r6, rfl, ho11r6, hnw11r6, hP11r6, hm11r6⟩; obtain ⟨ao11r6, cap11r6, rfl, _, _⟩ := ho11r6.sl.form; have SQ11r6 := SQ00q5.rd hm11r6 hP11r6; have zt11r60 := (SQ11r6.blk 4 rfl).cell' (i := 0) rfl; have zt11r61 := (SQ11r6.blk 4 rfl).cell' (i := 1) rfl; have zt11r62 := (SQ11r6.blk 4 rfl).cell' (i := 2) rfl; have zt11r63 := (SQ11r6.blk 4 rfl).cell' (i := 3) rfl; have yt11r60 := (SQ11r6.blk 1 rfl).cell' (i := 4) rfl; have yt11r61 := (SQ11r6.blk 1 rfl).cell' (i := 5) rfl; have yt11r62 := (SQ11r6.blk 1 rfl).cell' (i := 6) rfl; have yt11r63 := (SQ11r6.blk 1 rfl).cell' (i := 7) rfl))
                   refine StopOp.go rfl fun K hK => ?_
                   refine wp_store (u := .agg #[.int .u64 (g1 : Nat), .int .u64 (c1 : Nat), .int .i64 l1, .int .u32 (s1 : Nat)]) (by rfl) (by rfl) (by kernel_rfl) (SQ11r6.blk 5 rfl) (by simp [Value.cells]) (by simp [Value.cells, Value.oneCell']) ?_
                   intro w90 hm90 hB90
                   refine hK _ _ ?_
                   clear hK K
                   have z0 := hB90.cell' (i := 0) rfl
                   have z1 := hB90.cell' (i := 1) rfl
                   have z2 := hB90.cell' (i := 2) rfl
                   have z3 := hB90.cell' (i := 3) rfl
                   have hfin := SQ11r6.set (i := 5) rfl hm90 hB90 rfl
                   have hlaw : R0 = _ := (hr.trans (bodG_n hg0 HR00q5.out.symm HQ00q5.out)).trans (bodG_y hg1 HR11r6.out.symm HQ11r6.out)
                   go_wp2_with fail
                   refine bodyPost_ret (v := .tuple #[.agg #[.int .u64 (g1 : Nat), .int .u64 (c1 : Nat), .int .i64 l1, .int .u32 (s1 : Nat)], .slice ao11r6 B11r6.length cap11r6, .int .i64 1, .int .i64 0]) (by simp [results, Tryz.results21, go_sem, z0, z1, z2, z3]) rfl ?_
                   rw [hlaw]
                   exact ⟨_, rfl, Ow.mod ho11r6 hm90 (fun k hk hh => by have e : k = g := (by simpa using hh); exact Ow.ne ho11r6 (SQ11r6.blk 5 rfl) (by decide) (e ▸ hk)), fun k hk => Nat.le_trans SQ00q5.M.size (hnw11r6 k hk), hfin.P, hfin.M⟩
                 | false =>
                   have hq11r6 : crcS B11r6 ≠ s1 := fun hh => of_decide_eq_false HK11r6.out.symm ⟨rfl, hh⟩
                   have HQ11r6 := Lib.hid hq11r6
                   clear hq11r6
                   go_wp2_with (first
                                 | (with_reducible refine st_store ?_)
                                 | (with_reducible refine LoopN.step (fun _ _ => ?_))
                                 | (with_reducible refine wp_loopN 2 (fun _ _ => ?_))
                                 | (go_at_call 73; (with_reducible refine (BD00q5 _ S00q5 A00q5 P00q5).mono ?_); rintro e w00q5 ⟨bw00q5, rfl, ho00q5, hnw00q5, hP00q5, hm00q5⟩; obtain ⟨ao00q5, cap00q5, rfl, _, _⟩ := ho00q5.sl.form; have SQ00q5 := S12.rd hm00q5 hP00q5; have zt00q50 := (SQ00q5.blk 4 rfl).cell' (i := 0) rfl; have zt00q51 := (SQ00q5.blk 4 rfl).cell' (i := 1) rfl; have zt00q52 := (SQ00q5.blk 4 rfl).cell' (i := 2) rfl; have zt00q53 := (SQ00q5.blk 4 rfl).cell' (i := 3) rfl; have yt00q50 := (SQ00q5.blk 1 rfl).cell' (i := 0) rfl; have yt00q51 := (SQ00q5.blk 1 rfl).cell' (i := 1) rfl; have yt00q52 := (SQ00q5.blk 1 rfl).cell' (i := 2) rfl; have yt00q53 := (SQ00q5.blk 1 rfl).cell' (i := 3) rfl; have xt00q50 := (SQ00q5.blk 0 rfl).cell' (i := 0) rfl; have xt00q51 := (SQ00q5.blk 0 rfl).cell' (i := 1) rfl; have y11r60 := (SQ00q5.blk 1 rfl).cell' (i := 4) rfl; have y11r61 := (SQ00q5.blk 1 rfl).cell' (i := 5) rfl; have y11r62 := (SQ00q5.blk 1 rfl).cell' (i := 6) rfl; have y11r63 := (SQ00q5.blk 1 rfl).cell' (i := 7) rfl; have S11r6 : Slr w00q5 r h k := hS.mod SQ00q5.M hrP'; have A11r6 : Rgr w00q5 k P f1 c := hB.mod SQ00q5.M hkP'; have P11r6 := SQ00q5.P)
                                 | (go_at_call 73; (with_reducible refine (BD11r6 _ S11r6 A11r6 P11r6).mono ?_); rintro e w11r6 ⟨bw11r6, rfl, ho11r6, hnw11r6, hP11r6, hm11r6⟩; obtain ⟨ao11r6, cap11r6, rfl, _, _⟩ := ho11r6.sl.form; have SQ11r6 := SQ00q5.rd hm11r6 hP11r6; have zt11r60 := (SQ11r6.blk 4 rfl).cell' (i := 0) rfl; have zt11r61 := (SQ11r6.blk 4 rfl).cell' (i := 1) rfl; have zt11r62 := (SQ11r6.blk 4 rfl).cell' (i := 2) rfl; have zt11r63 := (SQ11r6.blk 4 rfl).cell' (i := 3) rfl; have yt11r60 := (SQ11r6.blk 1 rfl).cell' (i := 4) rfl; have yt11r61 := (SQ11r6.blk 1 rfl).cell' (i := 5) rfl; have yt11r62 := (SQ11r6.blk 1 rfl).cell' (i := 6) rfl; have yt11r63 := (SQ11r6.blk 1 rfl).cell' (i := 7) rfl))
                   refine StopOp.go rfl fun K hK => ?_
                   refine wp_store (u := .agg #[.int .u64 0, .int .u64 0, .int .i64 0, .int .u32 0]) (by rfl) (by rfl) (by kernel_rfl) (SQ11r6.blk 5 rfl) (by simp [Value.cells]) (by simp [Value.cells, Value.oneCell']) ?_
                   intro w90 hm90 hB90
                   refine hK _ _ ?_
                   clear hK K
                   have z0 := hB90.cell' (i := 0) rfl
                   have z1 := hB90.cell' (i := 1) rfl
                   have z2 := hB90.cell' (i := 2) rfl
                   have z3 := hB90.cell' (i := 3) rfl
                   have hfin := SQ11r6.set (i := 5) rfl hm90 hB90 rfl
                   have hlaw : R0 = _ := (hr.trans (bodG_n hg0 HR00q5.out.symm HQ00q5.out)).trans (bodG_n hg1 HR11r6.out.symm HQ11r6.out)
                   go_wp2_with fail
                   refine bodyPost_ret (v := .tuple #[.agg #[.int .u64 0, .int .u64 0, .int .i64 0, .int .u32 0], .slice none 0 0, .int .i64 (-1), .int .i64 0]) (by simp [results, Tryz.results21, go_sem, z0, z1, z2, z3]) rfl ?_
                   rw [hlaw]
                   exact ⟨_, rfl, Ob.nil _, by simp [New, blks], hfin.P, hfin.M⟩
               · have dE11r6 : (E11r6 != 0) = true := bne_iff_ne.2 hE11r6
                 go_wp2_with (first
                               | (with_reducible refine st_store ?_)
                               | (with_reducible refine LoopN.step (fun _ _ => ?_))
                               | (with_reducible refine wp_loopN 2 (fun _ _ => ?_))
                               | (go_at_call 73; (with_reducible refine (BD00q5 _ S00q5 A00q5 P00q5).mono ?_); rintro e w00q5 ⟨bw00q5, rfl, ho00q5, hnw00q5, hP00q5, hm00q5⟩; obtain ⟨ao00q5, cap00q5, rfl, _, _⟩ := ho00q5.sl.form; have SQ00q5 := S12.rd hm00q5 hP00q5; have zt00q50 := (SQ00q5.blk 4 rfl).cell' (i := 0) rfl; have zt00q51 := (SQ00q5.blk 4 rfl).cell' (i := 1) rfl; have zt00q52 := (SQ00q5.blk 4 rfl).cell' (i := 2) rfl; have zt00q53 := (SQ00q5.blk 4 rfl).cell' (i := 3) rfl; have yt00q50 := (SQ00q5.blk 1 rfl).cell' (i := 0) rfl; have yt00q51 := (SQ00q5.blk 1 rfl).cell' (i := 1) rfl; have yt00q52 := (SQ00q5.blk 1 rfl).cell' (i := 2) rfl; have yt00q53 := (SQ00q5.blk 1 rfl).cell' (i := 3) rfl; have xt00q50 := (SQ00q5.blk 0 rfl).cell' (i := 0) rfl; have xt00q51 := (SQ00q5.blk 0 rfl).cell' (i := 1) rfl; have y11r60 := (SQ00q5.blk 1 rfl).cell' (i := 4) rfl; have y11r61 := (SQ00q5.blk 1 rfl).cell' (i := 5) rfl; have y11r62 := (SQ00q5.blk 1 rfl).cell' (i := 6) rfl; have y11r63 := (SQ00q5.blk 1 rfl).cell' (i := 7) rfl; have S11r6 : Slr w00q5 r h k := hS.mod SQ00q5.M hrP'; have A11r6 : Rgr w00q5 k P f1 c := hB.mod SQ00q5.M hkP'; have P11r6 := SQ00q5.P)
                               | (go_at_call 73; (with_reducible refine (BD11r6 _ S11r6 A11r6 P11r6).mono ?_); rintro e w11r6 ⟨bw11r6, rfl, ho11r6, hnw11r6, hP11r6, hm11r6⟩; obtain ⟨ao11r6, cap11r6, rfl, _, _⟩ := ho11r6.sl.form; have SQ11r6 := SQ00q5.rd hm11r6 hP11r6; have zt11r60 := (SQ11r6.blk 4 rfl).cell' (i := 0) rfl; have zt11r61 := (SQ11r6.blk 4 rfl).cell' (i := 1) rfl; have zt11r62 := (SQ11r6.blk 4 rfl).cell' (i := 2) rfl; have zt11r63 := (SQ11r6.blk 4 rfl).cell' (i := 3) rfl; have yt11r60 := (SQ11r6.blk 1 rfl).cell' (i := 4) rfl; have yt11r61 := (SQ11r6.blk 1 rfl).cell' (i := 5) rfl; have yt11r62 := (SQ11r6.blk 1 rfl).cell' (i := 6) rfl; have yt11r63 := (SQ11r6.blk 1 rfl).cell' (i := 7) rfl))
                 refine StopOp.go rfl fun K hK => ?_
                 refine wp_store (u := .agg #[.int .u64 0, .int .u64 0, .int .i64 0, .int .u32 0]) (by rfl) (by rfl) (by kernel_rfl) (SQ11r6.blk 5 rfl) (by simp [Value.cells]) (by simp [Value.cells, Value.oneCell']) ?_
                 intro w90 hm90 hB90
                 refine hK _ _ ?_
                 clear hK K
                 have z0 := hB90.cell' (i := 0) rfl
                 have z1 := hB90.cell' (i := 1) rfl
                 have z2 := hB90.cell' (i := 2) rfl
                 have z3 := hB90.cell' (i := 3) rfl
                 have hfin := SQ11r6.set (i := 5) rfl hm90 hB90 rfl
                 have hlaw : R0 = _ := (hr.trans (bodG_n hg0 HR00q5.out.symm HQ00q5.out)).trans (bodG_e hg1 HR11r6.out.symm hE11r6)
                 go_wp2_with fail
                 refine bodyPost_ret (v := .tuple #[.agg #[.int .u64 0, .int .u64 0, .int .i64 0, .int .u32 0], .slice none 0 0, .int .i64 0, .int .i64 E11r6]) (by simp [results, Tryz.results21, go_sem, z0, z1, z2, z3]) rfl ?_
                 rw [hlaw]
                 exact ⟨_, rfl, Ob.nil _, by simp [New, blks], hfin.P, hfin.M⟩
           · have dE00q5 : (E00q5 != 0) = true := bne_iff_ne.2 hE00q5
             go_wp2_with (first
                           | (with_reducible refine st_store ?_)
                           | (with_reducible refine LoopN.step (fun _ _ => ?_))
                           | (with_reducible refine wp_loopN 2 (fun _ _ => ?_))
                           | (go_at_call 73; (with_reducible refine (BD00q5 _ S00q5 A00q5 P00q5).mono ?_); rintro e w00q5 ⟨bw00q5, rfl, ho00q5, hnw00q5, hP00q5, hm00q5⟩; obtain ⟨ao00q5, cap00q5, rfl, _, _⟩ := ho00q5.sl.form; have SQ00q5 := S12.rd hm00q5 hP00q5; have zt00q50 := (SQ00q5.blk 4 rfl).cell' (i := 0) rfl; have zt00q51 := (SQ00q5.blk 4 rfl).cell' (i := 1) rfl; have zt00q52 := (SQ00q5.blk 4 rfl).cell' (i := 2) rfl; have zt00q53 := (SQ00q5.blk 4 rfl).cell' (i := 3) rfl; have yt00q50 := (SQ00q5.blk 1 rfl).cell' (i := 0) rfl; have yt00q51 := (SQ00q5.blk 1 rfl).cell' (i := 1) rfl; have yt00q52 := (SQ00q5.blk 1 rfl).cell' (i := 2) rfl; have yt00q53 := (SQ00q5.blk 1 rfl).cell' (i := 3) rfl; have xt00q50 := (SQ00q5.blk 0 rfl).cell' (i := 0) rfl; have xt00q51 := (SQ00q5.blk 0 rfl).cell' (i := 1) rfl))
             refine StopOp.go rfl fun K hK => ?_
             refine wp_store (u := .agg #[.int .u64 0, .int .u64 0, .int .i64 0, .int .u32 0]) (by rfl) (by rfl) (by kernel_rfl) (SQ00q5.blk 5 rfl) (by simp [Value.cells]) (by simp [Value.cells, Value.oneCell']) ?_
             intro w90 hm90 hB90
             refine hK _ _ ?_
             clear hK K
             have z0 := hB90.cell' (i := 0) rfl
             have z1 := hB90.cell' (i := 1) rfl
             have z2 := hB90.cell' (i := 2) rfl
             have z3 := hB90.cell' (i := 3) rfl
             have hfin := SQ00q5.set (i := 5) rfl hm90 hB90 rfl
             have hlaw : R0 = _ := hr.trans (bodG_e hg0 HR00q5.out.symm hE00q5)
             go_wp2_with fail
             refine bodyPost_ret (v := .tuple #[.agg #[.int .u64 0, .int .u64 0, .int .i64 0, .int .u32 0], .slice none 0 0, .int .i64 0, .int .i64 E00q5]) (by simp [results, Tryz.results21, go_sem, z0, z1, z2, z3]) rfl ?_
             rw [hlaw]
             exact ⟨_, rfl, Ob.nil _, by simp [New, blks], hfin.P, hfin.M⟩
   · have dE1 : (E1 != 0) = true := bne_iff_ne.2 hE1
     have HN1 : ∀ w, Slr w r h k → Rgr w k P f1 c → Rgr w h P f0 c → Pr w P Q V0 M → Calls Tryz.prog 72 #[.pointer (some ⟨r, 0, none⟩), .int .i64 1] w fun e w' => e = .returned (.tuple #[.agg #[.int .u64 0, .int .u64 0, .int .i64 0, .int .u32 0], .bool false, .int .i64 E1]) ∧ Pr w' P Q V1 M ∧ Mod [P] w w' := fun w a b c d => (HD1 w a b c d).mono fun e w' hh => by
       obtain ⟨h1 | h1, h2⟩ := hh
       · exact ⟨h1.2, h2⟩
       · exact absurd h1.1 hE1
     rw [if_neg hE1] at e1
     rw [e1, if_neg hE1] at hLG
     dsimp only at hLG
     unfold Hd.v at HN0
     dsimp only at HN0
     clear HD0 HD1
     have HRR := Lib.hid (hR0.trans hLG)
     clear hLG hR0 e1 hf0w hf0n
     go_enter Tryz.func21, Tryz.ntmps21
     go_wp2_with (with_reducible refine st_alloc ?_)
     refine StopOp.go rfl fun K hK => ?_
     refine wp_alloc zero_header ?_
     intro g w1 hga hgb hm1 hG1
     simp only [put_some, List.set_cons_succ, List.set_cons_zero]
     refine hK _ _ ?_
     clear hK K
     have S1 := SQ0.new (cs := [.int .u64 0, .int .u64 0, .int .i64 0, .int .u32 0]) hm1 hga hG1
     go_wp2_with (with_reducible refine st_alloc ?_)
     refine StopOp.go rfl fun K hK => ?_
     refine wp_alloc zero_header ?_
     intro t6 w2 h61 h62 hm2 hG2
     simp only [put_some, List.set_cons_succ, List.set_cons_zero]
     refine hK _ _ ?_
     clear hK K
     go_wp2_with (with_reducible refine st_store ?_)
     refine StopOp.go rfl fun K hK => ?_
     refine wp_store (u := .agg #[.int .u64 0, .int .u64 0, .int .i64 0, .int .u32 0]) (by rfl) (by rfl) (by kernel_rfl) hG2 (by simp [Value.cells]) (by simp [Value.cells, Value.oneCell']) ?_
     intro w3 hm3 hG3
     refine hK _ _ ?_
     clear hK K
     have S3 := (S1.new (cs := [.int .u64 0, .int .u64 0, .int .i64 0, .int .u32 0]) hm2 h61 hG2).set (i := 0) (cs' := [.int .u64 0, .int .u64 0, .int .i64 0, .int .u32 0]) rfl hm3 hG3 rfl
     clear hG1 hG2 hG3 hm1 hm2 hm3 S1
     go_wp2_with (first
                   | (with_reducible refine st_alloc ?_)
                   | (go_at_call 72; (with_reducible refine (HN0 _ (hS.mod S3.M hrP') (hA.mod S3.M hhP') S3.P).mono ?_); rintro e w4 ⟨rfl, hP4, hm4⟩))
     have S4 := S3.rd hm4 hP4
     refine StopOp.go rfl fun K hK => ?_
     refine wp_alloc zero_header ?_
     intro t7 w5 h51 h52 hm5 hB5
     simp only [put_some, List.set_cons_succ, List.set_cons_zero]
     refine hK _ _ ?_
     clear hK K
     go_wp2_with (with_reducible refine st_store ?_)
     refine StopOp.go rfl fun K hK => ?_
     refine wp_store (u := .agg #[.int .u64 (g0 : Nat), .int .u64 (c0 : Nat), .int .i64 l0, .int .u32 (s0 : Nat)]) (by rfl) (by rfl) (by kernel_rfl) hB5 (by simp [Value.cells]) (by simp [Value.cells, Value.oneCell']) ?_
     intro w6 hm6 hB6
     refine hK _ _ ?_
     clear hK K
     have S7 := (S4.new (cs := [.int .u64 0, .int .u64 0, .int .i64 0, .int .u32 0]) hm5 h51 hB5).set (i := 0) (cs' := [.int .u64 (g0 : Nat), .int .u64 (c0 : Nat), .int .i64 l0, .int .u32 (s0 : Nat)]) rfl hm6 hB6 rfl
     clear hB5 hB6 hm5 hm6 S4 S3 hm4 hP4
     go_wp2_with (first
                   | (with_reducible refine st_alloc ?_)
                   | (go_at_call 72; (with_reducible refine (HN1 _ (hS.mod S7.M hrP') (hB.mod S7.M hkP') (hA.mod S7.M hhP') S7.P).mono ?_); rintro e w8 ⟨rfl, hP8, hm8⟩))
     have S8 := S7.rd hm8 hP8
     refine StopOp.go rfl fun K hK => ?_
     refine wp_alloc zero_header ?_
     intro t10 w9 h91 h92 hm9 hB9
     simp only [put_some, List.set_cons_succ, List.set_cons_zero]
     refine hK _ _ ?_
     clear hK K
     go_wp2_with (with_reducible refine st_store ?_)
     refine StopOp.go rfl fun K hK => ?_
     refine wp_store (u := .agg #[.int .u64 0, .int .u64 0, .int .i64 0, .int .u32 0]) (by rfl) (by rfl) (by kernel_rfl) hB9 (by simp [Value.cells]) (by simp [Value.cells, Value.oneCell']) ?_
     intro w10 hm10 hB10
     refine hK _ _ ?_
     clear hK K
     have S10 := (S8.new hm9 h91 hB9).set (i := 0) (cs' := [.int .u64 0, .int .u64 0, .int .i64 0, .int .u32 0]) rfl hm10 hB10 rfl
     clear hB9 hB10 hm9 hm10 S8 hm8 hP8 S7
     have zz0 := (S10.blk 2 rfl).cell' (i := 0) rfl
     have zz1 := (S10.blk 2 rfl).cell' (i := 1) rfl
     have zz2 := (S10.blk 2 rfl).cell' (i := 2) rfl
     have zz3 := (S10.blk 2 rfl).cell' (i := 3) rfl
     go_wp2_with (with_reducible refine st_store ?_)
     refine StopOp.go rfl fun K hK => ?_
     refine wp_store (u := .agg #[.int .u64 0, .int .u64 0, .int .i64 0, .int .u32 0]) (by rfl) (by rfl) (by kernel_rfl) (S10.blk 3 rfl) (by simp [Value.cells]) (by simp [Value.cells, Value.oneCell']) ?_
     intro w90 hm90 hB90
     refine hK _ _ ?_
     clear hK K
     have z0 := hB90.cell' (i := 0) rfl
     have z1 := hB90.cell' (i := 1) rfl
     have z2 := hB90.cell' (i := 2) rfl
     have z3 := hB90.cell' (i := 3) rfl
     have hfin := S10.set (i := 3) rfl hm90 hB90 rfl
     have hlaw : R0 = _ := HRR.out
     go_wp2_with fail
     refine bodyPost_ret (v := .tuple #[.agg #[.int .u64 0, .int .u64 0, .int .i64 0, .int .u32 0], .slice none 0 0, .int .i64 0, .int .i64 E1]) (by simp [results, Tryz.results21, go_sem, z0, z1, z2, z3]) rfl ?_
     rw [hlaw]
     exact ⟨_, rfl, Ob.nil _, by simp [New, blks], hfin.P, hfin.M⟩
 · have dE0 : (E0 != 0) = true := bne_iff_ne.2 hE0
   have HN0 : ∀ w, Slr w r h k → Rgr w h P f0 c → Pr w P Q u M → Calls Tryz.prog 72 #[.pointer (some ⟨r, 0, none⟩), .int .i64 0] w fun e w' => e = .returned (.tuple #[.agg #[.int .u64 0, .int .u64 0, .int .i64 0, .int .u32 0], .bool false, .int .i64 E0]) ∧ Pr w' P Q V0 M ∧ Mod [P] w w' := fun w a b c => (HD0 w a b c).mono fun e w' hh => by
     obtain ⟨h1 | h1, h2⟩ := hh
     · exact ⟨h1.2, h2⟩
     · exact absurd h1.1 hE0
   rw [if_neg hE0] at e0
   rw [e0, if_neg hE0] at hLG
   dsimp only at hLG
   have HRR := Lib.hid (hR0.trans hLG)
   clear hLG hR0 e0 e1 HD1 HD0
   go_enter Tryz.func21, Tryz.ntmps21
   go_wp2_with (with_reducible refine st_alloc ?_)
   refine StopOp.go rfl fun K hK => ?_
   refine wp_alloc zero_header ?_
   intro g w1 hga hgb hm1 hG1
   simp only [put_some, List.set_cons_succ, List.set_cons_zero]
   refine hK _ _ ?_
   clear hK K
   have S1 := SQ0.new (cs := [.int .u64 0, .int .u64 0, .int .i64 0, .int .u32 0]) hm1 hga hG1
   go_wp2_with (with_reducible refine st_alloc ?_)
   refine StopOp.go rfl fun K hK => ?_
   refine wp_alloc zero_header ?_
   intro t6 w2 h61 h62 hm2 hG2
   simp only [put_some, List.set_cons_succ, List.set_cons_zero]
   refine hK _ _ ?_
   clear hK K
   go_wp2_with (with_reducible refine st_store ?_)
   refine StopOp.go rfl fun K hK => ?_
   refine wp_store (u := .agg #[.int .u64 0, .int .u64 0, .int .i64 0, .int .u32 0]) (by rfl) (by rfl) (by kernel_rfl) hG2 (by simp [Value.cells]) (by simp [Value.cells, Value.oneCell']) ?_
   intro w3 hm3 hG3
   refine hK _ _ ?_
   clear hK K
   have S3 := (S1.new (cs := [.int .u64 0, .int .u64 0, .int .i64 0, .int .u32 0]) hm2 h61 hG2).set (i := 0) (cs' := [.int .u64 0, .int .u64 0, .int .i64 0, .int .u32 0]) rfl hm3 hG3 rfl
   clear hG1 hG2 hG3 hm1 hm2 hm3 S1
   go_wp2_with (first
                 | (with_reducible refine st_alloc ?_)
                 | (go_at_call 72; (with_reducible refine (HN0 _ (hS.mod S3.M hrP') (hA.mod S3.M hhP') S3.P).mono ?_); rintro e w4 ⟨rfl, hP4, hm4⟩))
   have S4 := S3.rd hm4 hP4
   refine StopOp.go rfl fun K hK => ?_
   refine wp_alloc zero_header ?_
   intro t7 w5 h51 h52 hm5 hB5
   simp only [put_some, List.set_cons_succ, List.set_cons_zero]
   refine hK _ _ ?_
   clear hK K
   go_wp2_with (with_reducible refine st_store ?_)
   refine StopOp.go rfl fun K hK => ?_
   refine wp_store (u := .agg #[.int .u64 0, .int .u64 0, .int .i64 0, .int .u32 0]) (by rfl) (by rfl) (by kernel_rfl) hB5 (by simp [Value.cells]) (by simp [Value.cells, Value.oneCell']) ?_
   intro w6 hm6 hB6
   refine hK _ _ ?_
   clear hK K
   have S7 := (S4.new (cs := [.int .u64 0, .int .u64 0, .int .i64 0, .int .u32 0]) hm5 h51 hB5).set (i := 0) (cs' := [.int .u64 0, .int .u64 0, .int .i64 0, .int .u32 0]) rfl hm6 hB6 rfl
   clear hB5 hB6 hm5 hm6 S4 S3 hm4 hP4
   have zz0 := (S7.blk 1 rfl).cell' (i := 0) rfl
   have zz1 := (S7.blk 1 rfl).cell' (i := 1) rfl
   have zz2 := (S7.blk 1 rfl).cell' (i := 2) rfl
   have zz3 := (S7.blk 1 rfl).cell' (i := 3) rfl
   go_wp2_with (with_reducible refine st_store ?_)
   refine StopOp.go rfl fun K hK => ?_
   refine wp_store (u := .agg #[.int .u64 0, .int .u64 0, .int .i64 0, .int .u32 0]) (by rfl) (by rfl) (by kernel_rfl) (S7.blk 2 rfl) (by simp [Value.cells]) (by simp [Value.cells, Value.oneCell']) ?_
   intro w90 hm90 hB90
   refine hK _ _ ?_
   clear hK K
   have z0 := hB90.cell' (i := 0) rfl
   have z1 := hB90.cell' (i := 1) rfl
   have z2 := hB90.cell' (i := 2) rfl
   have z3 := hB90.cell' (i := 3) rfl
   have hfin := S7.set (i := 2) rfl hm90 hB90 rfl
   have hlaw : R0 = _ := HRR.out
   go_wp2_with fail
   refine bodyPost_ret (v := .tuple #[.agg #[.int .u64 0, .int .u64 0, .int .i64 0, .int .u32 0], .slice none 0 0, .int .i64 0, .int .i64 E0]) (by simp [results, Tryz.results21, go_sem, z0, z1, z2, z3]) rfl ?_
   rw [hlaw]
   exact ⟨_, rfl, Ob.nil _, by simp [New, blks], hfin.P, hfin.M⟩
end Go.Proofs.YtminfegoldgjpaaGreatDoor
