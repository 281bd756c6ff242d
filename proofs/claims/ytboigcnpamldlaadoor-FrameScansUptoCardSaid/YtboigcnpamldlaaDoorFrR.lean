import Derived.Test.YtboigcnpamldlaaDoorFrT
import Derived.LoopNIn
/-! FrameScans. -/
set_option linter.unusedVariables false
set_option linter.unusedSimpArgs false
set_option maxRecDepth 100000
namespace Go.Proofs.YtboigcnpamldlaaDoor
open Go.RowKit Gw
attribute [local go_sem] Oper.semAt_some
attribute [local go_sem] run_eql_seq_nil

theorem d_f {A B : List Fi} (h : A.map Fi.d = B.map Fi.d) : A.map Fi.f = B.map Fi.f ∧ A.map Fi.p = B.map Fi.p ∧ A.length = B.length :=
  ⟨by have := congrArg (List.map Prod.snd) h; simpa [Function.comp_def, Fi.d] using this, by have := congrArg (List.map Prod.fst) h; simpa [Function.comp_def, Fi.d] using this, by have := congrArg List.length h; simpa using this⟩
/-- what stands while the frames are told -/
structure ScF (w0 : World) (B r6 bw bp tr : Nat) (t : Int) (wv pv : Value) (L : List Fi) (b : List UInt8) (e s bs bb be : Nat) (vb : Value) (X : World) : Prop where
  ec : Ech X bs bb be vb b e s
  cr : Blk X r6 4 [.bool false]
  cw : Blk X bw 41 [wv]
  cp : Blk X bp 47 [pv]
  ct : Blk X tr 3 [.int .i64 t]
  fr : Frs X B wv L
  pl : Ow X 3 1 pv L.length (iN (L.map Fi.p))
  tab : TabC X
  md : Gw.Mod [] w0 X
theorem ScF.ab {w : World} {B r6 bw bp tr : Nat} {t : Int} {wv pv : Value} {L : List Fi} {b : List UInt8} {e s bs bb be : Nat} {vb : Value} {X Y : World} {M : List Nat} {C : Nat} (h : ScF w B r6 bw bp tr t wv pv L b e s bs bb be vb X)
    (hM : ∀ g ∈ M, C ≤ g ∧ ∃ o : Obj, X.heap[g]? = some o ∧ o.isCells = false) (hC : w.heap.size ≤ C) (hw : 0 < w.heap.size) (hm : Gw.Mod M X Y) : ScF w B r6 bw bp tr t wv pv L b e s bs bb be vb Y := by
  refine ⟨h.ec.mod hm (fun k hk hh => ?_), h.cr.mod hm (notin_of hM h.cr), h.cw.mod hm (notin_of hM h.cw), h.cp.mod hm (notin_of hM h.cp), h.ct.mod hm (notin_of hM h.ct), h.fr.ab hM hm, h.pl.mod hm (notin_ow hM h.pl), h.tab.mod hm (fun hh => by have := (hM 0 hh).1; omega), h.md.fresh hm (fun g hg => by have := (hM g hg).1; omega)⟩
  obtain ⟨o, ho, hc⟩ := h.ec.cells k hk
  obtain ⟨_, o', ho', hc'⟩ := hM k hh
  rw [ho] at ho'
  cases ho'
  rw [hc] at hc'
  cases hc'
theorem ScF.ext {w : World} {B r6 bw bp tr : Nat} {t : Int} {wv pv : Value} {L : List Fi} {b : List UInt8} {e s bs bb be : Nat} {vb : Value} {X Y : World} (h : ScF w B r6 bw bp tr t wv pv L b e s bs bb be vb X) (hm : Gw.Mod [] X Y) : ScF w B r6 bw bp tr t wv pv L b e s bs bb be vb Y :=
  ⟨h.ec.ext hm, h.cr.ext hm, h.cw.ext hm, h.cp.ext hm, h.ct.ext hm, h.fr.ext hm, h.pl.ext hm, h.tab.ext hm, h.md.ext hm⟩
theorem ScF.set {w : World} {B r6 bw bp tr : Nat} {t : Int} {wv pv : Value} {L : List Fi} {b : List UInt8} {e s bs bb be : Nat} {vb : Value} {X Y : World} {ic : Nat} {cs : List Value} (h : ScF w B r6 bw bp tr t wv pv L b e s bs bb be vb X)
    (hB : Blk X ic 3 cs) (hm : Gw.Mod [ic] X Y) (h1 : tr ≠ ic) (h2 : ic ∉ blks pv) (h3 : ∀ k ∈ 0 :: EchL bs bb be vb, k ≠ ic) (h4 : w.heap.size ≤ ic) : ScF w B r6 bw bp tr t wv pv L b e s bs bb be vb Y :=
  ⟨h.ec.mod hm (fun k hk => by simpa using h3 k (List.mem_cons_of_mem _ hk)), h.cr.mod hm (by simpa using h.cr.ne hB (by decide)), h.cw.mod hm (by simpa using h.cw.ne hB (by decide)), h.cp.mod hm (by simpa using h.cp.ne hB (by decide)), h.ct.mod hm (by simpa using h1),
    h.fr.at hm hB (by decide) (by decide), h.pl.mod hm (fun k hk hh => h2 (by have e : k = ic := (by simpa using hh); exact e ▸ hk)), h.tab.mod hm (fun hh => h3 0 (by simp) (by simpa using hh)), h.md.fresh hm (by simpa using h4)⟩
theorem zero_bool : (Tryd.prog.info? 4).map (·.zero) = some (some (.bool false)) := by kernel_rfl
set_option maxRecDepth 1000000 in
set_option maxHeartbeats 8000000 in
theorem frameScans_core (b : List UInt8) (e s : Nat) (v : Value) (W : World) (hb : Bs W v b) (hl : b.length ≤ 1048576) (he : e < 18446744073709551616) (hs : s < 18446744073709551616) (hT : TabC W) :
    Calls Tryd.prog 5 #[v, .int .u64 (e : Nat), .int .u64 (s : Nat)] W fun e w' => e = .returned (.bool true) ∧ Mod [] W w' := by
  obtain ⟨ao, cap, rfl, hc1, hc2⟩ := hb.form
  refine (callsIn_wide (n := 12)).1 ?_
  refine callsIn_of_wp_marks Tryd.func5 rfl trivial ?_ rfl
  simp only [Tryd.ntmps5, List.size_toArray, List.length_cons, List.length_nil, Nat.reduceAdd, Nat.reduceSub, Array.replicate_succ, Array.replicate_zero, List.push_toArray, List.append_toArray, List.nil_append, List.cons_append]
  have AW := fun w h => frawake_any w h
  have LB := fun w v h => lent_any b v w h (by omega)
  have SC := fun w v h hT => scan_any b e s v w h (by omega) hs he hT
  have EA := fun w v h => each_any b e s v w h (by omega)
  have RO := fun w v h => row_any b e s v w h (by omega) hs he
  have KB := fun w g cap v h hv => kept_any g cap b v w h hv
  have OB := fun w g cap h => over_any g cap b w h (by omega)
  unfold ScanP at SC
  unfold EachP at EA
  unfold RowP at RO
  have hend := endF_le (b := b) (e := e) b.length s 0 (by omega) (by omega)
  have hrl := rowS_len (b := b) (e := e) b.length s 0 (by omega)
  obtain ⟨R, hR⟩ : ∃ R, R = rowS b e s 0 := ⟨_, rfl⟩
  rw [← hR] at SC RO hend hrl
  obtain ⟨q, hq⟩ : ∃ q, q = endF R 0 := ⟨_, rfl⟩
  rw [← hq] at SC RO hend
  obtain ⟨n, hn⟩ : ∃ n, n = R.length := ⟨_, rfl⟩
  rw [← hn] at hrl
  have HR := Lib.hid (And.intro hR hn)
  clear hR hq hn
  repeat (first
                | (with_reducible refine si_alloc ?_)
                | go_values
                | gi_guarded
                | gi_step
                | gi_upon
                | gi_back
                | (simp only [Int.not_lt, Int.not_le] at *; go_simp))
  refine StopIn.go wd_wide rfl (fun _ => by intro h; cases h) fun K hK => ?_
  refine wp_alloc zero_bool ?_
  intro r6 w1 hr1 hr2 hm1 hB1
  simp only [put_some, List.set_cons_succ, List.set_cons_zero]
  refine hK _ _ ?_
  clear hK K
  have hT1 := hT.ext hm1
  repeat (first
                | (with_reducible refine si_alloc ?_)
                | ((first | ((with_reducible refine And.intro ?ga (And.intro ?gb ?_)); (case ga => exact trivial); (case gb => exact (fun hh => nomatch hh))) | ((with_reducible refine And.intro ?ga ?_); (case ga => exact trivial))); gi_at_call 10; refine ((wd_wide).calls (AW _ hT1)).mono ?_; rintro e w2 ⟨rfl, hm2⟩; have hb2 := (hb.ext hm1).ext hm2; dsimp only)
                | ((first | ((with_reducible refine And.intro ?ga (And.intro ?gb ?_)); (case ga => exact trivial); (case gb => exact (fun hh => nomatch hh))) | ((with_reducible refine And.intro ?ga ?_); (case ga => exact trivial))); gi_at_call 19; refine ((wd_wide).calls (LB _ _ hb2)).mono ?_; rintro e w3 ⟨k, capk, rfl, hk, hL3, hm3⟩; have hs3 := hL3.bs; have hT3 := (hT1.ext hm2).ext hm3; dsimp only)
                | ((first | ((with_reducible refine And.intro ?ga (And.intro ?gb ?_)); (case ga => exact trivial); (case gb => exact (fun hh => nomatch hh))) | ((with_reducible refine And.intro ?ga ?_); (case ga => exact trivial))); gi_at_call 25; refine ((wd_wide).calls (SC _ _ hs3 hT3)).mono ?_; rintro e w4 ⟨v4, L1, rfl, hd1, hf1, hm4⟩; obtain ⟨ao4, cap4, rfl, _, _⟩ := hf1.nx (n := n) (by rw [HR.out.2, ← hd1, List.length_map]); have hs4 := hs3.ext hm4; dsimp only)
                | ((first | ((with_reducible refine And.intro ?ga (And.intro ?gb ?_)); (case ga => exact trivial); (case gb => exact (fun hh => nomatch hh))) | ((with_reducible refine And.intro ?ga ?_); (case ga => exact trivial))); gi_at_call 26; refine ((wd_wide).calls (EA _ _ hs4)).mono ?_; rintro e w5 ⟨bs, bb, be, vb, rfl, hE5, hnE, hm5⟩; have hL5 := (hL3.ext hm4).ext hm5; have hb5 := ((hb2.ext hm3).ext hm4).ext hm5; dsimp only)
                | ((first | ((with_reducible refine And.intro ?ga (And.intro ?gb ?_)); (case ga => exact trivial); (case gb => exact (fun hh => nomatch hh))) | ((with_reducible refine And.intro ?ga ?_); (case ga => exact trivial))); gi_at_call 22; refine ((wd_wide).calls (KB _ _ _ _ hL5 hb5)).mono ?_; rintro e w6 ⟨rfl, hm6⟩; have hL6 := hL5.ext hm6; dsimp only)
                | ((first | ((with_reducible refine And.intro ?ga (And.intro ?gb ?_)); (case ga => exact trivial); (case gb => exact (fun hh => nomatch hh))) | ((with_reducible refine And.intro ?ga ?_); (case ga => exact trivial))); gi_at_call 23; refine ((wd_wide).calls (OB _ _ _ hL6)).mono ?_; rintro e w7 ⟨rfl, hm7⟩; have hkw : W.heap.size ≤ k := (by have := hm1.size; have := hm2.size; omega); have hM7 : Mod [] W w7 := ((((((hm1.ext hm2).ext hm3).ext hm4).ext hm5).ext hm6).fresh hm7 (by simpa using hkw)); have hb7 := hb.ext hM7; dsimp only)
                | ((first | ((with_reducible refine And.intro ?ga (And.intro ?gb ?_)); (case ga => exact trivial); (case gb => exact (fun hh => nomatch hh))) | ((with_reducible refine And.intro ?ga ?_); (case ga => exact trivial))); gi_at_call 27; refine ((wd_wide).calls (RO _ _ hb7)).mono ?_; rintro e w8 ⟨v8, pv8, L2, rfl, hd2, hf2, ho8, hn8, hm8⟩; obtain ⟨ao8, cap8, rfl, _, _⟩ := hf2.nx (n := n) (by rw [HR.out.2, ← hd2, List.length_map]); have hl2 : L2.length = n := (by rw [HR.out.2, ← hd2, List.length_map]); rw [hl2] at ho8; obtain ⟨aop8, capp8, rfl, _, _⟩ := ho8.sl.form; dsimp only)
                | go_values
                | gi_guarded
                | gi_step
                | gi_upon
                | gi_back
                | (simp only [Int.not_lt, Int.not_le] at *; go_simp))
  have hk3 : k < w3.heap.size := by obtain ⟨_, hB, _⟩ := hL3; exact hB.lt
  have hw34 := hm4.size
  have hf7 : Frs w7 w3.heap.size (.slice ao4 n cap4) L1 := ((hf1.ext hm5).ext hm6).mod hm7 (fun j hj hh => by have := hf1.nw j hj; have e : j = k := (by simpa using hh); omega) (fun x hx j hj hh => by have := (hf1.ob hx).2 j hj; have e : j = k := (by simpa using hh); omega)
  have hE7 : Ech w7 bs bb be vb b e s := (hE5.ext hm6).mod hm7 (fun j hj hh => by have := hnE j hj; have e : j = k := (by simpa using hh); omega)
  have hR7 : Blk w7 r6 4 [.bool false] := (((((Blk.ext hB1 hm2).ext hm3).ext hm4).ext hm5).ext hm6).mod hm7 (by have := hm2.size; simp; omega)
  have hf8 := hf7.ext hm8
  have hE8 := hE7.ext hm8
  have hR8 := hR7.ext hm8
  have hM8 := hM7.ext hm8
  have hw37 : w3.heap.size ≤ w7.heap.size := by have := hm5.size; have := hm6.size; have := hm7.size; omega
  clear hf1 hf7 hE5 hE7 hR7 hB1 hm7 hm6 hm5 hm4 hb2 hs3 hs4 hb5 hL5 hL6
  refine StopIn.go wd_wide rfl (fun _ => by intro h; cases h) fun K hK => ?_
  refine wp_alloc zero_frs ?_
  intro bw w9 hw1 hw2 hm9 hB9
  simp only [put_some, List.set_cons_succ, List.set_cons_zero]
  refine hK _ _ ?_
  clear hK K
  repeat (first
                | (with_reducible refine si_alloc ?_)
                | go_values
                | gi_guarded
                | gi_step
                | gi_upon
                | gi_back
                | (simp only [Int.not_lt, Int.not_le] at *; go_simp))
  refine StopIn.go wd_wide rfl (fun _ => by intro h; cases h) fun K hK => ?_
  refine wp_alloc zero_ints ?_
  intro bp w10 hp1 hp2 hm10 hB10
  simp only [put_some, List.set_cons_succ, List.set_cons_zero]
  refine hK _ _ ?_
  clear hK K
  have hW10 : Blk w10 bw 41 [.slice none 0 0] := Blk.ext hB9 hm10
  have hP10 : Blk w10 bp 47 [.slice none 0 0] := hB10
  repeat (first
                | (with_reducible refine si_store ?_)
                | go_values
                | gi_guarded
                | gi_step
                | gi_upon
                | gi_back
                | (simp only [Int.not_lt, Int.not_le] at *; go_simp))
  refine StopIn.go wd_wide rfl (fun _ => by intro h; cases h) fun K hK => ?_
  refine wp_store1 (by kernel_rfl) (by rfl) (u := .slice ao8 n cap8) (by rfl) ⟨rfl, rfl⟩ hW10 (by simp) ?_
  intro w11 hm11 hB11
  refine hK _ _ ?_
  clear hK K
  have hP11 := hP10.mod hm11 (by simpa using hP10.ne hW10 (by decide))
  repeat (first
                | (with_reducible refine si_store ?_)
                | go_values
                | gi_guarded
                | gi_step
                | gi_upon
                | gi_back
                | (simp only [Int.not_lt, Int.not_le] at *; go_simp))
  refine StopIn.go wd_wide rfl (fun _ => by intro h; cases h) fun K hK => ?_
  refine wp_store1 (by kernel_rfl) (by rfl) (u := .slice aop8 n capp8) (by rfl) ⟨rfl, rfl⟩ hP11 (by simp) ?_
  intro w12 hm12 hB12
  refine hK _ _ ?_
  clear hK K
  have hW11 : Blk w11 bw 41 [.slice ao8 n cap8] := hB11
  have hW12 : Blk w12 bw 41 [.slice ao8 n cap8] := hW11.mod hm12 (by simpa using hW11.ne hP11 (by decide))
  have hP12 : Blk w12 bp 47 [.slice aop8 n capp8] := hB12
  have hm8c : Mod [] w8 w12 := ((hm9.ext hm10).fresh hm11 (by simp; omega)).fresh hm12 (by have := hm9.size; simp; omega)
  have hf12 := hf8.ext hm8c
  have hg12 := hf2.ext hm8c
  have hE12 := hE8.ext hm8c
  have hR12 := hR8.ext hm8c
  have ho12 := ho8.ext hm8c
  have hM12 := hM8.ext hm8c
  have hT12 := hT.ext hM12
  have r1 := hf12.r
  have r2 := hg12.r
  have cw := hW12.cell' (i := 0) rfl
  clear hf8 hf2 hE8 hR8 ho8 hB9 hB10 hB11 hB12 hW10 hP10 hP11 hW11 hm9 hm10 hm11 hm12
  have SF := fun w h1 h2 => sameFrs_yes L1 L2 (.slice ao4 n cap4) (.slice ao8 n cap8) w h1 h2 (d_f (hd1.trans hd2.symm)).1
  repeat (first
                | (with_reducible refine si_alloc ?_)
                | ((first | ((with_reducible refine And.intro ?ga (And.intro ?gb ?_)); (case ga => exact trivial); (case gb => exact (fun hh => nomatch hh))) | ((with_reducible refine And.intro ?ga ?_); (case ga => exact trivial))); gi_at_call 28; refine ((wd_wide).calls (SF _ r1 r2)).mono ?_; rintro e w13 ⟨rfl, hm13⟩; dsimp only)
                | go_values
                | gi_guarded
                | gi_step
                | gi_upon
                | gi_back
                | (simp only [Int.not_lt, Int.not_le] at *; go_simp))
  have hM13 := hM12.ext hm13
  have hR13 := hR12.ext hm13
  refine StopIn.go wd_wide rfl (fun _ => by intro h; cases h) fun K hK => ?_
  refine wp_alloc zero_int ?_
  intro tr w14 ht1 ht2 hm14 hB14
  simp only [put_some, List.set_cons_succ, List.set_cons_zero]
  refine hK _ _ ?_
  clear hK K
  have hN14 : Blk w14 tr 3 [.int .i64 0] := hB14
  repeat (first
                | (with_reducible refine si_store ?_)
                | go_values
                | gi_guarded
                | gi_step
                | gi_upon
                | gi_back
                | (simp only [Int.not_lt, Int.not_le] at *; go_simp))
  refine StopIn.go wd_wide rfl (fun _ => by intro h; cases h) fun K hK => ?_
  refine wp_store1 (by kernel_rfl) (by rfl) (u := .int .i64 0) (by rfl) ⟨rfl, rfl⟩ hN14 (by simp) ?_
  intro w15 hm15 hB15
  refine hK _ _ ?_
  clear hK K
  have hN15 : Blk w15 tr 3 [.int .i64 0] := hB15
  have hm13f : Mod [] w13 w15 := hm14.fresh hm15 (by simp; omega)
  have hmcf := hm13.ext hm13f
  have hM15 := hM12.ext hmcf
  have hg15 := hg12.ext hmcf
  have hE15 := hE12.ext hmcf
  have hR15 := hR12.ext hmcf
  have ho15 := ho12.ext hmcf
  have hW15 := hW12.ext hmcf
  have hP15 := hP12.ext hmcf
  have hT15 := hT12.ext hmcf
  have cN := hN15.cell' (i := 0) rfl
  clear hf12 hg12 hE12 hR12 ho12 r1 r2 cw hB14 hB15 hN14 hm14 hm15 hm13 hR13
  gi_wp2
  refine wpIn_loop_rounds 3 ?_
  rw [roundsIn_succ]
  repeat (first
                | (with_reducible refine si_alloc ?_)
                | go_values
                | gi_guarded
                | gi_step
                | gi_upon
                | gi_back
                | (simp only [Int.not_lt, Int.not_le] at *; go_simp))
  refine StopIn.go wd_wide rfl (fun _ => by intro h; cases h) fun K hK => ?_
  refine wp_alloc zero_int ?_
  intro ic w16 hi1 hi2 hm16 hB16
  simp only [put_some, List.set_cons_succ, List.set_cons_zero]
  refine hK _ _ ?_
  clear hK K
  have hI16 : Blk w16 ic 3 [.int .i64 0] := hB16
  repeat (first
                | (with_reducible refine si_store ?_)
                | go_values
                | gi_guarded
                | gi_step
                | gi_upon
                | gi_back
                | (simp only [Int.not_lt, Int.not_le] at *; go_simp))
  refine StopIn.go wd_wide rfl (fun _ => by intro h; cases h) fun K hK => ?_
  refine wp_store1 (by kernel_rfl) (by rfl) (u := .int .i64 0) (by rfl) ⟨rfl, rfl⟩ hI16 (by simp) ?_
  intro w17 hm17 hB17
  refine hK _ _ ?_
  clear hK K
  have hI17 : Blk w17 ic 3 [.int .i64 0] := hB17
  have hm1517 : Gw.Mod [] w15 w17 := hm16.fresh hm17 (by simp; omega)
  have hS17 : ScF W w7.heap.size r6 bw bp tr 0 (.slice ao8 n cap8) (.slice aop8 n capp8) L2 b e s bs bb be vb w17 :=
    ⟨hE15.ext hm1517, hR15.ext hm1517, hW15.ext hm1517, hP15.ext hm1517, hN15.ext hm1517, hg15.ext hm1517, by rw [hl2]; exact ho15.ext hm1517, hT15.ext hm1517, hM15.ext hm1517⟩
  have hLlt : ∀ k ∈ 0 :: EchL bs bb be vb, k < w17.heap.size := fun k hk => (List.mem_cons.1 hk).elim (fun e => e ▸ hS17.tab.1) (hS17.ec.lt k)
  have hW0 : 0 < W.heap.size := hT.1
  have hict : tr ≠ ic := by have := hN15.lt; omega
  have hicp : ic ∉ blks (.slice aop8 n capp8) := fun hh => by have := ho15.lt ic hh; omega
  have hLic : ∀ k ∈ 0 :: EchL bs bb be vb, k ≠ ic := fun k hk e => by
    subst e
    rcases List.mem_cons.1 hk with e | hk
    · have := hM15.size; omega
    · have := hE15.lt _ hk; omega
  have hWic : W.heap.size ≤ ic := by have := hM15.size; omega
  have hW17 := hS17.md.size
  clear hE15 hR15 hW15 hP15 hN15 hg15 ho15 hT15 hM15 hB16 hB17 hI16 hm16 hm17
  repeat (first
                | go_values
                | gi_guarded
                | gi_step
                | gi_upon
                | gi_back
                | (simp only [Int.not_lt, Int.not_le] at *; go_simp))
  refine wpIn_rangeFuncP rfl (by decide) (gf := 52) rfl trivial (ent Tryd.func52 (by kernel_rfl) rfl)
    (each1_seq 11 w17 bs bb be vb b e s hS17.ec hs he (by omega) hS17.tab) (fun h k => h.trans k) (fun B X l o' h1 h2 => KpL.of_mod (Mod.putObj X l o') (fun k hk => by
      have e : k = l := by simpa using hk
      subst e
      exact ⟨fun hh => by have := hLlt k hh; omega, .inl h2⟩)) (Mod.refl _ _) (fun _ => rfl)
    (fun pre X => ScF W w7.heap.size r6 bw bp tr 0 (.slice ao8 n cap8) (.slice aop8 n capp8) L2 b e s bs bb be vb X ∧ Blk X ic 3 [.int .i64 (pre.length : Nat)] ∧ pre.length < 3)
    (fun c pre X => c = .exit 2 ∧ ScF W w7.heap.size r6 bw bp tr 0 (.slice ao8 n cap8) (.slice aop8 n capp8) L2 b e s bs bb be vb X ∧ Blk X ic 3 [.int .i64 3])
    (fun pre X Y M hI hM hm => ⟨hI.1.ab hM hW17 hW0 hm, hI.2.1.mod hm (notin_of hM hI.2.1), hI.2.2⟩)
    (fun c pre X Y M hI hM hm => ⟨hI.1, hI.2.1.ab hM hW17 hW0 hm, hI.2.2.mod hm (notin_of hM hI.2.2)⟩)
    ⟨hS17, hI17, by simp⟩ ?round ?done ?stop
  case round =>
    rintro l pre x W0 X hl0 hrec ⟨hSc, hic, hp3⟩ hmW ⟨hox, hnx, hpf⟩ hlen
    obtain ⟨p, vx, f⟩ := x
    dsimp only at hox hnx
    obtain ⟨aox, capx, rfl, hcx1, hcx2⟩ := hox.sl.form
    simp only [Fi.enc]
    repeat (first
                  | (with_reducible refine si_alloc ?_)
                  | go_values
                  | gi_guarded
                  | gi_step
                  | gi_upon
                  | gi_back
                  | (simp only [Int.not_lt, Int.not_le] at *; go_simp))
    refine StopIn.go (wd_rnd l) rfl (fun _ => by intro h; cases h) fun K hK => ?_
    refine wp_alloc zero_frame ?_
    intro g w5 hg1 hg2 hm5 hB5
    simp only [put_some, List.set_cons_succ, List.set_cons_zero]
    refine hK _ _ ?_
    clear hK K
    repeat (first
                  | (with_reducible refine si_store ?_)
                  | go_values
                  | gi_guarded
                  | gi_step
                  | gi_upon
                  | gi_back
                  | (simp only [Int.not_lt, Int.not_le] at *; go_simp))
    refine StopIn.go (wd_rnd l) rfl (fun _ => by intro h; cases h) fun K hK => ?_
    refine wp_store (u := .agg #[.int .u64 f.e, .int .u64 f.s, .slice aox f.l.length capx]) (by rfl) (by rfl) (by kernel_rfl) hB5 (by simp [Value.cells]) (by simp [Value.cells, Value.oneCell']) ?_
    intro w6 hm6 hB6
    refine hK _ _ ?_
    clear hK K
    have hG6 : Blk w6 g 25 [.int .u64 f.e, .int .u64 f.s, .slice aox f.l.length capx] := hB6
    repeat (first
                  | go_values
                  | gi_guarded
                  | gi_step
                  | gi_upon
                  | gi_back
                  | (simp only [Int.not_lt, Int.not_le] at *; go_simp))
    have hm16' : Gw.Mod [] X w6 := hm5.fresh hm6 (by simpa using hg1)
    refine ⟨hm16', fun W3 hmL => ?_⟩
    have h03 : Gw.Mod [l] W0 W3 := ((hmW.ext hm16').weak (by simp)).trans hmL
    have hlW : l < W0.heap.size := by obtain ⟨r, hr⟩ := hrec; exact (Array.getElem?_eq_some_iff.1 hr).1
    have hSc3 := hSc.ab (M := [l]) (C := w17.heap.size) (fun g hg => by
      have e : g = l := by simpa using hg
      subst e
      obtain ⟨r, hr⟩ := hrec
      exact ⟨hl0, _, hr, rfl⟩) hW17 hW0 h03
    have hic3 := hic.mod h03 (by simpa using notloop hrec hic)
    have hox3 : Ob W3 (.slice aox f.l.length capx) f.l := (Ob.ext hox hm16').mod hmL (fun k hk hh => by have := hnx k hk; have e : k = l := (by simpa using hh); omega)
    have hG3 := hG6.mod hmL (by have := hmW.size; simp; omega)
    have hiR : pre.length < R.length := by have := hpf.length_le; rw [HR.out.1]; simp at this; omega
    have hi2 : pre.length < L2.length := by rw [hl2, HR.out.2]; exact hiR
    have hRi : R[pre.length]? = some (p, f) := by
      obtain ⟨t, ht⟩ := hpf
      rw [HR.out.1, ← ht, List.map_append, List.append_assoc, List.getElem?_append_right (by simp)]
      simp [Fi.d]
    have hLi : L2[pre.length].d = (p, f) := by
      have h := hRi
      rw [← hd2, List.getElem?_map, List.getElem?_eq_getElem hi2] at h
      exact Option.some.inj h
    have hLp : L2[pre.length].p = p := congrArg Prod.fst hLi
    have hLf : L2[pre.length].f = f := congrArg Prod.snd hLi
    apply wpIn_block
    gi_wp2
    refine wpIn_region_T [⟨0, true, []⟩, ⟨1, true, []⟩, ⟨2, true, []⟩, ⟨3, true, []⟩, ⟨4, true, []⟩, ⟨5, true, []⟩, ⟨6, true, []⟩, ⟨7, true, []⟩, ⟨8, true, []⟩, ⟨9, true, []⟩, ⟨10, true, []⟩, ⟨11, true, []⟩, ⟨12, true, []⟩, ⟨13, true, []⟩, ⟨14, true, []⟩, ⟨15, true, []⟩, ⟨16, true, []⟩, ⟨17, true, []⟩, ⟨18, false, []⟩, ⟨19, true, []⟩, ⟨20, true, []⟩] (by kernel_rfl) (by kernel_rfl) (by kernel_rfl) (fun ⟨_, _, h⟩ => h) ?_
    have hm4 : Gw.Mod [] W3 W3.drew := Mod.drew [] W3
    obtain ⟨x4, hx4⟩ : ∃ x, x = W3.drew := ⟨_, rfl⟩
    rw [← hx4] at hm4 ⊢
    clear hx4
    have hSc4 := hSc3.ext hm4
    have hic4 := hic3.ext hm4
    have hox4 := hox3.ext hm4
    have hG4 := hG3.ext hm4
    obtain ⟨pi, hpi⟩ : ∃ pi, pi = pre.length := ⟨_, rfl⟩
    rw [← hpi] at hic4 hi2 hp3
    have hLp' : L2[pi].p = p := by subst hpi; exact hLp
    have hLf' : L2[pi].f = f := by subst hpi; exact hLf
    have HPI := Lib.hid hpi
    clear hpi hLp hLf hLi hRi
    obtain ⟨gw, tw, cw', hgw, hBw, c0, c1, c2, hbs2⟩ := hSc4.fr.at3 hi2
    rw [hLf'] at c0 c1 hbs2
    rcases Ow.blk hSc4.pl with ⟨_, h0, _⟩ | ⟨gp, cpp, restp, hep, hBp, _⟩
    · omega
    injection hep with e1 e2 e3
    clear e2
    subst e3
    have cp := hBp.cell' (i := pi) (u := .int .i64 (p : Nat)) (by
      rw [List.getElem?_append_left (by rw [iN_len, List.length_map]; exact hi2)]
      unfold iN
      rw [List.getElem?_map, List.getElem?_map, List.getElem?_eq_getElem hi2]
      simp [hLp'])
    subst hgw e1
    obtain ⟨u2, hu2⟩ : ∃ u, u = L2[pi].v := ⟨_, rfl⟩
    rw [← hu2] at c2 hbs2
    have hin : (pi : Int) < n := by rw [hl2] at hi2; omega
    have k0 := hic4.cell' (i := 0) rfl
    have k1 := hSc4.cw.cell' (i := 0) rfl
    have k2 := hSc4.cp.cell' (i := 0) rfl
    have z0 := hG4.cell' (i := 0) rfl
    have z1 := hG4.cell' (i := 1) rfl
    have z2 := hG4.cell' (i := 2) rfl
    have hbs1 := hox4.bs
    have SFx := fun w h1 h2 => sameF_yes f (.slice aox f.l.length capx) u2 w h1 h2
    unfold Fv.v at SFx
    clear hu2 hLf' hLp'
    have hdd : decide (n ≤ pi) = false := decide_eq_false (by rw [hl2] at hi2; omega)
    iterate 5 (refine wpT_n rfl rfl (fun K hK => ?_); go_wp2_with fail)
    iterate 6 (refine wpT_gq (gi := 4) rfl rfl rfl rfl rfl (fun K hK => ?_); go_wp2_with fail)
    iterate 2 (refine wpT_n rfl rfl (fun K hK => ?_); go_wp2_with fail)
    iterate 5 (refine wpT_gq (gi := 12) rfl rfl rfl rfl rfl (fun K hK => ?_); go_wp2_with fail)
    refine wpT_gcall (gi := 12) rfl rfl rfl rfl (fun K hK => ?_)
    go_wp2_with (go_at_call 24; refine (SFx _ hbs1 hbs2).mono ?_; rintro e x5 ⟨rfl, hm5'⟩)
    refine wpT_gq (gi := 12) rfl rfl rfl rfl rfl (fun K hK => ?_)
    go_wp2_with fail
    refine wpT_n rfl rfl (fun K hK => ?_)
    go_wp2_with fail
    refine wpT_nil ?_
    have hSc5 := hSc4.ext hm5'
    have hic5 := hic4.ext hm5'
    have j0 := hic5.cell' (i := 0) rfl
    have j1 := hSc5.ct.cell' (i := 0) rfl
    clear k0 k1 k2 c0 c1 c2 cp z0 z1 z2 hdd
    repeat (first
                  | (with_reducible refine si_store ?_)
                  | go_values
                  | gi_guarded
                  | gi_step
                  | gi_upon
                  | gi_back
                  | (simp only [Int.not_lt, Int.not_le] at *; go_simp))
    refine StopIn.go (wd_rnd l) rfl (fun _ => by intro h; cases h) fun K hK => ?_
    refine wp_store1 (by kernel_rfl) (by rfl) (u := .int .i64 ((pi : Nat) + 1)) (by rfl) ⟨rfl, rfl⟩ hic5 (by simp) ?_
    intro x6 hm6' hB6'
    refine hK _ _ ?_
    clear hK K
    have hic6 : Blk x6 ic 3 [.int .i64 ((pi : Nat) + 1)] := hB6'
    have hSc6 := hSc5.set hic5 hm6' hict hicp hLic hWic
    have hMt : Gw.Mod [ic] W3 x6 := ((hm4.ext hm5').weak (by simp)).trans hm6'
    have hK1 : KeepsFrom w17.heap.size W3 x6 := KeepsFrom.of_mod hMt (fun k hk => by
      have e : k = ic := by simpa using hk
      rw [e]
      exact .inr (.inr hic3.isCells))
    have hMX : Gw.Mod [l, ic] X x6 := ((hm16'.weak (by simp)).then hmL (fun g hg => .inl (by simp at hg; simp [hg]))).then hMt (fun g hg => .inl (by simp at hg; simp [hg]))
    have hK2 : KpL (0 :: EchL bs bb be vb) W0.heap.size X x6 := KpL.of_mod hMX (fun k hk => by
      have e : k = l ∨ k = ic := by simpa using hk
      rcases e with e | e
      · rw [e]
        exact ⟨fun hh => by have := hLlt l hh; omega, .inl hlW⟩
      · rw [e]
        exact ⟨fun hh => hLic ic hh rfl, .inl hic.lt⟩)
    have ct6 := hSc6.ct
    have j2 := hic6.cell' (i := 0) rfl
    have j3 := ct6.cell' (i := 0) rfl
    clear j0 j1
    by_cases h3 : pi + 1 = 3
    · obtain rfl : pi = 2 := by omega
      repeat (first
                    | go_values
                    | gi_guarded
                    | gi_step
                    | gi_upon
                    | gi_back
                    | (simp only [Int.not_lt, Int.not_le] at *; go_simp))
      exact ⟨hK1, rfl, hSc6, hic6⟩
    · have h4 : (pi : Int) + 1 ≠ 3 := by omega
      repeat (first
                    | go_values
                    | gi_guarded
                    | gi_step
                    | gi_upon
                    | gi_back
                    | (simp only [Int.not_lt, Int.not_le] at *; go_simp))
      exact ⟨hK1, hK2, hSc6, by rw [show (((pre ++ [(⟨p, .slice aox f.l.length capx, f⟩ : Fi)]).length : Nat) : Int) = (pi : Int) + 1 from by rw [HPI.out]; simp]; exact hic6, by rw [List.length_append, ← HPI.out]; simp; omega⟩
  case done =>
    rintro D1 xs X hD1 hS ⟨hSc, hic, hc3⟩ hK
    clear hS hic hc3
    have t0 := hSc.ct.cell' (i := 0) rfl
    repeat (first
                  | (with_reducible refine si_alloc ?_)
                  | go_values
                  | gi_guarded
                  | gi_step
                  | gi_upon
                  | gi_back
                  | (simp only [Int.not_lt, Int.not_le] at *; go_simp))
    refine StopIn.go wd_wide rfl (fun _ => by intro h; cases h) fun K hK => ?_
    refine wp_alloc zero_int ?_
    intro tr2 y1 ht21 ht22 hmy1 hBy1
    simp only [put_some, List.set_cons_succ, List.set_cons_zero]
    refine hK _ _ ?_
    clear hK K
    have hNy1 : Blk y1 tr2 3 [.int .i64 0] := hBy1
    repeat (first
                  | (with_reducible refine si_store ?_)
                  | go_values
                  | gi_guarded
                  | gi_step
                  | gi_upon
                  | gi_back
                  | (simp only [Int.not_lt, Int.not_le] at *; go_simp))
    refine StopIn.go wd_wide rfl (fun _ => by intro h; cases h) fun K hK => ?_
    refine wp_store1 (by kernel_rfl) (by rfl) (u := .int .i64 0) (by rfl) ⟨rfl, rfl⟩ hNy1 (by simp) ?_
    intro y2 hmy2 hBy2
    refine hK _ _ ?_
    clear hK K
    have hNy2 : Blk y2 tr2 3 [.int .i64 0] := hBy2
    have t1 := hNy2.cell' (i := 0) rfl
    repeat (first
                  | (with_reducible refine si_store ?_)
                  | go_values
                  | gi_guarded
                  | gi_step
                  | gi_upon
                  | gi_back
                  | (simp only [Int.not_lt, Int.not_le] at *; go_simp))
    refine StopIn.go wd_wide rfl (fun _ => by intro h; cases h) fun K hK => ?_
    refine wp_store1 (by kernel_rfl) (by rfl) (u := .int .i64 1) (by rfl) ⟨rfl, rfl⟩ hNy2 (by simp) ?_
    intro y3 hmy3 hBy3
    refine hK _ _ ?_
    clear hK K
    have hNy3 : Blk y3 tr2 3 [.int .i64 1] := hBy3
    have t2 := hNy3.cell' (i := 0) rfl
    clear t0 t1
    gi_wp2
    rw [roundsIn_succ]
    have hmy13 : Gw.Mod [] X y3 := (hmy1.fresh hmy2 (by simpa using ht21)).fresh hmy3 (by simpa using ht21)
    repeat (first
                  | (with_reducible refine si_alloc ?_)
                  | go_values
                  | gi_guarded
                  | gi_step
                  | gi_upon
                  | gi_back
                  | (simp only [Int.not_lt, Int.not_le] at *; go_simp))
    refine StopIn.go wd_wide rfl (fun _ => by intro h; cases h) fun K hK => ?_
    refine wp_alloc zero_int ?_
    intro ic2 y4 hi21 hi22 hmy4 hBy4
    simp only [put_some, List.set_cons_succ, List.set_cons_zero]
    refine hK _ _ ?_
    clear hK K
    have hIy4 : Blk y4 ic2 3 [.int .i64 0] := hBy4
    repeat (first
                  | (with_reducible refine si_store ?_)
                  | go_values
                  | gi_guarded
                  | gi_step
                  | gi_upon
                  | gi_back
                  | (simp only [Int.not_lt, Int.not_le] at *; go_simp))
    refine StopIn.go wd_wide rfl (fun _ => by intro h; cases h) fun K hK => ?_
    refine wp_store1 (by kernel_rfl) (by rfl) (u := .int .i64 0) (by rfl) ⟨rfl, rfl⟩ hIy4 (by simp) ?_
    intro y5 hmy5 hBy5
    refine hK _ _ ?_
    clear hK K
    have hIy5 : Blk y5 ic2 3 [.int .i64 ((([] : List Fi).length : Nat) : Int)] := hBy5
    have hmy35 : Gw.Mod [] y3 y5 := hmy4.fresh hmy5 (by simpa using hi21)
    have hmy05 := hmy13.ext hmy35
    have hSe := hSc.ext hmy05
    have hSy5 : ScF W w7.heap.size r6 bw bp tr2 1 (.slice ao8 n cap8) (.slice aop8 n capp8) L2 b e s bs bb be vb y5 := ⟨hSe.ec, hSe.cr, hSe.cw, hSe.cp, hNy3.ext hmy35, hSe.fr, hSe.pl, hSe.tab, hSe.md⟩
    have hD1lt0 : D1 < X.heap.size := (Array.getElem?_eq_some_iff.1 hK).1
    have hDy5 : y5.heap[D1]? = some (.deferred (some [])) := (hmy05.block D1 hD1lt0 (by simp)).trans hK
    have s05 := hmy05.size
    have s13 := hmy13.size
    have hD1lt : D1 < y5.heap.size := by omega
    have hLlt2 : ∀ k ∈ 0 :: EchL bs bb be vb, k < y5.heap.size := fun k hk => (List.mem_cons.1 hk).elim (fun e => e ▸ hSy5.tab.1) (hSy5.ec.lt k)
    have hWX := hSc.md.size
    have hWy5 : W.heap.size ≤ y5.heap.size := by omega
    have hict2 : tr2 ≠ ic2 := by have := hNy3.lt; omega
    have hicp2 : ic2 ∉ blks (.slice aop8 n capp8) := fun hh => by have := hSc.pl.lt ic2 hh; omega
    have hLic2 : ∀ k ∈ 0 :: EchL bs bb be vb, k ≠ ic2 := fun k hk e => by
      subst e
      rcases List.mem_cons.1 hk with e | hk
      · omega
      · have := hSc.ec.lt _ hk; omega
    have hWic2 : W.heap.size ≤ ic2 := by omega
    have hne12 : D1 ≠ ic2 := by omega
    clear hSe hNy1 hNy2 hBy1 hBy2 hBy3 hBy4 hBy5 hIy4 hmy1 hmy2 hmy3 hmy4 hmy5 t2
    repeat (first
                  | go_values
                  | gi_guarded
                  | gi_step
                  | gi_upon
                  | gi_back
                  | (simp only [Int.not_lt, Int.not_le] at *; go_simp))
    refine wpIn_rangeFuncP rfl (by decide) (gf := 52) rfl trivial (ent Tryd.func52 (by kernel_rfl) rfl)
      (each1_seq 11 y5 bs bb be vb b e s hSy5.ec hs he (by omega) hSy5.tab) (fun h k => h.trans k) (fun B X l o' h1 h2 => KpL.of_mod (Mod.putObj X l o') (fun k hk => by
        have e : k = l := by simpa using hk
        subst e
        exact ⟨fun hh => by have := hLlt2 k hh; omega, .inl h2⟩)) (Mod.refl _ _) (fun _ => rfl)
      (fun pre X => ScF W w7.heap.size r6 bw bp tr2 1 (.slice ao8 n cap8) (.slice aop8 n capp8) L2 b e s bs bb be vb X ∧ Blk X ic2 3 [.int .i64 (pre.length : Nat)] ∧ X.heap[D1]? = some (.deferred (some [])))
      (fun _ _ _ => False)
      (fun pre X Y M hI hM hm => ⟨hI.1.ab hM hWy5 hW0 hm, hI.2.1.mod hm (notin_of hM hI.2.1), (hm.block D1 (Array.getElem?_eq_some_iff.1 hI.2.2).1 (fun hh => by have := (hM D1 hh).1; omega)).trans hI.2.2⟩)
      (fun _ _ _ _ _ h _ _ => h)
      ⟨hSy5, hIy5, hDy5⟩ ?round2 ?done2 ?stop2
    case round2 =>
      rintro l pre x W0 X hl0 hrec ⟨hSc, hic, hp3⟩ hmW ⟨hox, hnx, hpf⟩ hlen
      obtain ⟨p, vx, f⟩ := x
      dsimp only at hox hnx
      obtain ⟨aox, capx, rfl, hcx1, hcx2⟩ := hox.sl.form
      simp only [Fi.enc]
      repeat (first
                    | (with_reducible refine si_alloc ?_)
                    | go_values
                    | gi_guarded
                    | gi_step
                    | gi_upon
                    | gi_back
                    | (simp only [Int.not_lt, Int.not_le] at *; go_simp))
      refine StopIn.go (wd_rnd l) rfl (fun _ => by intro h; cases h) fun K hK => ?_
      refine wp_alloc zero_frame ?_
      intro g w5 hg1 hg2 hm5 hB5
      simp only [put_some, List.set_cons_succ, List.set_cons_zero]
      refine hK _ _ ?_
      clear hK K
      repeat (first
                    | (with_reducible refine si_store ?_)
                    | go_values
                    | gi_guarded
                    | gi_step
                    | gi_upon
                    | gi_back
                    | (simp only [Int.not_lt, Int.not_le] at *; go_simp))
      refine StopIn.go (wd_rnd l) rfl (fun _ => by intro h; cases h) fun K hK => ?_
      refine wp_store (u := .agg #[.int .u64 f.e, .int .u64 f.s, .slice aox f.l.length capx]) (by rfl) (by rfl) (by kernel_rfl) hB5 (by simp [Value.cells]) (by simp [Value.cells, Value.oneCell']) ?_
      intro w6 hm6 hB6
      refine hK _ _ ?_
      clear hK K
      have hG6 : Blk w6 g 25 [.int .u64 f.e, .int .u64 f.s, .slice aox f.l.length capx] := hB6
      repeat (first
                    | go_values
                    | gi_guarded
                    | gi_step
                    | gi_upon
                    | gi_back
                    | (simp only [Int.not_lt, Int.not_le] at *; go_simp))
      have hm16' : Gw.Mod [] X w6 := hm5.fresh hm6 (by simpa using hg1)
      refine ⟨hm16', fun W3 hmL => ?_⟩
      have h03 : Gw.Mod [l] W0 W3 := ((hmW.ext hm16').weak (by simp)).trans hmL
      have hlW : l < W0.heap.size := by obtain ⟨r, hr⟩ := hrec; exact (Array.getElem?_eq_some_iff.1 hr).1
      have hSc3 := hSc.ab (M := [l]) (C := y5.heap.size) (fun g hg => by
        have e : g = l := by simpa using hg
        subst e
        obtain ⟨r, hr⟩ := hrec
        exact ⟨hl0, _, hr, rfl⟩) hWy5 hW0 h03
      have hic3 := hic.mod h03 (by simpa using notloop hrec hic)
      have hox3 : Ob W3 (.slice aox f.l.length capx) f.l := (Ob.ext hox hm16').mod hmL (fun k hk hh => by have := hnx k hk; have e : k = l := (by simpa using hh); omega)
      have hG3 := hG6.mod hmL (by have := hmW.size; simp; omega)
      have hiR : pre.length < R.length := by have := hpf.length_le; rw [HR.out.1]; simp at this; omega
      have hi2 : pre.length < L2.length := by rw [hl2, HR.out.2]; exact hiR
      have hRi : R[pre.length]? = some (p, f) := by
        obtain ⟨t, ht⟩ := hpf
        rw [HR.out.1, ← ht, List.map_append, List.append_assoc, List.getElem?_append_right (by simp)]
        simp [Fi.d]
      have hLi : L2[pre.length].d = (p, f) := by
        have h := hRi
        rw [← hd2, List.getElem?_map, List.getElem?_eq_getElem hi2] at h
        exact Option.some.inj h
      have hLp : L2[pre.length].p = p := congrArg Prod.fst hLi
      have hLf : L2[pre.length].f = f := congrArg Prod.snd hLi
      apply wpIn_block
      gi_wp2
      refine wpIn_region_T [⟨0, true, []⟩, ⟨1, true, []⟩, ⟨2, true, []⟩, ⟨3, true, []⟩, ⟨4, true, []⟩, ⟨5, true, []⟩, ⟨6, true, []⟩, ⟨7, true, []⟩, ⟨8, true, []⟩, ⟨9, true, []⟩, ⟨10, true, []⟩, ⟨11, true, []⟩, ⟨12, true, []⟩, ⟨13, true, []⟩, ⟨14, true, []⟩, ⟨15, true, []⟩, ⟨16, true, []⟩, ⟨17, true, []⟩, ⟨18, false, []⟩, ⟨19, true, []⟩, ⟨20, true, []⟩] (by kernel_rfl) (by kernel_rfl) (by kernel_rfl) (fun ⟨_, _, h⟩ => h) ?_
      have hm4 : Gw.Mod [] W3 W3.drew := Mod.drew [] W3
      obtain ⟨x4, hx4⟩ : ∃ x, x = W3.drew := ⟨_, rfl⟩
      rw [← hx4] at hm4 ⊢
      clear hx4
      have hSc4 := hSc3.ext hm4
      have hic4 := hic3.ext hm4
      have hox4 := hox3.ext hm4
      have hG4 := hG3.ext hm4
      obtain ⟨pi, hpi⟩ : ∃ pi, pi = pre.length := ⟨_, rfl⟩
      rw [← hpi] at hic4 hi2
      have hLp' : L2[pi].p = p := by subst hpi; exact hLp
      have hLf' : L2[pi].f = f := by subst hpi; exact hLf
      have HPI := Lib.hid hpi
      clear hpi hLp hLf hLi hRi
      obtain ⟨gw, tw, cw', hgw, hBw, c0, c1, c2, hbs2⟩ := hSc4.fr.at3 hi2
      rw [hLf'] at c0 c1 hbs2
      rcases Ow.blk hSc4.pl with ⟨_, h0, _⟩ | ⟨gp, cpp, restp, hep, hBp, _⟩
      · omega
      injection hep with e1 e2 e3
      clear e2
      subst e3
      have cp := hBp.cell' (i := pi) (u := .int .i64 (p : Nat)) (by
        rw [List.getElem?_append_left (by rw [iN_len, List.length_map]; exact hi2)]
        unfold iN
        rw [List.getElem?_map, List.getElem?_map, List.getElem?_eq_getElem hi2]
        simp [hLp'])
      subst hgw e1
      obtain ⟨u2, hu2⟩ : ∃ u, u = L2[pi].v := ⟨_, rfl⟩
      rw [← hu2] at c2 hbs2
      have hin : (pi : Int) < n := by rw [hl2] at hi2; omega
      have k0 := hic4.cell' (i := 0) rfl
      have k1 := hSc4.cw.cell' (i := 0) rfl
      have k2 := hSc4.cp.cell' (i := 0) rfl
      have z0 := hG4.cell' (i := 0) rfl
      have z1 := hG4.cell' (i := 1) rfl
      have z2 := hG4.cell' (i := 2) rfl
      have hbs1 := hox4.bs
      have SFx := fun w h1 h2 => sameF_yes f (.slice aox f.l.length capx) u2 w h1 h2
      unfold Fv.v at SFx
      clear hu2 hLf' hLp'
      have hdd : decide (n ≤ pi) = false := decide_eq_false (by rw [hl2] at hi2; omega)
      iterate 5 (refine wpT_n rfl rfl (fun K hK => ?_); go_wp2_with fail)
      iterate 6 (refine wpT_gq (gi := 4) rfl rfl rfl rfl rfl (fun K hK => ?_); go_wp2_with fail)
      iterate 2 (refine wpT_n rfl rfl (fun K hK => ?_); go_wp2_with fail)
      iterate 5 (refine wpT_gq (gi := 12) rfl rfl rfl rfl rfl (fun K hK => ?_); go_wp2_with fail)
      refine wpT_gcall (gi := 12) rfl rfl rfl rfl (fun K hK => ?_)
      go_wp2_with (go_at_call 24; refine (SFx _ hbs1 hbs2).mono ?_; rintro e x5 ⟨rfl, hm5'⟩)
      refine wpT_gq (gi := 12) rfl rfl rfl rfl rfl (fun K hK => ?_)
      go_wp2_with fail
      refine wpT_n rfl rfl (fun K hK => ?_)
      go_wp2_with fail
      refine wpT_nil ?_
      have hSc5 := hSc4.ext hm5'
      have hic5 := hic4.ext hm5'
      have j0 := hic5.cell' (i := 0) rfl
      have j1 := hSc5.ct.cell' (i := 0) rfl
      clear k0 k1 k2 c0 c1 c2 cp z0 z1 z2 hdd
      repeat (first
                    | (with_reducible refine si_store ?_)
                    | go_values
                    | gi_guarded
                    | gi_step
                    | gi_upon
                    | gi_back
                    | (simp only [Int.not_lt, Int.not_le] at *; go_simp))
      refine StopIn.go (wd_rnd l) rfl (fun _ => by intro h; cases h) fun K hK => ?_
      refine wp_store1 (by kernel_rfl) (by rfl) (u := .int .i64 ((pi : Nat) + 1)) (by rfl) ⟨rfl, rfl⟩ hic5 (by simp) ?_
      intro x6 hm6' hB6'
      refine hK _ _ ?_
      clear hK K
      have hic6 : Blk x6 ic2 3 [.int .i64 ((pi : Nat) + 1)] := hB6'
      have hSc6 := hSc5.set hic5 hm6' hict2 hicp2 hLic2 hWic2
      have hMt : Gw.Mod [ic2] W3 x6 := ((hm4.ext hm5').weak (by simp)).trans hm6'
      have hK1 : KeepsFrom y5.heap.size W3 x6 := KeepsFrom.of_mod hMt (fun k hk => by
        have e : k = ic2 := by simpa using hk
        rw [e]
        exact .inr (.inr hic3.isCells))
      have hMX : Gw.Mod [l, ic2] X x6 := ((hm16'.weak (by simp)).then hmL (fun g hg => .inl (by simp at hg; simp [hg]))).then hMt (fun g hg => .inl (by simp at hg; simp [hg]))
      have hK2 : KpL (0 :: EchL bs bb be vb) W0.heap.size X x6 := KpL.of_mod hMX (fun k hk => by
        have e : k = l ∨ k = ic2 := by simpa using hk
        rcases e with e | e
        · rw [e]
          exact ⟨fun hh => by have := hLlt2 l hh; omega, .inl hlW⟩
        · rw [e]
          exact ⟨fun hh => hLic2 ic2 hh rfl, .inl hic.lt⟩)
      have ct6 := hSc6.ct
      have j2 := hic6.cell' (i := 0) rfl
      have j3 := ct6.cell' (i := 0) rfl
      clear j0 j1
      repeat (first
                    | go_values
                    | gi_guarded
                    | gi_step
                    | gi_upon
                    | gi_back
                    | (simp only [Int.not_lt, Int.not_le] at *; go_simp))
      have hD6 : x6.heap[D1]? = some (.deferred (some [])) := (hMt.block D1 (Nat.lt_of_lt_of_le hD1lt (Nat.le_trans (Nat.le_trans hl0 (Nat.le_of_lt hlW)) h03.size)) (by simp; omega)).trans ((h03.block D1 (Nat.lt_of_lt_of_le hD1lt (Nat.le_trans hl0 (Nat.le_of_lt hlW))) (by simp; omega)).trans hp3)
      exact ⟨hK1, hK2, hSc6, by rw [show (((pre ++ [(⟨p, .slice aox f.l.length capx, f⟩ : Fi)]).length : Nat) : Int) = (pi : Int) + 1 from by rw [HPI.out]; simp]; exact hic6, hD6⟩
    case done2 =>
      rintro D2 xs2 X2 hD2 hS2 ⟨hSc2, hic2, hE2⟩ hK2
      have hx2 : (xs2.length : Nat) = n := by
        have := congrArg List.length hS2
        rw [List.length_map] at this
        rw [this, HR.out.2, HR.out.1]
      rw [hx2] at hic2
      have t0 := hSc2.ct.cell' (i := 0) rfl
      have t1 := hic2.cell' (i := 0) rfl
      have t2 := hSc2.cw.cell' (i := 0) rfl
      repeat (first
                    | (with_reducible refine si_alloc ?_)
                    | go_values
                    | gi_guarded
                    | gi_step
                    | gi_upon
                    | gi_back
                    | (simp only [Int.not_lt, Int.not_le] at *; go_simp))
      refine StopIn.go wd_wide rfl (fun _ => by intro h; cases h) fun K hK => ?_
      refine wp_alloc zero_int ?_
      intro tr3 z1 ht31 ht32 hmz1 hBz1
      simp only [put_some, List.set_cons_succ, List.set_cons_zero]
      refine hK _ _ ?_
      clear hK K
      have hNz1 : Blk z1 tr3 3 [.int .i64 0] := hBz1
      repeat (first
                    | (with_reducible refine si_store ?_)
                    | go_values
                    | gi_guarded
                    | gi_step
                    | gi_upon
                    | gi_back
                    | (simp only [Int.not_lt, Int.not_le] at *; go_simp))
      refine StopIn.go wd_wide rfl (fun _ => by intro h; cases h) fun K hK => ?_
      refine wp_store1 (by kernel_rfl) (by rfl) (u := .int .i64 1) (by rfl) ⟨rfl, rfl⟩ hNz1 (by simp) ?_
      intro z2 hmz2 hBz2
      refine hK _ _ ?_
      clear hK K
      have hNz2 : Blk z2 tr3 3 [.int .i64 1] := hBz2
      have t3 := hNz2.cell' (i := 0) rfl
      repeat (first
                    | (with_reducible refine si_store ?_)
                    | go_values
                    | gi_guarded
                    | gi_step
                    | gi_upon
                    | gi_back
                    | (simp only [Int.not_lt, Int.not_le] at *; go_simp))
      refine StopIn.go wd_wide rfl (fun _ => by intro h; cases h) fun K hK => ?_
      refine wp_store1 (by kernel_rfl) (by rfl) (u := .int .i64 2) (by rfl) ⟨rfl, rfl⟩ hNz2 (by simp) ?_
      intro z3 hmz3 hBz3
      refine hK _ _ ?_
      clear hK K
      have hNz3 : Blk z3 tr3 3 [.int .i64 2] := hBz3
      have t4 := hNz3.cell' (i := 0) rfl
      clear t0 t1 t2 t3
      gi_wp2
      rw [roundsIn_succ]
      have hmz : Gw.Mod [] X2 z3 := (hmz1.fresh hmz2 (by simpa using ht31)).fresh hmz3 (by simpa using ht31)
      have hcr := hSc2.cr.ext hmz
      have hmd := hSc2.md.ext hmz
      repeat (first
                    | (with_reducible refine si_store ?_)
                    | go_values
                    | gi_guarded
                    | gi_step
                    | gi_upon
                    | gi_back
                    | (simp only [Int.not_lt, Int.not_le] at *; go_simp))
      refine StopIn.go wd_wide rfl (fun _ => by intro h; cases h) fun K hK => ?_
      refine wp_store1 (by kernel_rfl) (by rfl) (u := .bool true) (by rfl) ⟨rfl, rfl⟩ hcr (by simp) ?_
      intro z4 hmz4 hBz4
      refine hK _ _ ?_
      clear hK K
      have hRz4 : Blk z4 r6 4 [.bool true] := hBz4
      have hr6W : W.heap.size ≤ r6 := hr1
      have hmd4 : Gw.Mod [] W z4 := hmd.fresh hmz4 (by simpa using hr6W)
      have hcc := hcr.isCells
      have hne : ∀ {Y : World} {d : Nat}, Y.heap[d]? = some (.deferred (some [])) → (∃ o : Obj, Y.heap[r6]? = some o ∧ o.isCells = true) → d ∉ [r6] := fun h1 ⟨o, h2, h3⟩ hh => by
        rw [List.mem_singleton.1 hh, h2] at h1
        cases h1
        cases h3
      have hkeep : ∀ {A B : World} {d : Nat}, A.heap[d]? = some (.deferred (some [])) → Gw.Mod [] A B → B.heap[d]? = some (.deferred (some [])) := fun h hm => (hm.block _ (Array.getElem?_eq_some_iff.1 h).1 (by simp)).trans h
      have hK23 := hkeep hK2 hmz
      have hE23 := hkeep hE2 hmz
      have hK24 : z4.heap[D2]? = some (.deferred (some [])) := (hmz4.block D2 (Array.getElem?_eq_some_iff.1 hK23).1 (hne hK23 hcc)).trans hK23
      have hE24 : z4.heap[D1]? = some (.deferred (some [])) := (hmz4.block D1 (Array.getElem?_eq_some_iff.1 hE23).1 (hne hE23 hcc)).trans hE23
      have hD12 : D1 ≠ D2 := by omega
      clear t4 hSc2 hic2 hE2 hK2 hBz1 hBz2 hBz3 hBz4 hNz1 hNz2 hNz3 hcr hcc hK23 hE23
      repeat (first
                    | go_values
                    | gi_guarded
                    | gi_step
                    | gi_upon
                    | gi_back
                    | (simp only [Int.not_lt, Int.not_le] at *; go_simp))
      have n2 : r6 ∉ [D2] := fun hh => hne hK24 hRz4.isCells (by simpa using (List.mem_singleton.1 hh).symm)
      have n1 : r6 ∉ [D1] := fun hh => hne hE24 hRz4.isCells (by simpa using (List.mem_singleton.1 hh).symm)
      refine ⟨by simp, .inl ⟨_, _, rfl, run_takeDeferred hK24, ?_⟩⟩
      have hmD2 := Gw.Mod.putObj z4 D2 (.deferred none)
      have hE25 : (z4.putObj D2 (.deferred none)).heap[D1]? = some (.deferred (some [])) := (World.putObj_heap_other (by omega)).trans hE24
      refine ⟨by simp, .inl ⟨_, _, rfl, run_takeDeferred hE25, ?_⟩⟩
      have hmD1 := Gw.Mod.putObj (z4.putObj D2 (.deferred none)) D1 (.deferred none)
      have hRz6 := (hRz4.mod hmD2 n2).mod hmD1 n1
      have rr := hRz6.cell' (i := 0) rfl
      exact ⟨.bool true, by simp [results, Tryd.results5, go_sem, rr], rfl, (hmd4.fresh hmD2 (by simp; omega)).fresh hmD1 (by simp; omega)⟩
    case stop2 =>
      intro D c pre X _ _ h _
      exact h.elim
  case stop =>
    rintro D1 c pre X hD1 hSp ⟨rfl, hSc, hic⟩ hK
    clear hSp hic
    have t0 := hSc.ct.cell' (i := 0) rfl
    repeat (first
                  | (with_reducible refine si_alloc ?_)
                  | go_values
                  | gi_guarded
                  | gi_step
                  | gi_upon
                  | gi_back
                  | (simp only [Int.not_lt, Int.not_le] at *; go_simp))
    refine StopIn.go wd_wide rfl (fun _ => by intro h; cases h) fun K hK => ?_
    refine wp_alloc zero_int ?_
    intro tr2 y1 ht21 ht22 hmy1 hBy1
    simp only [put_some, List.set_cons_succ, List.set_cons_zero]
    refine hK _ _ ?_
    clear hK K
    have hNy1 : Blk y1 tr2 3 [.int .i64 0] := hBy1
    repeat (first
                  | (with_reducible refine si_store ?_)
                  | go_values
                  | gi_guarded
                  | gi_step
                  | gi_upon
                  | gi_back
                  | (simp only [Int.not_lt, Int.not_le] at *; go_simp))
    refine StopIn.go wd_wide rfl (fun _ => by intro h; cases h) fun K hK => ?_
    refine wp_store1 (by kernel_rfl) (by rfl) (u := .int .i64 0) (by rfl) ⟨rfl, rfl⟩ hNy1 (by simp) ?_
    intro y2 hmy2 hBy2
    refine hK _ _ ?_
    clear hK K
    have hNy2 : Blk y2 tr2 3 [.int .i64 0] := hBy2
    have t1 := hNy2.cell' (i := 0) rfl
    repeat (first
                  | (with_reducible refine si_store ?_)
                  | go_values
                  | gi_guarded
                  | gi_step
                  | gi_upon
                  | gi_back
                  | (simp only [Int.not_lt, Int.not_le] at *; go_simp))
    refine StopIn.go wd_wide rfl (fun _ => by intro h; cases h) fun K hK => ?_
    refine wp_store1 (by kernel_rfl) (by rfl) (u := .int .i64 1) (by rfl) ⟨rfl, rfl⟩ hNy2 (by simp) ?_
    intro y3 hmy3 hBy3
    refine hK _ _ ?_
    clear hK K
    have hNy3 : Blk y3 tr2 3 [.int .i64 1] := hBy3
    have t2 := hNy3.cell' (i := 0) rfl
    clear t0 t1
    gi_wp2
    rw [roundsIn_succ]
    have hmy13 : Gw.Mod [] X y3 := (hmy1.fresh hmy2 (by simpa using ht21)).fresh hmy3 (by simpa using ht21)
    repeat (first
                  | (with_reducible refine si_alloc ?_)
                  | go_values
                  | gi_guarded
                  | gi_step
                  | gi_upon
                  | gi_back
                  | (simp only [Int.not_lt, Int.not_le] at *; go_simp))
    refine StopIn.go wd_wide rfl (fun _ => by intro h; cases h) fun K hK => ?_
    refine wp_alloc zero_int ?_
    intro ic2 y4 hi21 hi22 hmy4 hBy4
    simp only [put_some, List.set_cons_succ, List.set_cons_zero]
    refine hK _ _ ?_
    clear hK K
    have hIy4 : Blk y4 ic2 3 [.int .i64 0] := hBy4
    repeat (first
                  | (with_reducible refine si_store ?_)
                  | go_values
                  | gi_guarded
                  | gi_step
                  | gi_upon
                  | gi_back
                  | (simp only [Int.not_lt, Int.not_le] at *; go_simp))
    refine StopIn.go wd_wide rfl (fun _ => by intro h; cases h) fun K hK => ?_
    refine wp_store1 (by kernel_rfl) (by rfl) (u := .int .i64 0) (by rfl) ⟨rfl, rfl⟩ hIy4 (by simp) ?_
    intro y5 hmy5 hBy5
    refine hK _ _ ?_
    clear hK K
    have hIy5 : Blk y5 ic2 3 [.int .i64 ((([] : List Fi).length : Nat) : Int)] := hBy5
    have hmy35 : Gw.Mod [] y3 y5 := hmy4.fresh hmy5 (by simpa using hi21)
    have hmy05 := hmy13.ext hmy35
    have hSe := hSc.ext hmy05
    have hSy5 : ScF W w7.heap.size r6 bw bp tr2 1 (.slice ao8 n cap8) (.slice aop8 n capp8) L2 b e s bs bb be vb y5 := ⟨hSe.ec, hSe.cr, hSe.cw, hSe.cp, hNy3.ext hmy35, hSe.fr, hSe.pl, hSe.tab, hSe.md⟩
    have hD1lt0 : D1 < X.heap.size := (Array.getElem?_eq_some_iff.1 hK).1
    have hDy5 : y5.heap[D1]? = some (.deferred (some [])) := (hmy05.block D1 hD1lt0 (by simp)).trans hK
    have s05 := hmy05.size
    have s13 := hmy13.size
    have hD1lt : D1 < y5.heap.size := by omega
    have hLlt2 : ∀ k ∈ 0 :: EchL bs bb be vb, k < y5.heap.size := fun k hk => (List.mem_cons.1 hk).elim (fun e => e ▸ hSy5.tab.1) (hSy5.ec.lt k)
    have hWX := hSc.md.size
    have hWy5 : W.heap.size ≤ y5.heap.size := by omega
    have hict2 : tr2 ≠ ic2 := by have := hNy3.lt; omega
    have hicp2 : ic2 ∉ blks (.slice aop8 n capp8) := fun hh => by have := hSc.pl.lt ic2 hh; omega
    have hLic2 : ∀ k ∈ 0 :: EchL bs bb be vb, k ≠ ic2 := fun k hk e => by
      subst e
      rcases List.mem_cons.1 hk with e | hk
      · omega
      · have := hSc.ec.lt _ hk; omega
    have hWic2 : W.heap.size ≤ ic2 := by omega
    have hne12 : D1 ≠ ic2 := by omega
    clear hSe hNy1 hNy2 hBy1 hBy2 hBy3 hBy4 hBy5 hIy4 hmy1 hmy2 hmy3 hmy4 hmy5 t2
    repeat (first
                  | go_values
                  | gi_guarded
                  | gi_step
                  | gi_upon
                  | gi_back
                  | (simp only [Int.not_lt, Int.not_le] at *; go_simp))
    refine wpIn_rangeFuncP rfl (by decide) (gf := 52) rfl trivial (ent Tryd.func52 (by kernel_rfl) rfl)
      (each1_seq 11 y5 bs bb be vb b e s hSy5.ec hs he (by omega) hSy5.tab) (fun h k => h.trans k) (fun B X l o' h1 h2 => KpL.of_mod (Mod.putObj X l o') (fun k hk => by
        have e : k = l := by simpa using hk
        subst e
        exact ⟨fun hh => by have := hLlt2 k hh; omega, .inl h2⟩)) (Mod.refl _ _) (fun _ => rfl)
      (fun pre X => ScF W w7.heap.size r6 bw bp tr2 1 (.slice ao8 n cap8) (.slice aop8 n capp8) L2 b e s bs bb be vb X ∧ Blk X ic2 3 [.int .i64 (pre.length : Nat)] ∧ X.heap[D1]? = some (.deferred (some [])))
      (fun _ _ _ => False)
      (fun pre X Y M hI hM hm => ⟨hI.1.ab hM hWy5 hW0 hm, hI.2.1.mod hm (notin_of hM hI.2.1), (hm.block D1 (Array.getElem?_eq_some_iff.1 hI.2.2).1 (fun hh => by have := (hM D1 hh).1; omega)).trans hI.2.2⟩)
      (fun _ _ _ _ _ h _ _ => h)
      ⟨hSy5, hIy5, hDy5⟩ ?round3 ?done3 ?stop3
    case round3 =>
      rintro l pre x W0 X hl0 hrec ⟨hSc, hic, hp3⟩ hmW ⟨hox, hnx, hpf⟩ hlen
      obtain ⟨p, vx, f⟩ := x
      dsimp only at hox hnx
      obtain ⟨aox, capx, rfl, hcx1, hcx2⟩ := hox.sl.form
      simp only [Fi.enc]
      repeat (first
                    | (with_reducible refine si_alloc ?_)
                    | go_values
                    | gi_guarded
                    | gi_step
                    | gi_upon
                    | gi_back
                    | (simp only [Int.not_lt, Int.not_le] at *; go_simp))
      refine StopIn.go (wd_rnd l) rfl (fun _ => by intro h; cases h) fun K hK => ?_
      refine wp_alloc zero_frame ?_
      intro g w5 hg1 hg2 hm5 hB5
      simp only [put_some, List.set_cons_succ, List.set_cons_zero]
      refine hK _ _ ?_
      clear hK K
      repeat (first
                    | (with_reducible refine si_store ?_)
                    | go_values
                    | gi_guarded
                    | gi_step
                    | gi_upon
                    | gi_back
                    | (simp only [Int.not_lt, Int.not_le] at *; go_simp))
      refine StopIn.go (wd_rnd l) rfl (fun _ => by intro h; cases h) fun K hK => ?_
      refine wp_store (u := .agg #[.int .u64 f.e, .int .u64 f.s, .slice aox f.l.length capx]) (by rfl) (by rfl) (by kernel_rfl) hB5 (by simp [Value.cells]) (by simp [Value.cells, Value.oneCell']) ?_
      intro w6 hm6 hB6
      refine hK _ _ ?_
      clear hK K
      have hG6 : Blk w6 g 25 [.int .u64 f.e, .int .u64 f.s, .slice aox f.l.length capx] := hB6
      repeat (first
                    | go_values
                    | gi_guarded
                    | gi_step
                    | gi_upon
                    | gi_back
                    | (simp only [Int.not_lt, Int.not_le] at *; go_simp))
      have hm16' : Gw.Mod [] X w6 := hm5.fresh hm6 (by simpa using hg1)
      refine ⟨hm16', fun W3 hmL => ?_⟩
      have h03 : Gw.Mod [l] W0 W3 := ((hmW.ext hm16').weak (by simp)).trans hmL
      have hlW : l < W0.heap.size := by obtain ⟨r, hr⟩ := hrec; exact (Array.getElem?_eq_some_iff.1 hr).1
      have hSc3 := hSc.ab (M := [l]) (C := y5.heap.size) (fun g hg => by
        have e : g = l := by simpa using hg
        subst e
        obtain ⟨r, hr⟩ := hrec
        exact ⟨hl0, _, hr, rfl⟩) hWy5 hW0 h03
      have hic3 := hic.mod h03 (by simpa using notloop hrec hic)
      have hox3 : Ob W3 (.slice aox f.l.length capx) f.l := (Ob.ext hox hm16').mod hmL (fun k hk hh => by have := hnx k hk; have e : k = l := (by simpa using hh); omega)
      have hG3 := hG6.mod hmL (by have := hmW.size; simp; omega)
      have hiR : pre.length < R.length := by have := hpf.length_le; rw [HR.out.1]; simp at this; omega
      have hi2 : pre.length < L2.length := by rw [hl2, HR.out.2]; exact hiR
      have hRi : R[pre.length]? = some (p, f) := by
        obtain ⟨t, ht⟩ := hpf
        rw [HR.out.1, ← ht, List.map_append, List.append_assoc, List.getElem?_append_right (by simp)]
        simp [Fi.d]
      have hLi : L2[pre.length].d = (p, f) := by
        have h := hRi
        rw [← hd2, List.getElem?_map, List.getElem?_eq_getElem hi2] at h
        exact Option.some.inj h
      have hLp : L2[pre.length].p = p := congrArg Prod.fst hLi
      have hLf : L2[pre.length].f = f := congrArg Prod.snd hLi
      apply wpIn_block
      gi_wp2
      refine wpIn_region_T [⟨0, true, []⟩, ⟨1, true, []⟩, ⟨2, true, []⟩, ⟨3, true, []⟩, ⟨4, true, []⟩, ⟨5, true, []⟩, ⟨6, true, []⟩, ⟨7, true, []⟩, ⟨8, true, []⟩, ⟨9, true, []⟩, ⟨10, true, []⟩, ⟨11, true, []⟩, ⟨12, true, []⟩, ⟨13, true, []⟩, ⟨14, true, []⟩, ⟨15, true, []⟩, ⟨16, true, []⟩, ⟨17, true, []⟩, ⟨18, false, []⟩, ⟨19, true, []⟩, ⟨20, true, []⟩] (by kernel_rfl) (by kernel_rfl) (by kernel_rfl) (fun ⟨_, _, h⟩ => h) ?_
      have hm4 : Gw.Mod [] W3 W3.drew := Mod.drew [] W3
      obtain ⟨x4, hx4⟩ : ∃ x, x = W3.drew := ⟨_, rfl⟩
      rw [← hx4] at hm4 ⊢
      clear hx4
      have hSc4 := hSc3.ext hm4
      have hic4 := hic3.ext hm4
      have hox4 := hox3.ext hm4
      have hG4 := hG3.ext hm4
      obtain ⟨pi, hpi⟩ : ∃ pi, pi = pre.length := ⟨_, rfl⟩
      rw [← hpi] at hic4 hi2
      have hLp' : L2[pi].p = p := by subst hpi; exact hLp
      have hLf' : L2[pi].f = f := by subst hpi; exact hLf
      have HPI := Lib.hid hpi
      clear hpi hLp hLf hLi hRi
      obtain ⟨gw, tw, cw', hgw, hBw, c0, c1, c2, hbs2⟩ := hSc4.fr.at3 hi2
      rw [hLf'] at c0 c1 hbs2
      rcases Ow.blk hSc4.pl with ⟨_, h0, _⟩ | ⟨gp, cpp, restp, hep, hBp, _⟩
      · omega
      injection hep with e1 e2 e3
      clear e2
      subst e3
      have cp := hBp.cell' (i := pi) (u := .int .i64 (p : Nat)) (by
        rw [List.getElem?_append_left (by rw [iN_len, List.length_map]; exact hi2)]
        unfold iN
        rw [List.getElem?_map, List.getElem?_map, List.getElem?_eq_getElem hi2]
        simp [hLp'])
      subst hgw e1
      obtain ⟨u2, hu2⟩ : ∃ u, u = L2[pi].v := ⟨_, rfl⟩
      rw [← hu2] at c2 hbs2
      have hin : (pi : Int) < n := by rw [hl2] at hi2; omega
      have k0 := hic4.cell' (i := 0) rfl
      have k1 := hSc4.cw.cell' (i := 0) rfl
      have k2 := hSc4.cp.cell' (i := 0) rfl
      have z0 := hG4.cell' (i := 0) rfl
      have z1 := hG4.cell' (i := 1) rfl
      have z2 := hG4.cell' (i := 2) rfl
      have hbs1 := hox4.bs
      have SFx := fun w h1 h2 => sameF_yes f (.slice aox f.l.length capx) u2 w h1 h2
      unfold Fv.v at SFx
      clear hu2 hLf' hLp'
      have hdd : decide (n ≤ pi) = false := decide_eq_false (by rw [hl2] at hi2; omega)
      iterate 5 (refine wpT_n rfl rfl (fun K hK => ?_); go_wp2_with fail)
      iterate 6 (refine wpT_gq (gi := 4) rfl rfl rfl rfl rfl (fun K hK => ?_); go_wp2_with fail)
      iterate 2 (refine wpT_n rfl rfl (fun K hK => ?_); go_wp2_with fail)
      iterate 5 (refine wpT_gq (gi := 12) rfl rfl rfl rfl rfl (fun K hK => ?_); go_wp2_with fail)
      refine wpT_gcall (gi := 12) rfl rfl rfl rfl (fun K hK => ?_)
      go_wp2_with (go_at_call 24; refine (SFx _ hbs1 hbs2).mono ?_; rintro e x5 ⟨rfl, hm5'⟩)
      refine wpT_gq (gi := 12) rfl rfl rfl rfl rfl (fun K hK => ?_)
      go_wp2_with fail
      refine wpT_n rfl rfl (fun K hK => ?_)
      go_wp2_with fail
      refine wpT_nil ?_
      have hSc5 := hSc4.ext hm5'
      have hic5 := hic4.ext hm5'
      have j0 := hic5.cell' (i := 0) rfl
      have j1 := hSc5.ct.cell' (i := 0) rfl
      clear k0 k1 k2 c0 c1 c2 cp z0 z1 z2 hdd
      repeat (first
                    | (with_reducible refine si_store ?_)
                    | go_values
                    | gi_guarded
                    | gi_step
                    | gi_upon
                    | gi_back
                    | (simp only [Int.not_lt, Int.not_le] at *; go_simp))
      refine StopIn.go (wd_rnd l) rfl (fun _ => by intro h; cases h) fun K hK => ?_
      refine wp_store1 (by kernel_rfl) (by rfl) (u := .int .i64 ((pi : Nat) + 1)) (by rfl) ⟨rfl, rfl⟩ hic5 (by simp) ?_
      intro x6 hm6' hB6'
      refine hK _ _ ?_
      clear hK K
      have hic6 : Blk x6 ic2 3 [.int .i64 ((pi : Nat) + 1)] := hB6'
      have hSc6 := hSc5.set hic5 hm6' hict2 hicp2 hLic2 hWic2
      have hMt : Gw.Mod [ic2] W3 x6 := ((hm4.ext hm5').weak (by simp)).trans hm6'
      have hK1 : KeepsFrom y5.heap.size W3 x6 := KeepsFrom.of_mod hMt (fun k hk => by
        have e : k = ic2 := by simpa using hk
        rw [e]
        exact .inr (.inr hic3.isCells))
      have hMX : Gw.Mod [l, ic2] X x6 := ((hm16'.weak (by simp)).then hmL (fun g hg => .inl (by simp at hg; simp [hg]))).then hMt (fun g hg => .inl (by simp at hg; simp [hg]))
      have hK2 : KpL (0 :: EchL bs bb be vb) W0.heap.size X x6 := KpL.of_mod hMX (fun k hk => by
        have e : k = l ∨ k = ic2 := by simpa using hk
        rcases e with e | e
        · rw [e]
          exact ⟨fun hh => by have := hLlt2 l hh; omega, .inl hlW⟩
        · rw [e]
          exact ⟨fun hh => hLic2 ic2 hh rfl, .inl hic.lt⟩)
      have ct6 := hSc6.ct
      have j2 := hic6.cell' (i := 0) rfl
      have j3 := ct6.cell' (i := 0) rfl
      clear j0 j1
      repeat (first
                    | go_values
                    | gi_guarded
                    | gi_step
                    | gi_upon
                    | gi_back
                    | (simp only [Int.not_lt, Int.not_le] at *; go_simp))
      have hD6 : x6.heap[D1]? = some (.deferred (some [])) := (hMt.block D1 (Nat.lt_of_lt_of_le hD1lt (Nat.le_trans (Nat.le_trans hl0 (Nat.le_of_lt hlW)) h03.size)) (by simp; omega)).trans ((h03.block D1 (Nat.lt_of_lt_of_le hD1lt (Nat.le_trans hl0 (Nat.le_of_lt hlW))) (by simp; omega)).trans hp3)
      exact ⟨hK1, hK2, hSc6, by rw [show (((pre ++ [(⟨p, .slice aox f.l.length capx, f⟩ : Fi)]).length : Nat) : Int) = (pi : Int) + 1 from by rw [HPI.out]; simp]; exact hic6, hD6⟩
    case done3 =>
      rintro D2 xs2 X2 hD2 hS2 ⟨hSc2, hic2, hE2⟩ hK2
      have hx2 : (xs2.length : Nat) = n := by
        have := congrArg List.length hS2
        rw [List.length_map] at this
        rw [this, HR.out.2, HR.out.1]
      rw [hx2] at hic2
      have t0 := hSc2.ct.cell' (i := 0) rfl
      have t1 := hic2.cell' (i := 0) rfl
      have t2 := hSc2.cw.cell' (i := 0) rfl
      repeat (first
                    | (with_reducible refine si_alloc ?_)
                    | go_values
                    | gi_guarded
                    | gi_step
                    | gi_upon
                    | gi_back
                    | (simp only [Int.not_lt, Int.not_le] at *; go_simp))
      refine StopIn.go wd_wide rfl (fun _ => by intro h; cases h) fun K hK => ?_
      refine wp_alloc zero_int ?_
      intro tr3 z1 ht31 ht32 hmz1 hBz1
      simp only [put_some, List.set_cons_succ, List.set_cons_zero]
      refine hK _ _ ?_
      clear hK K
      have hNz1 : Blk z1 tr3 3 [.int .i64 0] := hBz1
      repeat (first
                    | (with_reducible refine si_store ?_)
                    | go_values
                    | gi_guarded
                    | gi_step
                    | gi_upon
                    | gi_back
                    | (simp only [Int.not_lt, Int.not_le] at *; go_simp))
      refine StopIn.go wd_wide rfl (fun _ => by intro h; cases h) fun K hK => ?_
      refine wp_store1 (by kernel_rfl) (by rfl) (u := .int .i64 1) (by rfl) ⟨rfl, rfl⟩ hNz1 (by simp) ?_
      intro z2 hmz2 hBz2
      refine hK _ _ ?_
      clear hK K
      have hNz2 : Blk z2 tr3 3 [.int .i64 1] := hBz2
      have t3 := hNz2.cell' (i := 0) rfl
      repeat (first
                    | (with_reducible refine si_store ?_)
                    | go_values
                    | gi_guarded
                    | gi_step
                    | gi_upon
                    | gi_back
                    | (simp only [Int.not_lt, Int.not_le] at *; go_simp))
      refine StopIn.go wd_wide rfl (fun _ => by intro h; cases h) fun K hK => ?_
      refine wp_store1 (by kernel_rfl) (by rfl) (u := .int .i64 2) (by rfl) ⟨rfl, rfl⟩ hNz2 (by simp) ?_
      intro z3 hmz3 hBz3
      refine hK _ _ ?_
      clear hK K
      have hNz3 : Blk z3 tr3 3 [.int .i64 2] := hBz3
      have t4 := hNz3.cell' (i := 0) rfl
      clear t0 t1 t2 t3
      gi_wp2
      rw [roundsIn_succ]
      have hmz : Gw.Mod [] X2 z3 := (hmz1.fresh hmz2 (by simpa using ht31)).fresh hmz3 (by simpa using ht31)
      have hcr := hSc2.cr.ext hmz
      have hmd := hSc2.md.ext hmz
      repeat (first
                    | (with_reducible refine si_store ?_)
                    | go_values
                    | gi_guarded
                    | gi_step
                    | gi_upon
                    | gi_back
                    | (simp only [Int.not_lt, Int.not_le] at *; go_simp))
      refine StopIn.go wd_wide rfl (fun _ => by intro h; cases h) fun K hK => ?_
      refine wp_store1 (by kernel_rfl) (by rfl) (u := .bool true) (by rfl) ⟨rfl, rfl⟩ hcr (by simp) ?_
      intro z4 hmz4 hBz4
      refine hK _ _ ?_
      clear hK K
      have hRz4 : Blk z4 r6 4 [.bool true] := hBz4
      have hr6W : W.heap.size ≤ r6 := hr1
      have hmd4 : Gw.Mod [] W z4 := hmd.fresh hmz4 (by simpa using hr6W)
      have hcc := hcr.isCells
      have hne : ∀ {Y : World} {d : Nat}, Y.heap[d]? = some (.deferred (some [])) → (∃ o : Obj, Y.heap[r6]? = some o ∧ o.isCells = true) → d ∉ [r6] := fun h1 ⟨o, h2, h3⟩ hh => by
        rw [List.mem_singleton.1 hh, h2] at h1
        cases h1
        cases h3
      have hkeep : ∀ {A B : World} {d : Nat}, A.heap[d]? = some (.deferred (some [])) → Gw.Mod [] A B → B.heap[d]? = some (.deferred (some [])) := fun h hm => (hm.block _ (Array.getElem?_eq_some_iff.1 h).1 (by simp)).trans h
      have hK23 := hkeep hK2 hmz
      have hE23 := hkeep hE2 hmz
      have hK24 : z4.heap[D2]? = some (.deferred (some [])) := (hmz4.block D2 (Array.getElem?_eq_some_iff.1 hK23).1 (hne hK23 hcc)).trans hK23
      have hE24 : z4.heap[D1]? = some (.deferred (some [])) := (hmz4.block D1 (Array.getElem?_eq_some_iff.1 hE23).1 (hne hE23 hcc)).trans hE23
      have hD12 : D1 ≠ D2 := by omega
      clear t4 hSc2 hic2 hE2 hK2 hBz1 hBz2 hBz3 hBz4 hNz1 hNz2 hNz3 hcr hcc hK23 hE23
      repeat (first
                    | go_values
                    | gi_guarded
                    | gi_step
                    | gi_upon
                    | gi_back
                    | (simp only [Int.not_lt, Int.not_le] at *; go_simp))
      have n2 : r6 ∉ [D2] := fun hh => hne hK24 hRz4.isCells (by simpa using (List.mem_singleton.1 hh).symm)
      have n1 : r6 ∉ [D1] := fun hh => hne hE24 hRz4.isCells (by simpa using (List.mem_singleton.1 hh).symm)
      refine ⟨by simp, .inl ⟨_, _, rfl, run_takeDeferred hK24, ?_⟩⟩
      have hmD2 := Gw.Mod.putObj z4 D2 (.deferred none)
      have hE25 : (z4.putObj D2 (.deferred none)).heap[D1]? = some (.deferred (some [])) := (World.putObj_heap_other (by omega)).trans hE24
      refine ⟨by simp, .inl ⟨_, _, rfl, run_takeDeferred hE25, ?_⟩⟩
      have hmD1 := Gw.Mod.putObj (z4.putObj D2 (.deferred none)) D1 (.deferred none)
      have hRz6 := (hRz4.mod hmD2 n2).mod hmD1 n1
      have rr := hRz6.cell' (i := 0) rfl
      exact ⟨.bool true, by simp [results, Tryd.results5, go_sem, rr], rfl, (hmd4.fresh hmD2 (by simp; omega)).fresh hmD1 (by simp; omega)⟩
    case stop3 =>
      intro D c pre X _ _ h _
      exact h.elim
end Go.Proofs.YtboigcnpamldlaaDoor
