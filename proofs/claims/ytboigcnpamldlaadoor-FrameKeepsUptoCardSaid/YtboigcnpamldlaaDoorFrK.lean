import Derived.Test.YtboigcnpamldlaaDoorFrJ
/-! Lists of frames and of numbers held side by side; the reference's Row. -/
set_option linter.unusedVariables false
set_option linter.unusedSimpArgs false
set_option maxRecDepth 100000
namespace Go.Proofs.YtboigcnpamldlaaDoor
open Go.RowKit Gw

/-- frames, readable -/
def FrsR (w : World) (v : Value) (L : List Fi) : Prop := Sl w 3 v L.length (L.flatMap Fi.cells) ∧ ∀ x ∈ L, Bs w x.v x.f.l
theorem FrsR.ext {w w' : World} {v : Value} {L : List Fi} (h : FrsR w v L) (hm : Mod [] w w') : FrsR w' v L := ⟨Sl.ext h.1 hm, fun p hp => (h.2 p hp).ext hm⟩
theorem Frs.r {w : World} {base : Nat} {v : Value} {L : List Fi} (h : Frs w base v L) : FrsR w v L := ⟨h.ow.sl, fun _ hx => (h.ob hx).1.bs⟩
theorem FrsR.at3 {w : World} {n cap : Nat} {ao : Option Addr} {L : List Fi} (h : FrsR w (.slice ao n cap) L) {i : Nat} (hi : i < L.length) :
    ∃ g o, ao = some ⟨g, o, none⟩ ∧ w.cell? ⟨g, o + i * 3, none⟩ = some (.int .u64 (L[i].f.e : Nat)) ∧ w.cell? ⟨g, o + i * 3 + 1, none⟩ = some (.int .u64 (L[i].f.s : Nat)) ∧ w.cell? ⟨g, o + i * 3 + 2, none⟩ = some L[i].v ∧ Bs w L[i].v L[i].f.l := by
  have hne : L.flatMap Fi.cells ≠ [] := fun h0 => by
    have := flen3 L
    rw [h0] at this
    simp at this
    omega
  obtain ⟨b, o, c, hv, _, _, hc⟩ := h.1.at hne
  injection hv with e1 e2 e3
  obtain ⟨c0, c1, c2⟩ := frs_cells [] L i hi
  rw [List.append_nil] at c0 c1 c2
  exact ⟨b, o, e1, hc _ _ c0, hc _ _ c1, hc _ _ c2, h.2 _ (List.getElem_mem hi)⟩
set_option maxHeartbeats 2000000 in
theorem sameFrs_yes (A B : List Fi) (va vb : Value) (w : World) (ha : FrsR w va A) (hb : FrsR w vb B) (h : A.map Fi.f = B.map Fi.f) :
    Calls Tryd.prog 28 #[va, vb] w fun e w' => e = .returned (.bool true) ∧ Mod [] w w' := by
  obtain ⟨aoa, capa, rfl, _, _⟩ := ha.1.form
  obtain ⟨aob, capb, rfl, _, _⟩ := hb.1.form
  have hl : A.length = B.length := by simpa using congrArg List.length h
  have hA1 := ha.1.small
  obtain ⟨n, hn⟩ : ∃ n, n = B.length := ⟨_, rfl⟩
  have hnA : A.length = n := by omega
  rw [hnA] at ha ⊢
  rw [show B.length = n from hn.symm] at hb ⊢
  have HA := Lib.hid hnA
  have HB := Lib.hid hn
  have H := Lib.hid h
  clear hl hn hnA h hA1
  go_enter Tryd.func28, Tryd.ntmps28
  go_wp2_with fail
  go_loopw [5] (fun i wr => ∃ j : Nat, j ≤ n ∧ i = .int .i64 j ∧ Mod [] w wr) (fun i _ => n - (intOf i).toNat)
  case atStart => exact ⟨0, Nat.zero_le _, rfl, Mod.refl _ _⟩
  case round =>
    obtain ⟨j, hj, rfl, hmr⟩ := hrel
    by_cases hlt : j < n
    · have jA : j < A.length := by have := HA.out; omega
      have jB : j < B.length := by have := HB.out; omega
      have hmr' := hmr.ext (Mod.drew [] wr)
      obtain ⟨b1, o1, rfl, c0, c1, c2, e1⟩ := (ha.ext hmr').at3 jA
      obtain ⟨b2, o2, rfl, d0, d1, d2, e2⟩ := (hb.ext hmr').at3 jB
      have hjj : A[j].f = B[j].f := by
        have h1 : (A.map Fi.f)[j]? = (B.map Fi.f)[j]? := by rw [H.out]
        rw [List.getElem?_map, List.getElem?_map, List.getElem?_eq_getElem jA, List.getElem?_eq_getElem jB] at h1
        exact Option.some.inj h1
      rw [← hjj] at e2 d0 d1
      obtain ⟨f, hf⟩ : ∃ l, l = A[j].f := ⟨_, rfl⟩
      rw [← hf] at e1 e2 c0 c1 d0 d1
      obtain ⟨u1, hu1⟩ : ∃ u, u = A[j].v := ⟨_, rfl⟩
      obtain ⟨u2, hu2⟩ : ∃ u, u = B[j].v := ⟨_, rfl⟩
      rw [← hu1] at e1 c2
      rw [← hu2] at e2 d2
      have SF := fun w h1 h2 => sameF_yes f u1 u2 w h1 h2
      unfold Fv.v at SF
      obtain ⟨fe, fs, fl⟩ := f
      dsimp only at SF c0 c1 d0 d1 e1 e2
      have y0 : (j : Int) < n := by omega
      clear hf hu1 hu2 hjj
      go_wp2_with fail
      refine wp_region_T [⟨0, true, []⟩, ⟨1, true, []⟩, ⟨2, true, []⟩, ⟨3, true, []⟩, ⟨4, true, []⟩, ⟨5, true, []⟩, ⟨6, true, []⟩, ⟨7, true, []⟩, ⟨8, false, []⟩, ⟨9, true, []⟩] (by kernel_rfl) (by kernel_rfl) ?_
      obtain ⟨x, hx⟩ : ∃ x, x = wr.drew := ⟨_, rfl⟩
      rw [← hx] at hmr' c0 c1 c2 d0 d1 d2 e1 e2 ⊢
      clear hx
      iterate 8 (refine wpT_n rfl rfl (fun K hK => ?_); go_wp2_with fail)
      refine wpT_call rfl rfl (fun K hK => ?_)
      go_wp2_with (go_at_call 24; refine (SF _ e1 e2).mono ?_; rintro e w3 ⟨rfl, hm3⟩)
      refine wpT_n rfl rfl (fun K hK => ?_)
      go_wp2_with fail
      refine wpT_nil ?_
      go_wp2_with fail
      go_roundw
      case rel => exact ⟨j + 1, by omega, by go_num, hmr'.ext hm3⟩
      case measure => simp [intOf]; omega
    · obtain rfl : j = n := by omega
      go_wp2_with fail
      go_ret
      exact ⟨rfl, hmr⟩
theorem stInt : ST Tryd.prog 47 3 (.int .i64 0) 1 8 := ⟨Tryd.underlying47, by kernel_rfl, rfl, by decide⟩
def iN (L : List Nat) : List Value := L.map fun n => .int .i64 (n : Nat)
theorem iN_len (L : List Nat) : (iN L).length = L.length := by simp [iN]
theorem iN_snoc (L : List Nat) (n : Nat) : iN L ++ [.int .i64 (n : Nat)] = iN (L ++ [n]) := by simp [iN]
set_option maxHeartbeats 2000000 in
theorem sameInts_yes (L : List Nat) (va vb : Value) (w : World) (ha : Sl w 1 va L.length (iN L)) (hb : Sl w 1 vb L.length (iN L)) :
    Calls Tryd.prog 31 #[va, vb] w fun e w' => e = .returned (.bool true) ∧ Mod [] w w' := by
  obtain ⟨aoa, capa, rfl, _, _⟩ := ha.form
  obtain ⟨aob, capb, rfl, _, _⟩ := hb.form
  have hA1 := ha.small
  go_enter Tryd.func31, Tryd.ntmps31
  go_wp2_with fail
  go_loopw [5] (fun i wr => ∃ j : Nat, j ≤ L.length ∧ i = .int .i64 j ∧ Mod [] w wr) (fun i _ => L.length - (intOf i).toNat)
  case atStart => exact ⟨0, Nat.zero_le _, rfl, Mod.refl _ _⟩
  case round =>
    obtain ⟨j, hj, rfl, hmr⟩ := hrel
    by_cases hlt : j < L.length
    · have hmr' := hmr.ext (Mod.drew [] wr)
      have hne : iN L ≠ [] := fun h0 => by have := iN_len L; rw [h0] at this; simp at this; omega
      obtain ⟨b1, o1, k1, hv1, _, _, h1⟩ := (ha.ext hmr').at hne
      obtain ⟨b2, o2, k2, hv2, _, _, h2⟩ := (hb.ext hmr').at hne
      injection hv1 with q1 _ q3
      injection hv2 with q2 _ q4
      subst q1 q2 q3 q4
      have hj1 : (iN L)[j]? = some (.int .i64 (L[j] : Nat)) := by simp [iN, hlt]
      have c1 := h1 _ _ hj1
      have c2 := h2 _ _ hj1
      have y0 : (j : Int) < L.length := by omega
      obtain ⟨u, hu⟩ : ∃ u, u = L[j] := ⟨_, rfl⟩
      rw [← hu] at c1 c2
      clear h1 h2 hne hj1 hu
      go_wp2_with fail
      refine wp_region_T [⟨0, true, []⟩, ⟨1, true, []⟩, ⟨2, true, []⟩, ⟨3, true, []⟩, ⟨4, true, []⟩, ⟨5, true, []⟩, ⟨6, true, []⟩, ⟨7, true, []⟩, ⟨8, true, []⟩] (by kernel_rfl) (by kernel_rfl) ?_
      obtain ⟨x, hx⟩ : ∃ x, x = wr.drew := ⟨_, rfl⟩
      rw [← hx] at hmr' c1 c2 ⊢
      clear hx
      iterate 9 (refine wpT_n rfl rfl (fun K hK => ?_); go_wp2_with fail)
      refine wpT_nil ?_
      go_wp2_with fail
      go_roundw
      case rel => exact ⟨j + 1, by omega, by go_num, hmr'⟩
      case measure => simp [intOf]; omega
    · obtain rfl : j = L.length := by omega
      go_wp2_with fail
      go_ret
      exact ⟨rfl, hmr⟩
/-! ### the reference's Row -/
def RowP (b : List UInt8) (e s : Nat) (w : World) (en : Ending) (w' : World) : Prop :=
  ∃ v pv L, en = .returned (.tuple #[v, pv, .int .i64 (endF (rowS b e s 0) 0 : Nat)]) ∧ L.map Fi.d = rowS b e s 0 ∧ Frs w' w.heap.size v L ∧ Ow w' 3 1 pv L.length (iN (L.map Fi.p)) ∧ (∀ k ∈ blks pv, w.heap.size ≤ k) ∧ Mod [] w w'
theorem dF (D : List Fi) (x : Fi) : endF ((D ++ [x]).map Fi.d) 0 = endF (D.map Fi.d) 0 + (22 + x.f.l.length) := by rw [List.map_append, List.map_singleton, endF_snoc]; rfl
set_option maxRecDepth 1000000 in
set_option maxHeartbeats 8000000 in
theorem row_any (b : List UInt8) (e s : Nat) (v : Value) (w : World) (hb : Bs w v b) (hl : b.length ≤ 1099511627776) (hs : s < 18446744073709551616) (he : e < 18446744073709551616) :
    Calls Tryd.prog 27 #[v, .int .u64 (e : Nat), .int .u64 (s : Nat)] w (RowP b e s w) := by
  obtain ⟨ao, cap, rfl, hc1, hc2⟩ := hb.form
  go_enter Tryd.func27, Tryd.ntmps27
  go_wp2_with fail
  go_loopw [2, 9, 10, 11] (fun sv ov pv iv wr => ∃ (D : List Fi) (p s' : Nat), sv = .int .u64 (s' : Nat) ∧ iv = .int .i64 (p : Nat) ∧ p = endF (D.map Fi.d) 0 ∧ p ≤ b.length ∧ s' < 18446744073709551616 ∧ rowS b e s 0 = D.map Fi.d ++ rowS b e s' p ∧ Frs wr w.heap.size ov D ∧ Ow wr 3 1 pv D.length (iN (D.map Fi.p)) ∧ (∀ k ∈ blks pv, w.heap.size ≤ k) ∧ Mod [] w wr ∧ 22 * D.length ≤ p) (fun _ _ _ iv _ => b.length - (intOf iv).toNat)
  case atStart => exact ⟨[], 0, s, rfl, rfl, rfl, Nat.zero_le _, hs, rfl, Frs.nil _ _, Ow.nil _ _ _, by simp [blks], Mod.refl _ _, by simp⟩
  case round =>
    obtain ⟨D, p, s', rfl, rfl, hp, hpb, hs', hR, hF, hO, hN, hm, hD⟩ := hrel
    have hbr := hb.ext hm
    have hsf := hbr.suf (p := p) rfl hpb hc1
    have GE := fun w h => rfget_any (b.drop p) (.slice (if cap = p then ao else Option.map (fun x => x.add p) ao) (b.length - p) (cap - p)) w h (by rw [List.length_drop]; omega)
    unfold GetF at GE
    have z1 : (p : Int) ≤ b.length := by omega
    have z2 : (b.length : Int) ≤ cap := by omega
    have hD2 : D.length ≤ 1099511627776 := by omega
    obtain ⟨aoo, capo, rfl, _, _⟩ := hF.ow.sl.form
    obtain ⟨aop, capp, rfl, _, _⟩ := hO.sl.form
    cases hst : stepF b e s' p with
    | false =>
      rw [rowS_no hst, List.append_nil] at hR
      have hend : endF (rowS b e s 0) 0 = p := by rw [hR, ← hp]
      have HEND := Lib.hid hend
      have HR := Lib.hid hR
      clear hR hend hp
      by_cases h0 : errF (b.drop p) = 0
      · have hg : getF (b.drop p) = parF (b.drop p) := if_pos h0
        rw [hg, h0] at GE
        unfold stepF at hst
        rw [h0] at hst
        obtain ⟨f, hf⟩ : ∃ f, f = parF (b.drop p) := ⟨_, rfl⟩
        obtain ⟨m, hm'⟩ : ∃ m, m = numF (b.drop p) := ⟨_, rfl⟩
        rw [← hf] at GE hst
        rw [← hm'] at GE
        have hok : f.ok := by rw [hf]; exact (parF_ok h0).1
        obtain ⟨fe, fs, fl⟩ := f
        obtain ⟨k1, k2, k3⟩ := hok
        dsimp only at GE hst k1 k2 k3
        clear hf hm' h0 hg
        by_cases h1 : fe = e
        · subst h1
          by_cases h2 : s' + 1 < 18446744073709551616
          · have h3 : fs ≠ s' + 1 := fun h3 => by simp [h2, h3] at hst
            have h4 : (fs : Int) ≠ s' + 1 := by omega
            have h5 : (s' : Int) ≤ 18446744073709551614 := by omega
            clear hst h3 h2
            go_wp2_with (first
                          | (with_reducible refine st_alloc ?_)
                          | (go_at_call 21; (with_reducible refine (GE _ hsf).mono ?_); rintro e w1 ⟨v1, rfl, ho1, hn1, hm1⟩; obtain ⟨ao1, cap1, rfl, _, _⟩ := ho1.sl.form; generalize (if cap = p then ao else Option.map (fun x => x.add p) ao) = so))
            refine StopOp.go rfl fun K hK => ?_
            refine wp_alloc zero_frame ?_
            intro g w2 hg1 hg2 hm2 hB2
            simp only [put_some, List.set_cons_succ, List.set_cons_zero]
            refine hK _ _ ?_
            clear hK K
            go_wp2_with (with_reducible refine st_store ?_)
            refine StopOp.go rfl fun K hK => ?_
            refine wp_store (u := .agg #[.int .u64 fe, .int .u64 fs, .slice ao1 fl.length cap1]) (by rfl) (by rfl) (by kernel_rfl) hB2 (by simp [Value.cells]) (by simp [Value.cells, Value.oneCell']) ?_
            intro w3 hm3 hB3
            refine hK _ _ ?_
            clear hK K
            have hG3 : Blk w3 g 25 [.int .u64 fe, .int .u64 fs, .slice ao1 fl.length cap1] := hB3
            have hmr3 : Mod [] wr w3 := hm1.ext (hm2.fresh hm3 (by simpa using hg1))
            have x0 := hG3.cell' (i := 0) rfl
            have x1 := hG3.cell' (i := 1) rfl
            have x2 := hG3.cell' (i := 2) rfl
            go_wp2_with fail
            exact bodyPost_ret (v := .tuple #[.slice aoo D.length capo, .slice aop D.length capp, .int .i64 p]) (by simp [results, Tryd.results27, go_sem]) rfl ⟨_, _, D, by rw [HEND.out], HR.out.symm, hF.ext hmr3, hO.ext hmr3, hN, hm.ext hmr3⟩
          · obtain rfl : s' = 18446744073709551615 := by omega
            clear hst h2
            by_cases h3 : fs = 0
            · subst h3
              go_wp2_with (first
                            | (with_reducible refine st_alloc ?_)
                            | (go_at_call 21; (with_reducible refine (GE _ hsf).mono ?_); rintro e w1 ⟨v1, rfl, ho1, hn1, hm1⟩; obtain ⟨ao1, cap1, rfl, _, _⟩ := ho1.sl.form; generalize (if cap = p then ao else Option.map (fun x => x.add p) ao) = so))
              refine StopOp.go rfl fun K hK => ?_
              refine wp_alloc zero_frame ?_
              intro g w2 hg1 hg2 hm2 hB2
              simp only [put_some, List.set_cons_succ, List.set_cons_zero]
              refine hK _ _ ?_
              clear hK K
              go_wp2_with (with_reducible refine st_store ?_)
              refine StopOp.go rfl fun K hK => ?_
              refine wp_store (u := .agg #[.int .u64 fe, .int .u64 0, .slice ao1 fl.length cap1]) (by rfl) (by rfl) (by kernel_rfl) hB2 (by simp [Value.cells]) (by simp [Value.cells, Value.oneCell']) ?_
              intro w3 hm3 hB3
              refine hK _ _ ?_
              clear hK K
              have hG3 : Blk w3 g 25 [.int .u64 fe, .int .u64 0, .slice ao1 fl.length cap1] := hB3
              have hmr3 : Mod [] wr w3 := hm1.ext (hm2.fresh hm3 (by simpa using hg1))
              have x0 := hG3.cell' (i := 0) rfl
              have x1 := hG3.cell' (i := 1) rfl
              have x2 := hG3.cell' (i := 2) rfl
              go_wp2_with fail
              exact bodyPost_ret (v := .tuple #[.slice aoo D.length capo, .slice aop D.length capp, .int .i64 p]) (by simp [results, Tryd.results27, go_sem]) rfl ⟨_, _, D, by rw [HEND.out], HR.out.symm, hF.ext hmr3, hO.ext hmr3, hN, hm.ext hmr3⟩
            · have h4 : (fs : Int) ≠ 0 := by omega
              go_wp2_with (first
                            | (with_reducible refine st_alloc ?_)
                            | (go_at_call 21; (with_reducible refine (GE _ hsf).mono ?_); rintro e w1 ⟨v1, rfl, ho1, hn1, hm1⟩; obtain ⟨ao1, cap1, rfl, _, _⟩ := ho1.sl.form; generalize (if cap = p then ao else Option.map (fun x => x.add p) ao) = so))
              refine StopOp.go rfl fun K hK => ?_
              refine wp_alloc zero_frame ?_
              intro g w2 hg1 hg2 hm2 hB2
              simp only [put_some, List.set_cons_succ, List.set_cons_zero]
              refine hK _ _ ?_
              clear hK K
              go_wp2_with (with_reducible refine st_store ?_)
              refine StopOp.go rfl fun K hK => ?_
              refine wp_store (u := .agg #[.int .u64 fe, .int .u64 fs, .slice ao1 fl.length cap1]) (by rfl) (by rfl) (by kernel_rfl) hB2 (by simp [Value.cells]) (by simp [Value.cells, Value.oneCell']) ?_
              intro w3 hm3 hB3
              refine hK _ _ ?_
              clear hK K
              have hG3 : Blk w3 g 25 [.int .u64 fe, .int .u64 fs, .slice ao1 fl.length cap1] := hB3
              have hmr3 : Mod [] wr w3 := hm1.ext (hm2.fresh hm3 (by simpa using hg1))
              have x0 := hG3.cell' (i := 0) rfl
              have x1 := hG3.cell' (i := 1) rfl
              have x2 := hG3.cell' (i := 2) rfl
              go_wp2_with fail
              exact bodyPost_ret (v := .tuple #[.slice aoo D.length capo, .slice aop D.length capp, .int .i64 p]) (by simp [results, Tryd.results27, go_sem]) rfl ⟨_, _, D, by rw [HEND.out], HR.out.symm, hF.ext hmr3, hO.ext hmr3, hN, hm.ext hmr3⟩
        · have h4 : (fe : Int) ≠ e := by omega
          clear hst h1
          go_wp2_with (first
                        | (with_reducible refine st_alloc ?_)
                        | (go_at_call 21; (with_reducible refine (GE _ hsf).mono ?_); rintro e w1 ⟨v1, rfl, ho1, hn1, hm1⟩; obtain ⟨ao1, cap1, rfl, _, _⟩ := ho1.sl.form; generalize (if cap = p then ao else Option.map (fun x => x.add p) ao) = so))
          refine StopOp.go rfl fun K hK => ?_
          refine wp_alloc zero_frame ?_
          intro g w2 hg1 hg2 hm2 hB2
          simp only [put_some, List.set_cons_succ, List.set_cons_zero]
          refine hK _ _ ?_
          clear hK K
          go_wp2_with (with_reducible refine st_store ?_)
          refine StopOp.go rfl fun K hK => ?_
          refine wp_store (u := .agg #[.int .u64 fe, .int .u64 fs, .slice ao1 fl.length cap1]) (by rfl) (by rfl) (by kernel_rfl) hB2 (by simp [Value.cells]) (by simp [Value.cells, Value.oneCell']) ?_
          intro w3 hm3 hB3
          refine hK _ _ ?_
          clear hK K
          have hG3 : Blk w3 g 25 [.int .u64 fe, .int .u64 fs, .slice ao1 fl.length cap1] := hB3
          have hmr3 : Mod [] wr w3 := hm1.ext (hm2.fresh hm3 (by simpa using hg1))
          have x0 := hG3.cell' (i := 0) rfl
          have x1 := hG3.cell' (i := 1) rfl
          have x2 := hG3.cell' (i := 2) rfl
          go_wp2_with fail
          exact bodyPost_ret (v := .tuple #[.slice aoo D.length capo, .slice aop D.length capp, .int .i64 p]) (by simp [results, Tryd.results27, go_sem]) rfl ⟨_, _, D, by rw [HEND.out], HR.out.symm, hF.ext hmr3, hO.ext hmr3, hN, hm.ext hmr3⟩
      · have hg : getF (b.drop p) = fz := if_neg h0
        rw [hg] at GE
        unfold fz at GE
        dsimp only at GE
        obtain ⟨E, hE⟩ : ∃ E, E = errF (b.drop p) := ⟨_, rfl⟩
        obtain ⟨m, hm'⟩ : ∃ m, m = numF (b.drop p) := ⟨_, rfl⟩
        rw [← hE] at GE h0
        rw [← hm'] at GE
        clear hE hm' hg hst
        go_wp2_with (first
                      | (with_reducible refine st_alloc ?_)
                      | (go_at_call 21; (with_reducible refine (GE _ hsf).mono ?_); rintro e w1 ⟨v1, rfl, ho1, hn1, hm1⟩; obtain ⟨ao1, cap1, rfl, _, _⟩ := Ob.nx ho1 (n := 0) rfl; generalize (if cap = p then ao else Option.map (fun x => x.add p) ao) = so))
        refine StopOp.go rfl fun K hK => ?_
        refine wp_alloc zero_frame ?_
        intro g w2 hg1 hg2 hm2 hB2
        simp only [put_some, List.set_cons_succ, List.set_cons_zero]
        refine hK _ _ ?_
        clear hK K
        go_wp2_with (with_reducible refine st_store ?_)
        refine StopOp.go rfl fun K hK => ?_
        refine wp_store (u := .agg #[.int .u64 0, .int .u64 0, .slice ao1 0 cap1]) (by rfl) (by rfl) (by kernel_rfl) hB2 (by simp [Value.cells]) (by simp [Value.cells, Value.oneCell']) ?_
        intro w3 hm3 hB3
        refine hK _ _ ?_
        clear hK K
        have hG3 : Blk w3 g 25 [.int .u64 0, .int .u64 0, .slice ao1 0 cap1] := hB3
        have hmr3 : Mod [] wr w3 := hm1.ext (hm2.fresh hm3 (by simpa using hg1))
        have x0 := hG3.cell' (i := 0) rfl
        have x1 := hG3.cell' (i := 1) rfl
        have x2 := hG3.cell' (i := 2) rfl
        go_wp2_with fail
        exact bodyPost_ret (v := .tuple #[.slice aoo D.length capo, .slice aop D.length capp, .int .i64 p]) (by simp [results, Tryd.results27, go_sem]) rfl ⟨_, _, D, by rw [HEND.out], HR.out.symm, hF.ext hmr3, hO.ext hmr3, hN, hm.ext hmr3⟩
    | true =>
      obtain ⟨h1, h2, h3, h4⟩ := stepF_parts hst
      have hnum := step_num hst
      have hg : getF (b.drop p) = parF (b.drop p) := if_pos h2
      rw [hg, h2] at GE
      rw [rowS_yes hst] at hR
      have hok := (parF_ok h2).1.l
      obtain ⟨f, hf⟩ : ∃ f, f = parF (b.drop p) := ⟨_, rfl⟩
      obtain ⟨m, hm'⟩ : ∃ m, m = numF (b.drop p) := ⟨_, rfl⟩
      rw [← hf] at GE hnum h3 h4 hok
      rw [← hm'] at GE hnum
      rw [← hf, ← hm'] at hR
      obtain ⟨fe, fs, fl⟩ := f
      dsimp only at GE hnum h3 h4 hok
      subst h3 h4
      have HH := Lib.hid (And.intro hnum (And.intro hp (And.intro hR h1)))
      have h5 : (s' : Int) ≤ 18446744073709551614 := by omega
      have hsz : (((s' + 1 : Nat)) : Int) = (s' : Int) + 1 := by omega
      rw [hsz] at GE
      have z3 : (p : Int) + m ≤ 1099511627776 := by omega
      clear hf hm' h2 hg hst hnum hp hR h1
      go_wp2_with (first
                    | (with_reducible refine st_alloc ?_)
                    | (go_at_call 21; (with_reducible refine (GE _ hsf).mono ?_); rintro e w1 ⟨v1, rfl, ho1, hn1, hm1⟩; obtain ⟨ao1, cap1, rfl, _, _⟩ := ho1.sl.form; generalize (if cap = p then ao else Option.map (fun x => x.add p) ao) = so))
      refine StopOp.go rfl fun K hK => ?_
      refine wp_alloc zero_frame ?_
      intro g w2 hg1 hg2 hm2 hB2
      simp only [put_some, List.set_cons_succ, List.set_cons_zero]
      refine hK _ _ ?_
      clear hK K
      go_wp2_with (with_reducible refine st_store ?_)
      refine StopOp.go rfl fun K hK => ?_
      refine wp_store (u := .agg #[.int .u64 fe, .int .u64 ((s' : Nat) + 1), .slice ao1 fl.length cap1]) (by rfl) (by rfl) (by kernel_rfl) hB2 (by simp [Value.cells]) (by simp [Value.cells, Value.oneCell']) ?_
      intro w3 hm3 hB3
      refine hK _ _ ?_
      clear hK K
      have hG3 : Blk w3 g 25 [.int .u64 fe, .int .u64 ((s' : Nat) + 1), .slice ao1 fl.length cap1] := hB3
      have hmr3 : Mod [] wr w3 := hm1.ext (hm2.fresh hm3 (by simpa using hg1))
      have ho3 := ho1.ext (hm2.fresh hm3 (by simpa using hg1))
      have x0 := hG3.cell' (i := 0) rfl
      have x1 := hG3.cell' (i := 1) rfl
      have x2 := hG3.cell' (i := 2) rfl
      go_wp2_with (with_reducible refine st_bslice ?_)
      refine StopOp.go rfl fun K hK => ?_
      refine wp_bslice stFr [.agg #[.int .u64 fe, .int .u64 ((s' : Nat) + 1), .slice ao1 fl.length cap1]] rfl (by decide) (by rfl) (by simp [Value.cells]) ?_
      intro q w4 hq1 hq2 hm4 hB4
      simp only [put_some, List.set_cons_succ, List.set_cons_zero]
      refine hK _ _ ?_
      clear hK K
      have hS4 : Sl w4 3 (.slice (some ⟨q, 0, none⟩) 1 1) 1 (Fi.cells ⟨p, .slice ao1 fl.length cap1, ⟨fe, s' + 1, fl⟩⟩) := by
        have h : Ow w4 25 3 (.slice (some ⟨q, 0, none⟩) 1 1) 1 [.int .u64 fe, .int .u64 ((s' : Nat) + 1), .slice ao1 fl.length cap1] := Ow.of_blk (rest := []) hB4 (Nat.le_refl _) (by omega) rfl rfl
        exact h.sl
      have hF4 := (hF.ext hmr3).ext hm4
      have hO4 := (hO.ext hmr3).ext hm4
      go_wp2_with (with_reducible refine st_append ?_)
      refine StopOp.go rfl fun K hK => ?_
      refine wp_append_ow stFr (by rfl) (by rfl) hF4.ow hS4 (by simp [Fi.cells, Value.oneCell']) (by omega) (by omega) ?_
      intro v5 w5 hv5 hm5 hb5
      simp only [put_some, List.set_cons_succ, List.set_cons_zero]
      refine hK _ _ ?_
      clear hK K
      obtain ⟨ao5, cap5, rfl, _, _⟩ := hv5.sl.form
      have ho4 := ho3.ext hm4
      have hF5 := hF4.snoc (B := wr.heap.size) ⟨p, .slice ao1 fl.length cap1, ⟨fe, s' + 1, fl⟩⟩ hm.size (by have := hmr3.size; have := hm4.size; omega) hF.lt ho4 hn1 hv5 hm5 hb5
      have hO5 := hO4.mod hm5 (ow_far hO4 hF4.ow (by decide))
      go_wp2_with (with_reducible refine st_bslice ?_)
      refine StopOp.go rfl fun K hK => ?_
      refine wp_bslice stInt [.int .i64 (p : Nat)] rfl (by decide) (by rfl) (by simp [Value.cells]) ?_
      intro q2 w6 hq3 hq4 hm6 hB6
      simp only [put_some, List.set_cons_succ, List.set_cons_zero]
      refine hK _ _ ?_
      clear hK K
      have hS6 : Sl w6 1 (.slice (some ⟨q2, 0, none⟩) 1 1) 1 [.int .i64 (p : Nat)] := (Ow.of_blk (rest := []) hB6 (Nat.le_refl _) (by omega) rfl rfl : Ow w6 3 1 (.slice (some ⟨q2, 0, none⟩) 1 1) 1 [.int .i64 (p : Nat)]).sl
      have hO6 := hO5.ext hm6
      have hF6 := hF5.ext hm6
      go_wp2_with (with_reducible refine st_append ?_)
      refine StopOp.go rfl fun K hK => ?_
      refine wp_append_ow stInt (by rfl) (by rfl) hO6 hS6 (by simp [Value.oneCell']) (by omega) (by omega) ?_
      intro v7 w7 hv7 hm7 hb7
      simp only [put_some, List.set_cons_succ, List.set_cons_zero]
      refine hK _ _ ?_
      clear hK K
      obtain ⟨ao7, cap7, rfl, _, _⟩ := hv7.sl.form
      have hF7 := hF6.mod hm7 (ow_far hF6.ow hO6 (by decide)) (fun x hx => ow_far (hF6.ob hx).1 hO6 (by decide))
      go_wp2_with fail
      go_roundw
      case rel =>
        obtain ⟨hnum, hp, hR, h1⟩ := HH.out
        have hs35 := (hmr3.ext hm4).size
        refine ⟨D ++ [⟨p, .slice ao1 fl.length cap1, ⟨fe, s' + 1, fl⟩⟩], p + m, s' + 1, by go_num, by go_num, ?_, hnum.2, h1, ?_, by simpa using hF7, ?_, ?_, ?_, ?_⟩
        · rw [dF, ← hp, hnum.1]
        · rw [hR, List.map_append, List.append_assoc]; rfl
        · rw [List.map_append, List.length_append]
          have := hv7
          rw [show iN (D.map Fi.p) ++ [.int .i64 (p : Nat)] = iN (D.map Fi.p ++ [p]) from iN_snoc _ _] at this
          exact this
        · intro k hk
          rcases hb7 k hk with hk | hk
          · exact hN k hk
          · have := hm.size; have := hm5.size; have := hm6.size; omega
        · refine ((((hm.ext hmr3).ext hm4).fresh hm5 (fun k hk => hF.nw k hk)).ext hm6).fresh hm7 (fun k hk => hN k hk)
        · rw [List.length_append]; simp; omega
      case measure =>
        obtain ⟨hnum, _, _⟩ := HH.out
        simp [intOf]
        omega
end Go.Proofs.YtboigcnpamldlaaDoor
