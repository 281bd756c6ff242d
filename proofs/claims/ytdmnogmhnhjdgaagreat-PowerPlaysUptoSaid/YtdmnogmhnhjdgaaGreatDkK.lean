import Derived.Test.YtdmnogmhnhjdgaaGreatDkY
import Derived.Test.YtdmnogmhnhjdgaaGreatLentC
/-! The kit's functions over rows and fates: SameRows, LentFates, KeptFates, CopyFates. -/
set_option linter.unusedVariables false
set_option linter.unusedSimpArgs false
set_option maxRecDepth 100000
namespace Go.Proofs.YtdmnogmhnhjdgaaGreat
open Go.RowKit Gw

/-- rows of bytes, readable -/
def RowsR (w : World) (v : Value) (L : List (Value × List UInt8)) : Prop := Sl w 1 v L.length (L.map (·.1)) ∧ ∀ p ∈ L, Bs w p.1 p.2
theorem RowsR.ext {w w' : World} {v : Value} {L : List (Value × List UInt8)} (h : RowsR w v L) (hm : Mod [] w w') : RowsR w' v L := ⟨Sl.ext h.1 hm, fun p hp => (h.2 p hp).ext hm⟩
theorem RowsR.nil (w : World) : RowsR w (.slice none 0 0) [] := ⟨Sl.nil w 1, fun _ h => nomatch h⟩
theorem sl_at' {w : World} {ao : Option Addr} {n cap : Nat} {xs : List Value} (h : Sl w 1 (.slice ao n cap) n xs) {i : Nat} (hi : i < xs.length) : ∃ b o, ao = some ⟨b, o, none⟩ ∧ w.cell? ⟨b, o + i, none⟩ = some xs[i] := by
  obtain ⟨b, o, c, hv, _, _, hcell⟩ := h.at (by intro h0; rw [h0] at hi; simp at hi)
  injection hv with e1 e2 e3
  exact ⟨b, o, e1, hcell i _ (List.getElem?_eq_getElem hi)⟩
set_option maxHeartbeats 2000000 in
theorem sameRows_yes (A B : List (Value × List UInt8)) (va vb : Value) (w : World) (ha : RowsR w va A) (hb : RowsR w vb B) (h : A.map (·.2) = B.map (·.2)) :
    Calls Tryz.prog 14 #[va, vb] w fun e w' => e = .returned (.bool true) ∧ Mod [] w w' := by
  obtain ⟨aoa, capa, rfl, _, _⟩ := ha.1.form
  obtain ⟨aob, capb, rfl, _, _⟩ := hb.1.form
  have hl : A.length = B.length := by simpa using congrArg List.length h
  have hA1 := ha.1.small
  obtain ⟨n, hn⟩ : ∃ n, n = B.length := ⟨_, rfl⟩
  have hnA : A.length = n := by omega
  rw [hnA]
  rw [show B.length = n from hn.symm]
  have HA := Lib.hid hnA
  have HB := Lib.hid hn
  have H := Lib.hid h
  clear hl hn hnA h hA1
  go_enter Tryz.func14, Tryz.ntmps14
  go_wp2_with fail
  go_loopw [5] (fun i wr => ∃ j : Nat, j ≤ n ∧ i = .int .i64 j ∧ Mod [] w wr) (fun i _ => n - (intOf i).toNat)
  case atStart => exact ⟨0, Nat.zero_le _, rfl, Mod.refl _ _⟩
  case round =>
    obtain ⟨j, hj, rfl, hmr⟩ := hrel
    by_cases hlt : j < n
    · have jA : j < A.length := by have := HA.out; omega
      have jB : j < B.length := by have := HB.out; omega
      have haA := ha.ext hmr
      have hbB := hb.ext hmr
      have hsa := haA.1
      have hsb := hbB.1
      rw [HA.out] at hsa
      rw [← HB.out] at hsb
      obtain ⟨b1, o1, rfl, c1⟩ := sl_at' hsa (i := j) (by simpa using jA)
      obtain ⟨b2, o2, rfl, c2⟩ := sl_at' hsb (i := j) (by simpa using jB)
      rw [List.getElem_map] at c1 c2
      have e1 := haA.2 A[j] (List.getElem_mem jA)
      have e2 := hbB.2 B[j] (List.getElem_mem jB)
      have hjj : A[j].2 = B[j].2 := by
        have h1 : (A.map (·.2))[j]? = (B.map (·.2))[j]? := by rw [H.out]
        rw [List.getElem?_map, List.getElem?_map, List.getElem?_eq_getElem jA, List.getElem?_eq_getElem jB] at h1
        exact Option.some.inj h1
      rw [← hjj] at e2
      obtain ⟨l, hl⟩ : ∃ l, l = A[j].2 := ⟨_, rfl⟩
      rw [← hl] at e1 e2
      obtain ⟨u1, hu1⟩ : ∃ u, u = A[j].1 := ⟨_, rfl⟩
      obtain ⟨u2, hu2⟩ : ∃ u, u = B[j].1 := ⟨_, rfl⟩
      rw [← hu1] at e1 c1
      rw [← hu2] at e2 c2
      obtain ⟨ao1, cap1, rfl, _, _⟩ := e1.form
      obtain ⟨ao2, cap2, rfl, _, _⟩ := e2.form
      have y0 : (j : Int) < n := by omega
      have hmr' := hmr.ext (Mod.drew [] _)
      have e1' := e1.ext (Mod.drew [] _)
      have e2' := e2.ext (Mod.drew [] _)
      clear hu1 hu2 hl hjj haA hbB hsa hsb e1 e2
      go_wp2_with fail
      refine wp_region_T [⟨0, true, []⟩, ⟨1, true, []⟩, ⟨2, true, []⟩, ⟨3, true, []⟩, ⟨4, true, []⟩, ⟨5, true, []⟩, ⟨6, true, []⟩, ⟨7, true, []⟩, ⟨8, false, []⟩, ⟨9, true, []⟩] (by kernel_rfl) (by kernel_rfl) ?_
      iterate 8 (refine wpT_n rfl rfl (fun K hK => ?_); go_wp2_with fail)
      refine wpT_call rfl rfl (fun K hK => ?_)
      go_wp2_with (go_at_call 25; refine (same_yes _ _ _ _ _ e1' e2' rfl).mono ?_; rintro e w3 ⟨rfl, hm3⟩)
      refine wpT_n rfl rfl (fun K hK => ?_)
      go_wp2_with fail
      refine wpT_nil ?_
      go_wp2_with fail
      go_roundw
      case rel => exact ⟨j + 1, by omega, by go_num, hmr'.ext hm3⟩
      case measure => simp [intOf]; omega
    · obtain rfl : j = n := by omega
      go_wp2_with fail
      go_ret
      exact ⟨rfl, hmr⟩

/-! ### Fates -/
def fmark (k : Int) (i : Nat) : Int × Int := (0, 1000003 * (k + 7) + i)
def fmarks (k : Int) (n : Nat) : List (Int × Int) := (List.range n).map (fmark k)
theorem fmarks_length (k : Int) (n : Nat) : (fmarks k n).length = n := by simp [fmarks]
theorem fmarks_succ (k : Int) (n : Nat) : fmarks k (n + 1) = fmarks k n ++ [fmark k n] := by simp [fmarks, List.range_succ]
theorem fmarks_at (k : Int) (n i : Nat) (h : i < (fmarks k n).length) : (fmarks k n)[i] = fmark k i := by simp [fmarks]
theorem fcells_append (A B : List (Int × Int)) : fcells (A ++ B) = fcells A ++ fcells B := by unfold fcells; rw [List.flatMap_append]
theorem fcells_one (A : List (Int × Int)) : ∀ u ∈ fcells A, u.oneCell' = true := by
  intro u hu
  unfold fcells at hu
  obtain ⟨x, _, hx⟩ := List.mem_flatMap.1 hu
  simp at hx
  rcases hx with rfl | rfl <;> rfl
theorem markFate_any (k i : Int) (w : World) (h1 : 0 ≤ k) (h2 : k ≤ 1099511627776) (h3 : 0 ≤ i) (h4 : i ≤ 281474976710656) :
    Calls Tryz.prog 72 #[.int .i64 k, .int .i64 i] w fun e w' => e = .returned (.agg #[.int .i64 0, .int .i64 (1000003 * (k + 7) + i)]) ∧ Mod [] w w' := by
  go_enter Tryz.func72, Tryz.ntmps72
  go_wp2_with (with_reducible refine st_alloc ?_)
  refine StopOp.go rfl fun K hK => ?_
  refine wp_alloc zero_fate ?_
  intro g w1 hg1 hg2 hm1 hB1
  simp only [put_some, List.set_cons_succ, List.set_cons_zero]
  refine hK _ _ ?_
  clear hK K
  go_wp2_with (first
                | (with_reducible refine st_store ?_)
                | (go_at_call 87; refine (mark_any k i _ h1 h2 h3 h4).mono ?_; rintro e w2 ⟨rfl, rfl⟩))
  refine StopOp.go rfl fun K hK => ?_
  refine wp_store (u := .agg #[.int .i64 0, .int .i64 (1000003 * (k + 7) + i)]) (by rfl) (by rfl) (by kernel_rfl) hB1 (by simp [Value.cells]) (by simp [Value.cells, Value.oneCell']) ?_
  intro w2 hm2 hB2
  refine hK _ _ ?_
  clear hK K
  have hX : Blk w2 g 110 [.int .i64 0, .int .i64 (1000003 * (k + 7) + i)] := hB2
  have x0 := hX.cell' (i := 0) rfl
  have x1 := hX.cell' (i := 1) rfl
  clear hB1 hB2
  go_wp2_with fail
  exact bodyPost_ret (v := .agg #[.int .i64 0, .int .i64 (1000003 * (k + 7) + i)]) (by simp [results, Tryz.results72, go_sem, x0, x1]) rfl ⟨rfl, hm1.fresh hm2 (by simpa using hg1)⟩
/-- lent fates -/
def LtF (w : World) (g cap : Nat) (F : List (Int × Int)) : Prop :=
  ∃ rest, Blk w g 110 (fcells (F ++ fmarks 1 12) ++ rest) ∧ (fcells (F ++ fmarks 1 12) ++ rest).length = cap * 2 ∧ cap ≤ 9223372036854775807
theorem LtF.mod {w w' : World} {g cap : Nat} {F : List (Int × Int)} {L : List Nat} (h : LtF w g cap F) (hm : Mod L w w') (hg : g ∉ L) : LtF w' g cap F := by
  obtain ⟨r, h1, h2, h3⟩ := h
  exact ⟨r, h1.mod hm hg, h2, h3⟩
theorem LtF.ext {w w' : World} {g cap : Nat} {F : List (Int × Int)} (h : LtF w g cap F) (hm : Mod [] w w') : LtF w' g cap F := h.mod hm (by simp)
theorem LtF.cap {w : World} {g cap : Nat} {F : List (Int × Int)} (h : LtF w g cap F) : F.length + 12 ≤ cap ∧ cap ≤ 9223372036854775807 := by
  obtain ⟨r, h1, h2, h3⟩ := h
  rw [List.length_append, fcells_len, List.length_append, fmarks_length] at h2
  omega
theorem LtF.fs {w : World} {g cap : Nat} {F : List (Int × Int)} (h : LtF w g cap F) : Fs w (.slice (some ⟨g, 0, none⟩) F.length cap) F := by
  have hc := h.cap
  obtain ⟨r, h1, h2, h3⟩ := h
  rw [fcells_append, List.append_assoc] at h1
  exact (Ow.of_blk (n := F.length) (cap := cap) h1 (by omega) h3 (by rw [← List.append_assoc, ← fcells_append]; exact h2) (by rw [fcells_len])).sl
set_option maxHeartbeats 1000000 in
theorem lentF_any (F : List (Int × Int)) (v : Value) (w : World) (hv : Fs w v F) (hl : F.length ≤ 8000000000) :
    Calls Tryz.prog 39 #[v] w fun e w' => ∃ g cap, e = .returned (.slice (some ⟨g, 0, none⟩) F.length cap) ∧ w.heap.size ≤ g ∧ LtF w' g cap F ∧ Mod [] w w' := by
  obtain ⟨ao0, cap0, rfl, hn0, hc0⟩ := hv.form
  go_enter Tryz.func39, Tryz.ntmps39
  go_wp2_with (with_reducible refine st_make ?_)
  refine StopOp.go rfl fun K hK => ?_
  refine wp_make (nl := 0) (nc := F.length + 12) stF (by rfl) (by rfl) rfl (by omega) (by omega) (by omega) (by omega) ?_
  intro g w1 hg1 hg2 hm1 hB1
  simp only [put_some, List.set_cons_succ, List.set_cons_zero]
  refine hK _ _ ?_
  clear hK K
  have ho1 : Ow w1 110 2 (.slice (some ⟨g, 0, none⟩) 0 (F.length + 12)) 0 [] := Ow.of_blk (xs := []) hB1 (by omega) (by omega) (by simp [Value.cells]; omega) (by simp)
  have hv1 : Fs w1 _ F := Sl.ext hv hm1
  have s1 := hm1.size
  clear hB1
  go_wp2_with (with_reducible refine st_append ?_)
  refine StopOp.go rfl fun K hK => ?_
  refine wp_append_ow stF (by rfl) (by rfl) ho1 hv1 (fcells_one F) (by omega) (by omega) ?_
  intro v2 w2 ho2 hm2 hb2
  simp only [put_some, List.set_cons_succ, List.set_cons_zero]
  refine hK _ _ ?_
  clear hK K
  rw [Nat.zero_add] at ho2
  obtain ⟨ao2, cap2, rfl, _, _⟩ := ho2.sl.form
  have hmA : Mod [] w w2 := hm1.fresh hm2 (by simpa [blks] using hg1)
  have hnA : ∀ k ∈ blks (.slice ao2 F.length cap2), w.heap.size ≤ k := fun k hk => (hb2 k hk).elim (fun h => by simp [blks] at h; omega) (fun h => by omega)
  clear ho1 hv1 hm1 hm2 hb2
  go_wp2_with fail
  go_loopw [3, 4] (fun out i wr => ∃ (j : Nat) (ao : Option Addr) (cap : Nat), j ≤ 12 ∧ i = .int .i64 j ∧ out = .slice ao (F.length + j) cap ∧ Mod [] w wr ∧ Ow wr 110 2 (.slice ao (F.length + j) cap) (F.length + j) (fcells (F ++ fmarks 1 j)) ∧ ∀ k ∈ blks (.slice ao (F.length + j) cap), w.heap.size ≤ k) (fun _ i _ => 12 - (intOf i).toNat)
  case atStart => exact ⟨0, ao2, cap2, by omega, rfl, by simp, hmA, by simpa [fmarks] using ho2, by simpa using hnA⟩
  case round =>
    obtain ⟨j, ao, cap, hj, rfl, rfl, hmr, hor, hnr⟩ := hrel
    by_cases hlt : j < 12
    · have y1 : (j : Int) < 12 := by omega
      go_wp2_with (first
                    | (with_reducible refine st_bslice ?_)
                    | (go_at_call 72; refine (markFate_any 1 j _ (by omega) (by omega) (by omega) (by omega)).mono ?_; rintro e w3 ⟨rfl, hm3⟩))
      refine StopOp.go rfl fun K hK => ?_
      refine wp_bslice stF [.agg #[.int .i64 0, .int .i64 (1000003 * (1 + 7) + j)]] rfl (by decide) (by rfl) (by simp [Value.cells]) ?_
      intro c w4 hc1 hc2 hm4 hB4
      simp only [put_some, List.set_cons_succ, List.set_cons_zero]
      refine hK _ _ ?_
      clear hK K
      have hb4 : Sl w4 2 (.slice (some ⟨c, 0, none⟩) 1 1) 1 (fcells [fmark 1 j]) := (Ow.of_blk (rest := []) hB4 (Nat.le_refl _) (by omega) rfl rfl : Ow w4 110 2 (.slice (some ⟨c, 0, none⟩) 1 1) 1 (fcells [fmark 1 j])).sl
      have hor4 := (hor.ext hm3).ext hm4
      go_wp2_with (with_reducible refine st_append ?_)
      refine StopOp.go rfl fun K hK => ?_
      refine wp_append_ow stF (by rfl) (by rfl) hor4 hb4 (fcells_one _) (by omega) (by omega) ?_
      intro v5 w5 ho5 hm5 hb5
      simp only [put_some, List.set_cons_succ, List.set_cons_zero]
      refine hK _ _ ?_
      clear hK K
      rw [Nat.add_assoc] at ho5
      obtain ⟨ao5, cap5, rfl, _, _⟩ := ho5.sl.form
      have s4 := (hm3.ext hm4).size
      have sr := hmr.size
      go_wp2_with fail
      go_roundw
      case rel =>
        refine ⟨j + 1, ao5, cap5, by omega, by go_num, rfl, ((hmr.ext hm3).ext hm4).fresh hm5 hnr, ?_, fun k hk => (hb5 k hk).elim (hnr k) fun h => by omega⟩
        rw [fmarks_succ, ← List.append_assoc, fcells_append]
        exact ho5
      case measure => simp [intOf]; omega
    · obtain rfl : j = 12 := by omega
      rcases hor.blk with ⟨h, _⟩ | ⟨b, cap', rest, h, hB, h1, h2, h3, h4⟩
      · injection h with _ h; omega
      · injection h with e1 e2 e3
        subst e1 e3
        go_wp2_with fail
        go_ret
        exact ⟨b, cap, rfl, hnr b (by simp [blks]), ⟨rest, hB, h3, h2⟩, hmr⟩
theorem LtF.cell {w : World} {g cap : Nat} {F : List (Int × Int)} (h : LtF w g cap F) {i : Nat} (hi : i < F.length + 12) : ∃ x : Int × Int, x = (F ++ fmarks 1 12)[i]'(by rw [List.length_append, fmarks_length]; exact hi) ∧ w.cell? ⟨g, i * 2, none⟩ = some (.int .i64 x.1) ∧ w.cell? ⟨g, i * 2 + 1, none⟩ = some (.int .i64 x.2) := by
  obtain ⟨r, h1, h2, h3⟩ := h
  have hl : i < (F ++ fmarks 1 12).length := by rw [List.length_append, fmarks_length]; exact hi
  have hc := fcells_at _ i hl
  have hlen := fcells_len (F ++ fmarks 1 12)
  exact ⟨_, rfl, h1.cell' (by rw [List.getElem?_append_left (by omega)]; exact hc.1), h1.cell' (by rw [List.getElem?_append_left (by omega)]; exact hc.2)⟩
theorem fate_eql_same (k a : Int) (w : World) : (binOp .eql 110 (.agg #[.int .i64 k, .int .i64 a]) (.agg #[.int .i64 k, .int .i64 a])).run Tryz.prog w = .ok (.bool true) w := by
  rw [run_eql_struct, run_equalIn_agg w 9999 _ _ _ (by kernel_rfl) (by kernel_rfl)]
  go_simp
theorem Fs.at2 {w : World} {ao : Option Addr} {n cap : Nat} {F : List (Int × Int)} (h : Fs w (.slice ao n cap) F) {j : Nat} (hj : j < F.length) : ∃ b o, ao = some ⟨b, o, none⟩ ∧ w.cell? ⟨b, o + j * 2, none⟩ = some (.int .i64 F[j].1) ∧ w.cell? ⟨b, o + j * 2 + 1, none⟩ = some (.int .i64 F[j].2) := by
  obtain ⟨b, o, c, hv, _, _, hcell⟩ := Sl.at h (by intro h; have := congrArg List.length h; rw [fcells_len] at this; simp only [List.length_nil] at this; omega)
  injection hv with e1 e2 e3
  refine ⟨b, o, e1, hcell _ _ (fcells_at F j hj).1, ?_⟩
  rw [Nat.add_assoc]
  exact hcell _ _ (fcells_at F j hj).2
set_option maxHeartbeats 4000000 in
theorem keptF_any (g cap : Nat) (F : List (Int × Int)) (v : Value) (w : World) (h : LtF w g cap F) (hv : Fs w v F) :
    Calls Tryz.prog 41 #[.slice (some ⟨g, 0, none⟩) F.length cap, v] w fun e w' => e = .returned (.bool true) ∧ Mod [] w w' := by
  obtain ⟨ao, cap2, rfl, hn0, hc0⟩ := hv.form
  have hcap := h.cap
  have q1 : (F.length : Int) + 12 ≤ cap := by omega
  have q2 : (cap : Int) ≤ 9223372036854775807 := by omega
  have heq := fate_eql_same
  go_enter Tryz.func41, Tryz.ntmps41
  go_wp2_with fail
  go_loopw [6] (fun i wr => ∃ j : Nat, j ≤ F.length + 12 ∧ i = .int .i64 j ∧ Mod [] w wr) (fun i _ => F.length + 12 - (intOf i).toNat)
  case atStart => exact ⟨0, by omega, rfl, Mod.refl _ _⟩
  case round =>
    obtain ⟨j, hj, rfl, hmr⟩ := hrel
    have hr := h.ext hmr
    have hvr : Fs wr _ F := Sl.ext hv hmr
    by_cases hlt : j < F.length + 12
    · have y0 : (j : Int) < F.length + 12 := by omega
      obtain ⟨x, hx, hc1, hc2⟩ := hr.cell hlt
      by_cases hl2 : j < F.length
      · have y1 : (j : Int) < F.length := by omega
        obtain ⟨b, o, rfl, d1, d2⟩ := hvr.at2 hl2
        rw [List.getElem_append_left hl2] at hx
        rw [← hx] at d1 d2
        obtain ⟨k, a⟩ := x
        dsimp only at hc1 hc2 d1 d2
        clear hx
        go_wp2_with fail
        refine wp_region_T [⟨0, true, []⟩, ⟨1, true, []⟩, ⟨2, true, []⟩, ⟨3, true, []⟩, ⟨4, true, []⟩, ⟨5, true, []⟩, ⟨6, true, []⟩, ⟨7, true, []⟩, ⟨8, true, []⟩, ⟨9, true, []⟩, ⟨10, true, []⟩, ⟨11, true, []⟩, ⟨12, true, []⟩, ⟨13, true, []⟩, ⟨14, true, []⟩, ⟨15, true, []⟩, ⟨16, true, []⟩, ⟨17, true, []⟩, ⟨18, true, []⟩, ⟨19, true, []⟩, ⟨20, true, []⟩, ⟨21, true, []⟩, ⟨22, true, []⟩, ⟨23, true, []⟩, ⟨24, true, []⟩, ⟨25, true, []⟩, ⟨26, true, []⟩, ⟨27, true, []⟩, ⟨28, true, []⟩, ⟨29, true, []⟩, ⟨30, false, [25]⟩, ⟨31, true, []⟩, ⟨32, true, []⟩, ⟨33, true, []⟩, ⟨34, true, []⟩] (by kernel_rfl) (by kernel_rfl) ?_
        have hdd : decide (F.length ≤ j) = false := decide_eq_false (Nat.not_le.2 hl2)
        iterate 5 (refine wpT_n rfl rfl (fun K hK => ?_); go_wp2_with fail)
        iterate 10 (refine wpT_gq (gi := 4) rfl rfl rfl rfl rfl (fun K hK => ?_); go_wp2_with fail)
        iterate 2 (refine wpT_n rfl rfl (fun K hK => ?_); go_wp2_with fail)
        iterate 5 (refine wpT_gq (gi := 16) rfl rfl rfl rfl rfl (fun K hK => ?_); go_wp2_with fail)
        iterate 11 (refine wpT_gk (gi := 21) rfl rfl rfl rfl rfl rfl (fun K hK => ?_); go_wp2_with fail)
        refine wpT_gq (gi := 16) rfl rfl rfl rfl rfl (fun K hK => ?_)
        go_wp2_with fail
        refine wpT_n rfl rfl (fun K hK => ?_)
        go_wp2_with fail
        refine wpT_nil ?_
        go_wp2_with fail
        go_roundw
        case rel => exact ⟨j + 1, by omega, by go_num, hmr.ext (Mod.drew [] _)⟩
        case measure => simp [intOf]; omega
      · rw [List.getElem_append_right (by omega), fmarks_at] at hx
        have hx1 : x.1 = 0 := by rw [hx]; rfl
        have hx2 : x.2 = 1000003 * (1 + 7) + ((j : Int) - (F.length : Int)) := by rw [hx]; unfold fmark; omega
        rw [hx1] at hc1
        rw [hx2] at hc2
        have hdd : decide (F.length ≤ j) = true := decide_eq_true (by omega)
        have hde : decide (j < F.length) = false := decide_eq_false (by omega)
        have y2 : (0 : Int) ≤ (j : Int) - F.length := by omega
        have y1 : (j : Int) - F.length ≤ 11 := by omega
        clear hx hx1 hx2
        go_wp2_with fail
        refine wp_region_T [⟨0, true, []⟩, ⟨1, true, []⟩, ⟨2, true, []⟩, ⟨3, true, []⟩, ⟨4, true, []⟩, ⟨5, true, []⟩, ⟨6, true, []⟩, ⟨7, true, []⟩, ⟨8, true, []⟩, ⟨9, true, []⟩, ⟨10, true, []⟩, ⟨11, true, []⟩, ⟨12, true, []⟩, ⟨13, true, []⟩, ⟨14, true, []⟩, ⟨15, true, []⟩, ⟨16, true, []⟩, ⟨17, true, []⟩, ⟨18, true, []⟩, ⟨19, true, []⟩, ⟨20, true, []⟩, ⟨21, true, []⟩, ⟨22, true, []⟩, ⟨23, true, []⟩, ⟨24, true, []⟩, ⟨25, true, []⟩, ⟨26, true, []⟩, ⟨27, true, []⟩, ⟨28, true, []⟩, ⟨29, true, []⟩, ⟨30, false, [25]⟩, ⟨31, true, []⟩, ⟨32, true, []⟩, ⟨33, true, []⟩, ⟨34, true, []⟩] (by kernel_rfl) (by kernel_rfl) ?_
        have hm0 := hmr.ext (Mod.drew [] _)
        obtain ⟨w0, hw0⟩ : ∃ x, x = wr.drew := ⟨_, rfl⟩
        have hc1' : w0.cell? ⟨g, j * 2, none⟩ = some (.int .i64 0) := by rw [hw0]; exact hc1
        have hc2' : w0.cell? ⟨g, j * 2 + 1, none⟩ = some (.int .i64 (1000003 * (1 + 7) + ((j : Int) - F.length))) := by rw [hw0]; exact hc2
        have hr0 : LtF w0 g cap F := by rw [hw0]; exact hr.ext (Mod.drew [] _)
        rw [← hw0] at hm0 ⊢
        clear hw0 hc1 hc2
        iterate 5 (refine wpT_n rfl rfl (fun K hK => ?_); go_wp2_with fail)
        iterate 10 (refine wpT_gk (gi := 4) rfl rfl rfl rfl rfl rfl (fun K hK => ?_); go_wp2_with fail)
        iterate 2 (refine wpT_n rfl rfl (fun K hK => ?_); go_wp2_with fail)
        iterate 5 (refine wpT_gq (gi := 16) rfl rfl rfl rfl rfl (fun K hK => ?_); go_wp2_with fail)
        iterate 8 (refine wpT_gq (gi := 21) rfl rfl rfl rfl rfl (fun K hK => ?_); go_wp2_with fail)
        refine wpT_gcallh (gi := 21) rfl rfl rfl rfl (fun K hK => ?_)
        go_wp2_with (go_at_call 72; refine (markFate_any 1 ((j : Int) - F.length) _ (by omega) (by omega) (by omega) (by omega)).mono ?_; rintro e w3 ⟨rfl, hm3⟩)
        obtain ⟨_, hBg, _⟩ := hr0
        refine ⟨agains_cons rfl (again_load rfl rfl (hm3.block g hBg.lt (by simp)) hBg.kinds) agains_nil, ?_⟩
        have hm03 := hm0.ext hm3
        iterate 2 (refine wpT_gq (gi := 21) rfl rfl rfl rfl rfl (fun K hK => ?_); go_wp2_with fail)
        refine wpT_gq (gi := 16) rfl rfl rfl rfl rfl (fun K hK => ?_)
        go_wp2_with fail
        refine wpT_n rfl rfl (fun K hK => ?_)
        go_wp2_with fail
        refine wpT_nil ?_
        go_wp2_with fail
        go_roundw
        case rel => exact ⟨j + 1, by omega, by go_num, hm03⟩
        case measure => simp [intOf]; omega
    · obtain rfl : j = F.length + 12 := by omega
      go_wp2_with fail
      go_ret
      exact ⟨rfl, hmr⟩
end Go.Proofs.YtdmnogmhnhjdgaaGreat
