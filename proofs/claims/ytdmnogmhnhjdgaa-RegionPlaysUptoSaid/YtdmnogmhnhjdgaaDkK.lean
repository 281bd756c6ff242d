import Derived.Test.YtdmnogmhnhjdgaaDkY
import Derived.Test.YtdmnogmhnhjdgaaLentC
/-! The kit's functions over rows and fates: SameRows, LentFates, KeptFates, CopyFates. -/
set_option linter.unusedVariables false
set_option linter.unusedSimpArgs false
set_option maxRecDepth 100000
namespace Go.Proofs.Ytdmnogmhnhjdgaa
open Go.RowKit Gw

/-- rows of bytes, readable -/
def RowsR (w : World) (v : Value) (L : List (Value × List UInt8)) : Prop := Sl w 1 v L.length (L.map (·.1)) ∧ ∀ p ∈ L, Bs w p.1 p.2
theorem RowsR.ext {w w' : World} {v : Value} {L : List (Value × List UInt8)} (h : RowsR w v L) (hm : Mod [] w w') : RowsR w' v L := ⟨Sl.ext h.1 hm, fun p hp => (h.2 p hp).ext hm⟩
theorem RowsR.nil (w : World) : RowsR w (.slice none 0 0) [] := ⟨Sl.nil w 1, fun _ h => nomatch h⟩
theorem sl_at' {w : World} {ao : Option Addr} {n cap : Nat} {xs : List Value} (h : Sl w 1 (.slice ao n cap) n xs) {i : Nat} (hi : i < xs.length) : ∃ b o, ao = some ⟨b, o, none⟩ ∧ w.cell? ⟨b, o + i, none⟩ = some xs[i] := by
  obtain ⟨b, o, c, hv, _, _, hcell⟩ := h.at (by intro h0; rw [h0] at hi; simp at hi)
  injection hv with e1 e2 e3
  exact ⟨b, o, e1, hcell i _ (List.getElem?_eq_getElem hi)⟩
set_option maxHeartbeats 2000000 in
theorem sameRows_yes (A B : List (Value × List UInt8)) (va vb : Value) (w : World) (ha : RowsR w va A) (hb : RowsR w vb B) (h : A.map (·.2) = B.map (·.2)) :
    Calls Try.prog 26 #[va, vb] w fun e w' => e = .returned (.bool true) ∧ Mod [] w w' := by
  obtain ⟨aoa, capa, rfl, _, _⟩ := ha.1.form
  obtain ⟨aob, capb, rfl, _, _⟩ := hb.1.form
  have hl : A.length = B.length := by simpa using congrArg List.length h
  have hA1 := ha.1.small
  obtain ⟨n, hn⟩ : ∃ n, n = B.length := ⟨_, rfl⟩
  have hnA : A.length = n := by omega
  rw [hnA]
  rw [show B.length = n from hn.symm]
  have HA := Lib.hid hnA
  have HB := Lib.hid hn
  have H := Lib.hid h
  clear hl hn hnA h hA1
  go_enter Try.func26, Try.ntmps26
  go_wp2_with fail
  go_loopw [5] (fun i wr => ∃ j : Nat, j ≤ n ∧ i = .int .i64 j ∧ Mod [] w wr) (fun i _ => n - (intOf i).toNat)
  case atStart => exact ⟨0, Nat.zero_le _, rfl, Mod.refl _ _⟩
  case round =>
    obtain ⟨j, hj, rfl, hmr⟩ := hrel
    by_cases hlt : j < n
    · have jA : j < A.length := by have := HA.out; omega
      have jB : j < B.length := by have := HB.out; omega
      have haA := ha.ext hmr
      have hbB := hb.ext hmr
      have hsa := haA.1
      have hsb := hbB.1
      rw [HA.out] at hsa
      rw [← HB.out] at hsb
      obtain ⟨b1, o1, rfl, c1⟩ := sl_at' hsa (i := j) (by simpa using jA)
      obtain ⟨b2, o2, rfl, c2⟩ := sl_at' hsb (i := j) (by simpa using jB)
      rw [List.getElem_map] at c1 c2
      have e1 := haA.2 A[j] (List.getElem_mem jA)
      have e2 := hbB.2 B[j] (List.getElem_mem jB)
      have hjj : A[j].2 = B[j].2 := by
        have h1 : (A.map (·.2))[j]? = (B.map (·.2))[j]? := by rw [H.out]
        rw [List.getElem?_map, List.getElem?_map, List.getElem?_eq_getElem jA, List.getElem?_eq_getElem jB] at h1
        exact Option.some.inj h1
      rw [← hjj] at e2
      obtain ⟨l, hl⟩ : ∃ l, l = A[j].2 := ⟨_, rfl⟩
      rw [← hl] at e1 e2
      obtain ⟨u1, hu1⟩ : ∃ u, u = A[j].1 := ⟨_, rfl⟩
      obtain ⟨u2, hu2⟩ : ∃ u, u = B[j].1 := ⟨_, rfl⟩
      rw [← hu1] at e1 c1
      rw [← hu2] at e2 c2
      obtain ⟨ao1, cap1, rfl, _, _⟩ := e1.form
      obtain ⟨ao2, cap2, rfl, _, _⟩ := e2.form
      have y0 : (j : Int) < n := by omega
      have hmr' := hmr.ext (Mod.drew [] _)
      have e1' := e1.ext (Mod.drew [] _)
      have e2' := e2.ext (Mod.drew [] _)
      clear hu1 hu2 hl hjj haA hbB hsa hsb e1 e2
      go_wp2_with fail
      refine wp_region_T [⟨0, true, []⟩, ⟨1, true, []⟩, ⟨2, true, []⟩, ⟨3, true, []⟩, ⟨4, true, []⟩, ⟨5, true, []⟩, ⟨6, true, []⟩, ⟨7, true, []⟩, ⟨8, false, []⟩, ⟨9, true, []⟩] (by kernel_rfl) (by kernel_rfl) ?_
      iterate 8 (refine wpT_n rfl rfl (fun K hK => ?_); go_wp2_with fail)
      refine wpT_call rfl rfl (fun K hK => ?_)
      go_wp2_with (go_at_call 19; refine (same_yes _ _ _ _ _ e1' e2' rfl).mono ?_; rintro e w3 ⟨rfl, hm3⟩)
      refine wpT_n rfl rfl (fun K hK => ?_)
      go_wp2_with fail
      refine wpT_nil ?_
      go_wp2_with fail
      go_roundw
      case rel => exact ⟨j + 1, by omega, by go_num, hmr'.ext hm3⟩
      case measure => simp [intOf]; omega
    · obtain rfl : j = n := by omega
      go_wp2_with fail
      go_ret
      exact ⟨rfl, hmr⟩

/-! ### Fates -/
def fmark (k : Int) (i : Nat) : Int × Int := (0, 1000003 * (k + 7) + i)
def fmarks (k : Int) (n : Nat) : List (Int × Int) := (List.range n).map (fmark k)
theorem fmarks_length (k : Int) (n : Nat) : (fmarks k n).length = n := by simp [fmarks]
theorem fmarks_succ (k : Int) (n : Nat) : fmarks k (n + 1) = fmarks k n ++ [fmark k n] := by simp [fmarks, List.range_succ]
theorem fmarks_at (k : Int) (n i : Nat) (h : i < (fmarks k n).length) : (fmarks k n)[i] = fmark k i := by simp [fmarks]
theorem fcells_append (A B : List (Int × Int)) : fcells (A ++ B) = fcells A ++ fcells B := by unfold fcells; rw [List.flatMap_append]
theorem fcells_one (A : List (Int × Int)) : ∀ u ∈ fcells A, u.oneCell' = true := by
  intro u hu
  unfold fcells at hu
  obtain ⟨x, _, hx⟩ := List.mem_flatMap.1 hu
  simp at hx
  rcases hx with rfl | rfl <;> rfl
theorem markFate_any (k i : Int) (w : World) (h1 : 0 ≤ k) (h2 : k ≤ 1099511627776) (h3 : 0 ≤ i) (h4 : i ≤ 281474976710656) :
    Calls Try.prog 131 #[.int .i64 k, .int .i64 i] w fun e w' => e = .returned (.agg #[.int .i64 0, .int .i64 (1000003 * (k + 7) + i)]) ∧ Mod [] w w' := by
  go_enter Try.func131, Try.ntmps131
  go_wp2_with (with_reducible refine st_alloc ?_)
  refine StopOp.go rfl fun K hK => ?_
  refine wp_alloc zero_fate ?_
  intro g w1 hg1 hg2 hm1 hB1
  simp only [put_some, List.set_cons_succ, List.set_cons_zero]
  refine hK _ _ ?_
  clear hK K
  go_wp2_with (first
                | (with_reducible refine st_store ?_)
                | (go_at_call 100; refine (mark_any k i _ h1 h2 h3 h4).mono ?_; rintro e w2 ⟨rfl, rfl⟩))
  refine StopOp.go rfl fun K hK => ?_
  refine wp_store (u := .agg #[.int .i64 0, .int .i64 (1000003 * (k + 7) + i)]) (by rfl) (by rfl) (by kernel_rfl) hB1 (by simp [Value.cells]) (by simp [Value.cells, Value.oneCell']) ?_
  intro w2 hm2 hB2
  refine hK _ _ ?_
  clear hK K
  have hX : Blk w2 g 99 [.int .i64 0, .int .i64 (1000003 * (k + 7) + i)] := hB2
  have x0 := hX.cell' (i := 0) rfl
  have x1 := hX.cell' (i := 1) rfl
  clear hB1 hB2
  go_wp2_with fail
  exact bodyPost_ret (v := .agg #[.int .i64 0, .int .i64 (1000003 * (k + 7) + i)]) (by simp [results, Try.results131, go_sem, x0, x1]) rfl ⟨rfl, hm1.fresh hm2 (by simpa using hg1)⟩
/-- lent fates -/
def LtF (w : World) (g cap : Nat) (F : List (Int × Int)) : Prop :=
  ∃ rest, Blk w g 99 (fcells (F ++ fmarks 1 12) ++ rest) ∧ (fcells (F ++ fmarks 1 12) ++ rest).length = cap * 2 ∧ cap ≤ 9223372036854775807
theorem LtF.mod {w w' : World} {g cap : Nat} {F : List (Int × Int)} {L : List Nat} (h : LtF w g cap F) (hm : Mod L w w') (hg : g ∉ L) : LtF w' g cap F := by
  obtain ⟨r, h1, h2, h3⟩ := h
  exact ⟨r, h1.mod hm hg, h2, h3⟩
theorem LtF.ext {w w' : World} {g cap : Nat} {F : List (Int × Int)} (h : LtF w g cap F) (hm : Mod [] w w') : LtF w' g cap F := h.mod hm (by simp)
theorem LtF.cap {w : World} {g cap : Nat} {F : List (Int × Int)} (h : LtF w g cap F) : F.length + 12 ≤ cap ∧ cap ≤ 9223372036854775807 := by
  obtain ⟨r, h1, h2, h3⟩ := h
  rw [List.length_append, fcells_len, List.length_append, fmarks_length] at h2
  omega
theorem LtF.fs {w : World} {g cap : Nat} {F : List (Int × Int)} (h : LtF w g cap F) : Fs w (.slice (some ⟨g, 0, none⟩) F.length cap) F := by
  have hc := h.cap
  obtain ⟨r, h1, h2, h3⟩ := h
  rw [fcells_append, List.append_assoc] at h1
  exact (Ow.of_blk (n := F.length) (cap := cap) h1 (by omega) h3 (by rw [← List.append_assoc, ← fcells_append]; exact h2) (by rw [fcells_len])).sl
theorem LtF.cell {w : World} {g cap : Nat} {F : List (Int × Int)} (h : LtF w g cap F) {i : Nat} (hi : i < F.length + 12) : ∃ x : Int × Int, x = (F ++ fmarks 1 12)[i]'(by rw [List.length_append, fmarks_length]; exact hi) ∧ w.cell? ⟨g, i * 2, none⟩ = some (.int .i64 x.1) ∧ w.cell? ⟨g, i * 2 + 1, none⟩ = some (.int .i64 x.2) := by
  obtain ⟨r, h1, h2, h3⟩ := h
  have hl : i < (F ++ fmarks 1 12).length := by rw [List.length_append, fmarks_length]; exact hi
  have hc := fcells_at _ i hl
  have hlen := fcells_len (F ++ fmarks 1 12)
  exact ⟨_, rfl, h1.cell' (by rw [List.getElem?_append_left (by omega)]; exact hc.1), h1.cell' (by rw [List.getElem?_append_left (by omega)]; exact hc.2)⟩
theorem fate_eql_same (k a : Int) (w : World) : (binOp .eql 99 (.agg #[.int .i64 k, .int .i64 a]) (.agg #[.int .i64 k, .int .i64 a])).run Try.prog w = .ok (.bool true) w := by
  rw [run_eql_struct, run_equalIn_agg w 9999 _ _ _ (by kernel_rfl) (by kernel_rfl)]
  go_simp
theorem Fs.at2 {w : World} {ao : Option Addr} {n cap : Nat} {F : List (Int × Int)} (h : Fs w (.slice ao n cap) F) {j : Nat} (hj : j < F.length) : ∃ b o, ao = some ⟨b, o, none⟩ ∧ w.cell? ⟨b, o + j * 2, none⟩ = some (.int .i64 F[j].1) ∧ w.cell? ⟨b, o + j * 2 + 1, none⟩ = some (.int .i64 F[j].2) := by
  obtain ⟨b, o, c, hv, _, _, hcell⟩ := Sl.at h (by intro h; have := congrArg List.length h; rw [fcells_len] at this; simp only [List.length_nil] at this; omega)
  injection hv with e1 e2 e3
  refine ⟨b, o, e1, hcell _ _ (fcells_at F j hj).1, ?_⟩
  rw [Nat.add_assoc]
  exact hcell _ _ (fcells_at F j hj).2
theorem copyF_any (F : List (Int × Int)) (v : Value) (w : World) (hv : Fs w v F) (hl : F.length ≤ 8000000000) :
    Calls Try.prog 24 #[v] w fun e w' => ∃ v', e = .returned v' ∧ Fs w' v' F ∧ (∀ k ∈ blks v', w.heap.size ≤ k) ∧ Mod [] w w' := by
  go_enter Try.func24, Try.ntmps24
  go_wp2_with (with_reducible refine st_append ?_)
  refine StopOp.go rfl fun K hK => ?_
  refine wp_append_ow stF (by rfl) (by rfl) (Ow.nil w _ 2) hv (fcells_one F) (by omega) (by omega) ?_
  intro v' w2 ho2 hm2 hn2
  simp only [put_some, List.set_cons_succ, List.set_cons_zero]
  refine hK _ _ ?_
  clear hK K
  go_wp2_with fail
  go_ret
  exact ⟨_, rfl, by simpa [Fs] using ho2.sl, fun k hk => (hn2 k hk).elim (fun h => by simp [blks] at h) id, hm2⟩
end Go.Proofs.Ytdmnogmhnhjdgaa
