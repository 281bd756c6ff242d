import Derived.Test.YtkedbphdflhhlaaLentA
set_option linter.unusedVariables false
set_option linter.unusedSimpArgs false
set_option maxRecDepth 100000
namespace Go.Proofs.Ytkedbphdflhhlaa
open Go.RowKit Gw

/-- the marks behind a lent list -/
def marks (k : Int) (n : Nat) : List UInt8 := (List.range n).map fun i : Nat => mb k i
theorem marks_length (k : Int) (n : Nat) : (marks k n).length = n := by simp [marks]
theorem marks_succ (k : Int) (n : Nat) : marks k (n + 1) = marks k n ++ [mb k n] := by simp [marks, List.range_succ]
theorem marks_at (k : Int) (n i : Nat) (h : i < (marks k n).length) : (marks k n)[i] = mb k i := by simp [marks]
/-- a lent list: it lies at the head of a block of its own, with marks behind -/
def Lt (w : World) (g cap : Nat) (l : List UInt8) : Prop :=
  ∃ rest, Blk w g 5 (bv (l ++ marks 1 12) ++ rest) ∧ (bv (l ++ marks 1 12) ++ rest).length = cap ∧ cap ≤ 9223372036854775807
theorem Lt.ext {w w' : World} {g cap : Nat} {l : List UInt8} (h : Lt w g cap l) (hm : Mod [] w w') : Lt w' g cap l := by
  obtain ⟨r, h1, h2, h3⟩ := h
  exact ⟨r, h1.ext hm, h2, h3⟩
theorem Lt.mod {w w' : World} {g cap : Nat} {l : List UInt8} {L : List Nat} (h : Lt w g cap l) (hm : Mod L w w') (hg : g ∉ L) : Lt w' g cap l := by
  obtain ⟨r, h1, h2, h3⟩ := h
  exact ⟨r, h1.mod hm hg, h2, h3⟩
theorem Lt.cap {w : World} {g cap : Nat} {l : List UInt8} (h : Lt w g cap l) : l.length + 12 ≤ cap ∧ cap ≤ 9223372036854775807 := by
  obtain ⟨r, h1, h2, h3⟩ := h
  rw [List.length_append, bv_length, List.length_append, marks_length] at h2
  omega
theorem Lt.bs {w : World} {g cap : Nat} {l : List UInt8} (h : Lt w g cap l) : Bs w (.slice (some ⟨g, 0, none⟩) l.length cap) l := by
  have hc := h.cap
  obtain ⟨r, h1, h2, h3⟩ := h
  rw [bv_append, List.append_assoc] at h1
  exact Bs.of_blk h1 (by omega) (by omega)

set_option maxHeartbeats 1000000 in
theorem lent_any (l : List UInt8) (v : Value) (w : World) (hv : Bs w v l) (hl : l.length ≤ 140737488355300) :
    Calls Try.prog 30 #[v] w fun e w' => ∃ g cap, e = .returned (.slice (some ⟨g, 0, none⟩) l.length cap) ∧ w.heap.size ≤ g ∧ Lt w' g cap l ∧ Mod [] w w' := by
  obtain ⟨ao0, cap0, rfl, hn0, hc0⟩ := hv.form
  go_enter Try.func30, Try.ntmps30
  go_wp2_with (with_reducible refine st_make ?_)
  refine StopOp.go rfl fun K hK => ?_
  refine wp_make (nl := 0) (nc := l.length + 12) stB (by rfl) (by rfl) rfl (by omega) (by omega) (by omega) (by omega) ?_
  intro g w1 hg1 hg2 hm1 hB1
  simp only [put_some, List.set_cons_succ, List.set_cons_zero]
  refine hK _ _ ?_
  clear hK K
  have ho1 : Ow w1 5 1 (.slice (some ⟨g, 0, none⟩) 0 (l.length + 12)) 0 [] := Ow.of_blk (xs := []) hB1 (by omega) (by omega) (by simp [Value.cells, List.flatten_replicate_singleton]) (by simp)
  have hv1 := hv.ext hm1
  have s1 := hm1.size
  clear hB1
  go_wp2_with (with_reducible refine st_append ?_)
  refine StopOp.go rfl fun K hK => ?_
  refine wp_append_ow stB (by rfl) (by rfl) ho1 hv1 (bv_one l) (by omega) (by omega) ?_
  intro v2 w2 ho2 hm2 hb2
  simp only [put_some, List.set_cons_succ, List.set_cons_zero]
  refine hK _ _ ?_
  clear hK K
  rw [Nat.zero_add] at ho2
  obtain ⟨ao2, cap2, rfl, _, _⟩ := ho2.sl.form
  have hmA : Mod [] w w2 := hm1.fresh hm2 (by simpa [blks] using hg1)
  have hnA : ∀ k ∈ blks (.slice ao2 l.length cap2), w.heap.size ≤ k := fun k hk => (hb2 k hk).elim (fun h => by simp [blks] at h; omega) (fun h => by omega)
  clear ho1 hv1 hm1 hm2 hb2
  go_wp2_with fail
  go_loopw [3, 4] (fun out i wr => ∃ (j : Nat) (ao : Option Addr) (cap : Nat), j ≤ 12 ∧ i = .int .i64 j ∧ out = .slice ao (l.length + j) cap ∧ Mod [] w wr ∧ Ow wr 5 1 (.slice ao (l.length + j) cap) (l.length + j) (bv (l ++ marks 1 j)) ∧ ∀ k ∈ blks (.slice ao (l.length + j) cap), w.heap.size ≤ k) (fun _ i _ => 12 - (intOf i).toNat)
  case atStart => exact ⟨0, ao2, cap2, by omega, rfl, by simp, hmA, by simpa [marks] using ho2, by simpa using hnA⟩
  case round =>
    obtain ⟨j, ao, cap, hj, rfl, rfl, hmr, hor, hnr⟩ := hrel
    by_cases hlt : j < 12
    · have y1 : (j : Int) < 12 := by omega
      go_wp2_with (first | (with_reducible refine st_bslice ?_) | (go_at_call 76; refine (markByte_any 1 j _ (by omega) (by omega) (by omega) (by omega)).mono ?_; rintro e w3 ⟨rfl, rfl⟩))
      refine StopOp.go rfl fun K hK => ?_
      refine wp_bslice stB [.int .u8 ((mb 1 j).toNat : Nat)] rfl (by decide) (by rfl) (by simp [Value.cells]) ?_
      intro c w4 hc1 hc2 hm4 hB4
      simp only [put_some, List.set_cons_succ, List.set_cons_zero]
      refine hK _ _ ?_
      clear hK K
      have hb4 : Bs w4 (.slice (some ⟨c, 0, none⟩) 1 1) [mb 1 j] := Bs.of_blk (l := [mb 1 j]) (rest := []) hB4 (by simp) (by omega)
      have hor4 := hor.ext hm4
      go_wp2_with (with_reducible refine st_append ?_)
      refine StopOp.go rfl fun K hK => ?_
      refine wp_append_ow stB (by rfl) (by rfl) hor4 hb4 (bv_one _) (by simp; omega) (by simp; omega) ?_
      intro v5 w5 ho5 hm5 hb5
      simp only [put_some, List.set_cons_succ, List.set_cons_zero]
      refine hK _ _ ?_
      clear hK K
      rw [List.length_singleton, Nat.add_assoc] at ho5
      obtain ⟨ao5, cap5, rfl, _, _⟩ := ho5.sl.form
      have s4 := hm4.size
      have sr := hmr.size
      go_wp2_with fail
      go_roundw
      case rel =>
        refine ⟨j + 1, ao5, cap5, by omega, by go_num, rfl, (hmr.ext hm4).fresh hm5 hnr, ?_, fun k hk => (hb5 k hk).elim (hnr k) fun h => by omega⟩
        rw [marks_succ, ← List.append_assoc, bv_append]
        exact ho5
      case measure => simp [intOf]; omega
    · obtain rfl : j = 12 := by omega
      rcases hor.blk with ⟨h, _⟩ | ⟨b, cap', rest, h, hB, h1, h2, h3, h4⟩
      · injection h with _ h; omega
      · injection h with e1 e2 e3
        subst e1 e3
        go_wp2_with fail
        go_ret
        exact ⟨b, cap, rfl, hnr b (by simp [blks]), ⟨rest, hB, by simpa using h3, h2⟩, hmr⟩
end Go.Proofs.Ytkedbphdflhhlaa
