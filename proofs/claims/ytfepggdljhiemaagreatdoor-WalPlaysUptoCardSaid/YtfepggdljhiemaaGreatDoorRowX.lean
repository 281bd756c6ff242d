import Derived.Test.YtfepggdljhiemaaGreatDoorRowW
import Derived.Test.YtfepggdljhiemaaGreatDoorGRw
import Derived.Test.YtfepggdljhiemaaGreatDoorGWn
/-! What WalPlays takes, opened: steps, scripts. -/
set_option linter.unusedVariables false
set_option linter.unusedSimpArgs false
set_option maxRecDepth 100000
namespace Go.Proofs.YtfepggdljhiemaaGreatDoor
open Go.ChangeShapes Go.WideShapes Go.ChangeAt Go.RowKit Gw Go.Deep

section
variable {H : Type} {enc : TypeId × Value → H} {P : Program} {w : World} {base : Nat} {spare : Nat → Bool} {held : Bool}
theorem trod_u64X {n : Nat} {t : TypeId} {u : Value} {y : DataW H × List MemPlace} (ht : P.underlying t = some (.int .u64)) (h : DataW.trod enc P w base spare held n t [u] = some y) :
    ∃ x : Nat, u = .int .u64 (x : Nat) ∧ x < 18446744073709551616 := by
  obtain ⟨x, e, hy, wf⟩ := DataW.trod_int ht h
  have h2 : 0 ≤ x ∧ x ≤ 18446744073709551615 := by simpa [Lit.wf, IntKind.min, IntKind.max, IntKind.signed, IntKind.bits] using wf
  refine ⟨x.toNat, ?_, by omega⟩
  have e1 : u = .int .u64 x := by simpa using e
  rw [e1, Int.toNat_of_nonneg h2.1]
end
theorem wopFields : ∃ fs : Array Field, Tryz.prog.underlying 58 = some (.struct fs) ∧ oneCellFields Tryz.prog fs = true ∧ fs.size = 6 ∧ Tryz.prog.cellsOf 58 = 6 ∧ (fs[0]?).map (·.type) = some 3 ∧ (fs[1]?).map (·.type) = some 3 ∧ (fs[2]?).map (·.type) = some 33 ∧ (fs[3]?).map (·.type) = some 32 ∧ (fs[4]?).map (·.type) = some 32 ∧ (fs[5]?).map (·.type) = some 56 :=
  ⟨_, Tryz.underlying58, by kernel_rfl, by kernel_rfl, by kernel_rfl, by kernel_rfl, by kernel_rfl, by kernel_rfl, by kernel_rfl, by kernel_rfl, by kernel_rfl⟩
def wopT (j : Nat) : TypeId := if j = 2 then 33 else if j = 3 ∨ j = 4 then 32 else if j = 5 then 56 else 3
theorem wop_of {H : Type} {enc : TypeId × Value → H} {w : World} {c : List Value} {ys : List (DataW H)} {n : Nat} (hcl : c.length = 6) (hk : Rows.uptoBulkAll ys ≤ 1048576)
    (fld : ∀ (j : Nat) (t : TypeId), j < 6 → t = wopT j → ∃ u d p, c[j]? = some u ∧ ys[j]? = some d ∧ DataW.trod enc Tryz.prog w 0 (fun _ => true) true n t [u] = some (d, p)) :
    ∃ o : Wop, c = o.cells ∧ OkWop w o := by
  obtain ⟨u0, y0, p0, hu0, hy0, t0⟩ := fld 0 _ (by omega) rfl
  obtain ⟨u1, y1, p1, hu1, hy1, t1⟩ := fld 1 _ (by omega) rfl
  obtain ⟨u2, y2, p2, hu2, hy2, t2⟩ := fld 2 _ (by omega) rfl
  obtain ⟨u3, y3, p3, hu3, hy3, t3⟩ := fld 3 _ (by omega) rfl
  obtain ⟨u4, y4, p4, hu4, hy4, t4⟩ := fld 4 _ (by omega) rfl
  obtain ⟨u5, y5, p5, hu5, hy5, t5⟩ := fld 5 _ (by omega) rfl
  obtain ⟨x0, rfl, _, w0⟩ := trod_i64 Tryz.underlying3 t0
  obtain ⟨x1, rfl, _, w1⟩ := trod_i64 Tryz.underlying3 t1
  obtain ⟨ao2, cap2, l2, _, w2, k2⟩ := open_bytes t2
  obtain ⟨x3, rfl, w3⟩ := trod_u64X Tryz.underlying32 t3
  obtain ⟨x4, rfl, w4⟩ := trod_u64X Tryz.underlying32 t4
  obtain ⟨ao, cap, F, _, hF, hbF, hold⟩ := open_fates t5
  have hbF' : F.length + 1 ≤ Rows.uptoBulk y5 := hbF
  have k5 := bulk_mem (List.mem_of_getElem? hy5)
  have k22 := bulk_mem (List.mem_of_getElem? hy2)
  refine ⟨⟨x0, x1, u2, l2, x3, x4, u5, F⟩, ?_, ⟨w2, hF, hold, w0, w1, w3, w4, by dsimp only; omega, by dsimp only; omega⟩⟩
  match c, hcl, hu0, hu1, hu2, hu3, hu4, hu5 with
  | [c0, c1, c2, c3, c4, c5], _, hu0, hu1, hu2, hu3, hu4, hu5 =>
    cases hu0; cases hu1; cases hu2; cases hu3; cases hu4; cases hu5
    rfl
theorem open_wops {H : Type} {enc : TypeId × Value → H} {w : World} {r : Reach} {b0 : Nat} {v : Value} {d : DataW H} {ps : List MemPlace} (hk : Rows.uptoBulk d ≤ 1048576) (hval : Value.okWide Tryz.prog w r b0 49 v) (hd : DataW.Trod enc Tryz.prog w 0 (fun _ => true) true 49 v d ps) :
    ∃ os, Wops w v os ∧ os.length + 1 ≤ Rows.uptoBulk d := by
  obtain ⟨fs, hu, hone, hsz, hC, f0, f1, f2, f3, f4, f5⟩ := wopFields
  obtain ⟨fuel, hf⟩ := hd
  unfold Value.okWide at hval
  simp only [Tryz.underlying49] at hval
  rcases open_rows Tryz.underlying49 hu hone (by rw [hsz]; kernel_rfl) hf with ⟨hc, hx⟩ | ⟨a, len, cap, D, rest, hc, hlc, hcm, hx, hel⟩
  · have hv : v = .slice none 0 0 := by cases v <;> simp_all [Value.cells, Cell.okWide, Cell.ok, Tryz.underlying49]
    subst hv
    simp only at hx
    subst hx
    exact ⟨[], ⟨Sl.nil w 6, fun o ho => nomatch ho⟩, by simp [Rows.uptoBulk]⟩
  · have hv : v = .slice (some a) len cap := by cases v <;> simp_all [Value.cells, Cell.okWide, Cell.ok, Tryz.underlying49]
    subst hv
    simp only at hx
    subst hx
    simp [Cell.okWide, Cell.ok, Tryz.underlying49] at hval
    obtain ⟨_, _, _, hspot, _⟩ := hval
    rw [hsz] at hel
    have hbm : ∀ i, i < len → Rows.uptoBulk (D i) ≤ 1048576 := fun i hi => by
      have h2 : Rows.uptoBulk (D i) ≤ Rows.uptoBulkAll ((List.range len).map D) := bulk_mem (List.mem_map.2 ⟨i, by simp; omega, rfl⟩)
      simp only [Rows.uptoBulk] at hk
      omega
    obtain ⟨os, hol, hos⟩ := list_of (Q := fun i (o : Wop) => (∀ j u, o.cells[j]? = some u → w.cell? (a.add (i * 6 + j)) = some u) ∧ OkWop w o) len fun i hi => by
      obtain ⟨c, ys, n, hcl, hD, hyl, hcell, hfield⟩ := hel i hi
      have hky := hbm i hi
      rw [hD] at hky
      simp only [Rows.uptoBulk] at hky
      obtain ⟨o, h1, h2⟩ := wop_of (c := c) (ys := ys) (n := n) hcl (by omega) fun j t hj ht => by
        have hfj : (fs[j]?).map (·.type) = some t := by
          rw [ht]
          obtain rfl | rfl | rfl | rfl | rfl | rfl : j = 0 ∨ j = 1 ∨ j = 2 ∨ j = 3 ∨ j = 4 ∨ j = 5 := by omega
          · exact f0
          · exact f1
          · exact f2
          · exact f3
          · exact f4
          · exact f5
        obtain ⟨f, hfi, hft⟩ := Option.map_eq_some_iff.1 hfj
        subst hft
        exact hfield j f hfi
      exact ⟨o, fun j u hj => hcell j u (by rw [h1]; exact hj), h2⟩
    refine ⟨os, ⟨⟨some a, cap, by rw [hol], wlen6 os, by rw [hol]; exact hlc, by unfold maxLen at hcm; omega, (fun h => nomatch h), fun ad had => ?_⟩, fun o ho => ?_⟩, ?_⟩
    · cases had
      refine ⟨fun _ => hspot, fun j u hj => ?_⟩
      have hjl : j < os.length * 6 := by
        have := (List.getElem?_eq_some_iff.1 hj).1
        rwa [wlen6] at this
      have hi : j / 6 < os.length := by omega
      have hat := wflat_at6 os (j / 6) (j % 6) hi (by omega)
      have hdm : j / 6 * 6 + j % 6 = j := by omega
      rw [hdm, hj] at hat
      have := (hos (j / 6) hi).1 (j % 6) u hat.symm
      rw [hdm] at this
      obtain ⟨ab, ao, sp⟩ := a
      simp only at hspot
      subst hspot
      rwa [Addr.add_lit] at this
    · obtain ⟨i, hi, rfl⟩ := List.getElem_of_mem ho
      exact (hos i hi).2
    · have := bulk_each ((List.range len).map D) fun d _ => bulk_pos d
      simp only [List.length_map, List.length_range] at this
      simp only [Rows.uptoBulk]
      omega
end Go.Proofs.YtfepggdljhiemaaGreatDoor
