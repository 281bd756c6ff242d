import Derived.Test.YtdmnogmhnhjdgaaGRw
import Derived.Test.YtdmnogmhnhjdgaaRgM
/-! What the laws of regions take, opened: rows of Puts. -/
set_option linter.unusedVariables false
set_option linter.unusedSimpArgs false
set_option maxRecDepth 100000
namespace Go.Proofs.Ytdmnogmhnhjdgaa
open Go.ChangeShapes Go.WideShapes Go.ChangeAt Go.RowKit Gw Go.Deep

theorem putFields : ∃ fs : Array Field, Try.prog.underlying 69 = some (.struct fs) ∧ oneCellFields Try.prog fs = true ∧ fs.size = 2 ∧ Try.prog.cellsOf 69 = 2 ∧ (fs[0]?).map (·.type) = some 3 ∧ (fs[1]?).map (·.type) = some 35 :=
  ⟨_, Try.underlying69, by kernel_rfl, by kernel_rfl, by kernel_rfl, by kernel_rfl, by kernel_rfl⟩
def putT (j : Nat) : TypeId := if j = 1 then 35 else 3
theorem put_of {H : Type} {enc : TypeId × Value → H} {w : World} {c : List Value} {ys : List (DataW H)} {n : Nat} (hcl : c.length = 2) (hk : Rows.uptoBulkAll ys ≤ 1048576)
    (fld : ∀ (j : Nat) (t : TypeId), j < 2 → t = putT j → ∃ u d p, c[j]? = some u ∧ ys[j]? = some d ∧ DataW.trod enc Try.prog w 0 (fun _ => true) true n t [u] = some (d, p)) :
    ∃ o : Pt, c = o.cells ∧ OkPt w o := by
  obtain ⟨u0, y0, p0, hu0, hy0, t0⟩ := fld 0 _ (by omega) rfl
  obtain ⟨u3, y3, p3, hu3, hy3, t3⟩ := fld 1 _ (by omega) rfl
  obtain ⟨x0, rfl, _, w0⟩ := trod_i64 Try.underlying3 t0
  obtain ⟨ao3, cap3, l, _, hb, hbl⟩ := open_bytes t3
  have k3 := bulk_mem (List.mem_of_getElem? hy3)
  refine ⟨⟨x0, u3, l⟩, ?_, ⟨hb, w0, by dsimp only; omega⟩⟩
  match c, hcl, hu0, hu3 with
  | [c0, c1], _, hu0, hu3 =>
    cases hu0; cases hu3
    rfl
/-- a row of Puts -/
def Pts (w : World) (v : Value) (os : List Pt) : Prop := Sl w 2 v os.length (os.flatMap Pt.cells) ∧ ∀ o ∈ os, OkPt w o
theorem ptlen2 : ∀ os : List Pt, (os.flatMap Pt.cells).length = os.length * 2
  | [] => rfl
  | o :: os => by
    rw [List.flatMap_cons, List.length_append, ptlen2 os, List.length_cons]
    show 2 + os.length * 2 = _
    omega
theorem ptflat2 : ∀ (os : List Pt) (i j : Nat) (hi : i < os.length) (hj : j < 2), (os.flatMap Pt.cells)[i * 2 + j]? = (os[i].cells)[j]?
  | o :: os, 0, j, _, hj => by
    rw [List.flatMap_cons, Nat.zero_mul, Nat.zero_add, List.getElem?_append_left (show j < o.cells.length from hj)]
    rfl
  | o :: os, i + 1, j, hi, hj => by
    have := ptflat2 os i j (by simpa using hi) hj
    rw [List.flatMap_cons, List.getElem?_append_right (by show 2 ≤ _; omega)]
    simp only [List.getElem_cons_succ]
    rw [← this]
    congr 1
    show (i + 1) * 2 + j - 2 = _
    omega
theorem Pts.elem {w : World} {ao : Option Addr} {n cap : Nat} {os : List Pt} (h : Sl w 2 (.slice ao n cap) os.length (os.flatMap Pt.cells)) {i : Nat} (hi : i < os.length) :
    ∃ b o, ao = some ⟨b, o, none⟩ ∧ w.rangeAt b (o + i * 2) os[i].cells := by
  obtain ⟨b, o, c, hv, _, _, hc⟩ := h.at (fun h0 => by
    have := ptflat2 os i 0 hi (by omega)
    rw [h0] at this
    simp [Pt.cells] at this)
  injection hv with e1
  refine ⟨b, o, e1, fun j u hu => ?_⟩
  have hj : j < 2 := by have := (List.getElem?_eq_some_iff.1 hu).1; simpa [Pt.cells] using this
  have := hc (i * 2 + j) u (by rw [ptflat2 os i j hi hj]; exact hu)
  rwa [← Nat.add_assoc] at this
theorem open_puts {H : Type} {enc : TypeId × Value → H} {w : World} {r : Reach} {b0 : Nat} {v : Value} {d : DataW H} {ps : List MemPlace} (hk : Rows.uptoBulk d ≤ 1048576) (hval : Value.okWide Try.prog w r b0 57 v) (hd : DataW.Trod enc Try.prog w 0 (fun _ => true) true 57 v d ps) :
    ∃ os, Pts w v os ∧ os.length + 1 ≤ Rows.uptoBulk d := by
  obtain ⟨fs, hu, hone, hsz, hC, f0, f1⟩ := putFields
  obtain ⟨fuel, hf⟩ := hd
  unfold Value.okWide at hval
  simp only [Try.underlying57] at hval
  rcases open_rows Try.underlying57 hu hone (by rw [hsz]; kernel_rfl) hf with ⟨hc, hx⟩ | ⟨a, len, cap, D, rest, hc, hlc, hcm, hx, hel⟩
  · have hv : v = .slice none 0 0 := by cases v <;> simp_all [Value.cells, Cell.okWide, Cell.ok, Try.underlying57]
    subst hv
    simp only at hx
    subst hx
    exact ⟨[], ⟨Sl.nil w 2, fun o ho => nomatch ho⟩, by simp [Rows.uptoBulk]⟩
  · have hv : v = .slice (some a) len cap := by cases v <;> simp_all [Value.cells, Cell.okWide, Cell.ok, Try.underlying57]
    subst hv
    simp only at hx
    subst hx
    simp [Cell.okWide, Cell.ok, Try.underlying57] at hval
    obtain ⟨_, _, _, hspot, _⟩ := hval
    rw [hsz] at hel
    have hbm : ∀ i, i < len → Rows.uptoBulk (D i) ≤ 1048576 := fun i hi => by
      have h2 : Rows.uptoBulk (D i) ≤ Rows.uptoBulkAll ((List.range len).map D) := bulk_mem (List.mem_map.2 ⟨i, by simp; omega, rfl⟩)
      simp only [Rows.uptoBulk] at hk
      omega
    obtain ⟨os, hol, hos⟩ := list_of (Q := fun i (o : Pt) => (∀ j u, o.cells[j]? = some u → w.cell? (a.add (i * 2 + j)) = some u) ∧ OkPt w o) len fun i hi => by
      obtain ⟨c, ys, n, hcl, hD, hyl, hcell, hfield⟩ := hel i hi
      have hky := hbm i hi
      rw [hD] at hky
      simp only [Rows.uptoBulk] at hky
      obtain ⟨o, h1, h2⟩ := put_of (c := c) (ys := ys) (n := n) hcl (by omega) fun j t hj ht => by
        have hfj : (fs[j]?).map (·.type) = some t := by
          rw [ht]
          obtain rfl | rfl : j = 0 ∨ j = 1 := by omega
          · exact f0
          · exact f1
        obtain ⟨f, hfi, hft⟩ := Option.map_eq_some_iff.1 hfj
        subst hft
        exact hfield j f hfi
      exact ⟨o, fun j u hj => hcell j u (by rw [h1]; exact hj), h2⟩
    refine ⟨os, ⟨⟨some a, cap, by rw [hol], ptlen2 os, by rw [hol]; exact hlc, by unfold maxLen at hcm; omega, (fun h => nomatch h), fun ad had => ?_⟩, fun o ho => ?_⟩, ?_⟩
    · cases had
      refine ⟨fun _ => hspot, fun j u hj => ?_⟩
      have hjl : j < os.length * 2 := by
        have := (List.getElem?_eq_some_iff.1 hj).1
        rwa [ptlen2] at this
      have hi : j / 2 < os.length := by omega
      have hat := ptflat2 os (j / 2) (j % 2) hi (by omega)
      have hdm : j / 2 * 2 + j % 2 = j := by omega
      rw [hdm, hj] at hat
      have := (hos (j / 2) hi).1 (j % 2) u hat.symm
      rw [hdm] at this
      obtain ⟨ab, ao, sp⟩ := a
      simp only at hspot
      subst hspot
      rwa [Addr.add_lit] at this
    · obtain ⟨i, hi, rfl⟩ := List.getElem_of_mem ho
      exact (hos i hi).2
    · have := bulk_each ((List.range len).map D) fun d _ => bulk_pos d
      simp only [List.length_map, List.length_range] at this
      simp only [Rows.uptoBulk]
      omega
end Go.Proofs.Ytdmnogmhnhjdgaa
