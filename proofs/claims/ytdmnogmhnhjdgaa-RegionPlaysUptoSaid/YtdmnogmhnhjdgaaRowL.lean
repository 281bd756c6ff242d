import Derived.Test.YtdmnogmhnhjdgaaGRw
import Derived.Test.YtdmnogmhnhjdgaaRiA
/-! What RegionPlays takes, opened: spans; scripts. -/
set_option linter.unusedVariables false
set_option linter.unusedSimpArgs false
set_option maxRecDepth 100000
namespace Go.Proofs.Ytdmnogmhnhjdgaa
open Go.ChangeShapes Go.WideShapes Go.ChangeAt Go.RowKit Gw Go.Deep

theorem spanFields : ∃ fs : Array Field, Try.prog.underlying 65 = some (.struct fs) ∧ fs.size = 2 ∧ Try.prog.cellsOf 65 = 2 ∧ (fs[0]?).map (fun f => (f.type, f.offset)) = some (3, 0) ∧ (fs[1]?).map (fun f => (f.type, f.offset)) = some (3, 1) :=
  ⟨_, Try.underlying65, by kernel_rfl, by kernel_rfl, by kernel_rfl, by kernel_rfl⟩
theorem trod_span {H : Type} {enc : TypeId × Value → H} {w : World} {n : Nat} {cs : List Value} {y : DataW H × List MemPlace} (h : DataW.trod enc Try.prog w 0 (fun _ => true) true n 65 cs = some y) :
    ∃ k a : Int, cs = [.int .i64 k, .int .i64 a] ∧ i64 k ∧ i64 a := by
  obtain ⟨fs, hu, hsz, hC, f0, f1⟩ := spanFields
  obtain ⟨xs, m, rfl, hy, hl, hxl, hg⟩ := DataW.trod_struct hu h
  rw [hC] at hl
  have c2 : Try.prog.cellsOf 3 = 1 := by kernel_rfl
  obtain ⟨y0, _, t0⟩ := fld1 hxl hg f0 c2 (by omega)
  obtain ⟨y1, _, t1⟩ := fld1 hxl hg f1 c2 (by omega)
  obtain ⟨k, e0, _, b0⟩ := trod_i64 Try.underlying3 t0
  obtain ⟨a, e1, _, b1⟩ := trod_i64 Try.underlying3 t1
  match cs, hl, e0, e1 with
  | [c0, c1], _, e0, e1 => exact ⟨k, a, by simp at e0 e1; rw [e0, e1], b0, b1⟩
theorem open_span {H : Type} {enc : TypeId × Value → H} {w : World} {r : Reach} {b0 : Nat} {v : Value} {d : DataW H} {ps : List MemPlace} (hval : Value.okWide Try.prog w r b0 65 v) (hd : DataW.Trod enc Try.prog w 0 (fun _ => true) true 65 v d ps) :
    ∃ x y : Int, v = .agg #[.int .i64 x, .int .i64 y] ∧ i64 x ∧ i64 y := by
  obtain ⟨fs, hu, hsz, hC, f0, f1⟩ := spanFields
  obtain ⟨ca, rfl, _⟩ := okWide_struct hu hval
  obtain ⟨fuel, hf⟩ := hd
  obtain ⟨x, y, h1, h2, h3⟩ := trod_span hf
  have h4 : ca.toList = [.int .i64 x, .int .i64 y] := h1
  exact ⟨x, y, by rw [← Array.toArray_toList (xs := ca), h4], h2, h3⟩
section
variable {H : Type} {enc : TypeId × Value → H} {P : Program} {w : World} {base : Nat} {spare : Nat → Bool} {held : Bool}
/-- a slice of structs whose fields have cells of their own -/
theorem open_rowsN {t e : TypeId} {fs : Array Field} {fuel C : Nat} {cs : List Value} {x : DataW H × List MemPlace} (ht : P.underlying t = some (.slice e)) (he : P.underlying e = some (.struct fs))
    (hC : P.cellsOf e = C) (h : DataW.trod enc P w base spare held fuel t cs = some x) :
    (cs = [.slice none 0 0] ∧ x.1 = .nil) ∨
    ∃ (a : Addr) (len cap : Nat) (D : Nat → DataW H) (rest : List (DataW H)), cs = [.slice (some a) len cap] ∧ len ≤ cap ∧ cap ≤ maxLen ∧ x.1 = .slice ((List.range len).map D) rest ∧
      ∀ i, i < len → ∃ (c : List Value) (xs : List (DataW H × List MemPlace)) (n : Nat), c.length = C ∧ D i = .agg (xs.map (·.1)) ∧ xs.length = fs.size ∧ (∀ j u, c[j]? = some u → w.cell? (a.add (i * C + j)) = some u) ∧
        ∀ (j : Nat) (f : Field), fs[j]? = some f → DataW.trod enc P w base spare held n f.type ((c.drop f.offset).take (P.cellsOf f.type)) = xs[j]? := by
  rcases open_slice ht h with ⟨h1, h2⟩ | ⟨a, len, cap, m, n, D, Pl, hcs, _, hl, hm, hmm, hx, hi⟩
  · exact .inl ⟨h1, by rw [h2]⟩
  · refine .inr ⟨a, len, cap, D, _, hcs, hl, hm, by rw [hx], fun i him => ?_⟩
    obtain ⟨c, hc, htr⟩ := hi i (by rw [hmm]; split <;> omega)
    rw [hC] at hc
    obtain ⟨ys, n', _, hy, _, hyl, hf⟩ := DataW.trod_struct he htr
    obtain ⟨_, hcl, hat⟩ := World.cells?_some hc
    simp only [Prod.mk.injEq] at hy
    refine ⟨c, ys, n', hcl, hy.1, hyl, fun j u hu => ?_, hf⟩
    have hj : j < C := by have := (List.getElem?_eq_some_iff.1 hu).1; omega
    have := hat j hj
    rw [add_add] at this
    rw [this, hu]
end
theorem gopFields : ∃ fs : Array Field, Try.prog.underlying 96 = some (.struct fs) ∧ fs.size = 7 ∧ Try.prog.cellsOf 96 = 8 ∧ (fs[0]?).map (fun f => (f.type, f.offset)) = some (3, 0) ∧ (fs[1]?).map (fun f => (f.type, f.offset)) = some (4, 1) ∧ (fs[2]?).map (fun f => (f.type, f.offset)) = some (3, 2) ∧ (fs[3]?).map (fun f => (f.type, f.offset)) = some (3, 3) ∧ (fs[4]?).map (fun f => (f.type, f.offset)) = some (35, 4) ∧ (fs[5]?).map (fun f => (f.type, f.offset)) = some (65, 5) ∧ (fs[6]?).map (fun f => (f.type, f.offset)) = some (23, 7) :=
  ⟨_, Try.underlying96, by kernel_rfl, by kernel_rfl, by kernel_rfl, by kernel_rfl, by kernel_rfl, by kernel_rfl, by kernel_rfl, by kernel_rfl, by kernel_rfl⟩
theorem gop_of {H : Type} {enc : TypeId × Value → H} {w : World} {fs : Array Field} {c : List Value} {xs : List (DataW H × List MemPlace)} {n : Nat} (hcl : c.length = 8) (hxl : xs.length = fs.size) (hk : Rows.uptoBulkAll (xs.map (·.1)) ≤ 1048576)
    (f0 : (fs[0]?).map (fun f => (f.type, f.offset)) = some (3, 0)) (f1 : (fs[1]?).map (fun f => (f.type, f.offset)) = some (4, 1)) (f2 : (fs[2]?).map (fun f => (f.type, f.offset)) = some (3, 2)) (f3 : (fs[3]?).map (fun f => (f.type, f.offset)) = some (3, 3)) (f4 : (fs[4]?).map (fun f => (f.type, f.offset)) = some (35, 4)) (f5 : (fs[5]?).map (fun f => (f.type, f.offset)) = some (65, 5)) (f6 : (fs[6]?).map (fun f => (f.type, f.offset)) = some (23, 7))
    (hg : ∀ (j : Nat) (f : Field), fs[j]? = some f → DataW.trod enc Try.prog w 0 (fun _ => true) true n f.type ((c.drop f.offset).take (Try.prog.cellsOf f.type)) = xs[j]?) :
    ∃ o : Gop, c = o.cells ∧ OkGop w o := by
  have c1 : Try.prog.cellsOf 3 = 1 := by kernel_rfl
  obtain ⟨y0, _, t0⟩ := fld1 hxl hg f0 c1 (by omega)
  obtain ⟨y1, _, t1⟩ := fld1 hxl hg f1 (by kernel_rfl) (by omega)
  obtain ⟨y2, _, t2⟩ := fld1 hxl hg f2 c1 (by omega)
  obtain ⟨y3, _, t3⟩ := fld1 hxl hg f3 c1 (by omega)
  obtain ⟨y4, hy4, t4⟩ := fld1 hxl hg f4 (by kernel_rfl) (by omega)
  obtain ⟨y5, _, t5⟩ := fldN (m := 2) hxl hg f5 (by kernel_rfl)
  obtain ⟨y6, hy6, t6⟩ := fld1 hxl hg f6 (by kernel_rfl) (by omega)
  obtain ⟨x0, e0, _, w0⟩ := trod_i64 Try.underlying3 t0
  obtain ⟨b, hb1, _⟩ := DataW.trod_bool Try.underlying4 t1
  obtain ⟨x2, e2, _, w2⟩ := trod_i64 Try.underlying3 t2
  obtain ⟨x3, e3, _, w3⟩ := trod_i64 Try.underlying3 t3
  obtain ⟨ao4, cap4, l, _, hb, hbl⟩ := open_bytes (d := y4.1) (p := y4.2) t4
  obtain ⟨s1, s2, e5, w5, w6⟩ := trod_span t5
  obtain ⟨ao, cap, F, _, hF, hbF, hold⟩ := open_fates t6
  have hbF' : F.length + 1 ≤ Rows.uptoBulk y6.1 := hbF
  have k4 := bulk_mem (List.mem_map.2 ⟨y4, List.mem_of_getElem? hy4, rfl⟩ : y4.1 ∈ xs.map (·.1))
  have k6 := bulk_mem (List.mem_map.2 ⟨y6, List.mem_of_getElem? hy6, rfl⟩ : y6.1 ∈ xs.map (·.1))
  have h8 : ∀ l : List Value, l.length = 8 → ∃ c0 c1 c2 c3 c4 c5 c6 c7, l = [c0, c1, c2, c3, c4, c5, c6, c7] := fun l hl => by
    match l, hl with
    | [c0, c1, c2, c3, c4, c5, c6, c7], _ => exact ⟨_, _, _, _, _, _, _, _, rfl⟩
  obtain ⟨c0, c1, c2, c3, c4, c5, c6, c7, rfl⟩ := h8 c hcl
  simp at e0 e2 e3 e5 hb1
  obtain ⟨rfl, rfl⟩ := e5
  subst e0 e2 e3 hb1
  exact ⟨⟨x0, b, x2, x3, c4, l, s1, s2, c7, F⟩, rfl, ⟨hb, hF, hold, w0, w2, w3, w5, w6, by dsimp only; omega, by dsimp only; omega⟩⟩
theorem open_gops {H : Type} {enc : TypeId × Value → H} {w : World} {r : Reach} {b0 : Nat} {v : Value} {d : DataW H} {ps : List MemPlace} (hk : Rows.uptoBulk d ≤ 1048576) (hval : Value.okWide Try.prog w r b0 86 v) (hd : DataW.Trod enc Try.prog w 0 (fun _ => true) true 86 v d ps) :
    ∃ os, Gops w v os ∧ os.length + 1 ≤ Rows.uptoBulk d := by
  obtain ⟨fs, hu, hsz, hC, f0, f1, f2, f3, f4, f5, f6⟩ := gopFields
  obtain ⟨fuel, hf⟩ := hd
  unfold Value.okWide at hval
  simp only [Try.underlying86] at hval
  rcases open_rowsN Try.underlying86 hu hC hf with ⟨hc, hx⟩ | ⟨a, len, cap, D, rest, hc, hlc, hcm, hx, hel⟩
  · have hv : v = .slice none 0 0 := by cases v <;> simp_all [Value.cells, Cell.okWide, Cell.ok, Try.underlying86]
    subst hv
    simp only at hx
    subst hx
    exact ⟨[], ⟨Sl.nil w 8, fun o ho => nomatch ho⟩, by simp [Rows.uptoBulk]⟩
  · have hv : v = .slice (some a) len cap := by cases v <;> simp_all [Value.cells, Cell.okWide, Cell.ok, Try.underlying86]
    subst hv
    simp only at hx
    subst hx
    simp [Cell.okWide, Cell.ok, Try.underlying86] at hval
    obtain ⟨_, _, _, hspot, _⟩ := hval
    have hbm : ∀ i, i < len → Rows.uptoBulk (D i) ≤ 1048576 := fun i hi => by
      have h2 : Rows.uptoBulk (D i) ≤ Rows.uptoBulkAll ((List.range len).map D) := bulk_mem (List.mem_map.2 ⟨i, by simp; omega, rfl⟩)
      simp only [Rows.uptoBulk] at hk
      omega
    obtain ⟨os, hol, hos⟩ := list_of (Q := fun i (o : Gop) => (∀ j u, o.cells[j]? = some u → w.cell? (a.add (i * 8 + j)) = some u) ∧ OkGop w o) len fun i hi => by
      obtain ⟨c, xs, n, hcl, hD, hxl, hcell, hg⟩ := hel i hi
      have hky := hbm i hi
      rw [hD] at hky
      simp only [Rows.uptoBulk] at hky
      obtain ⟨o, h1, h2⟩ := gop_of (c := c) (xs := xs) (n := n) hcl hxl (by omega) f0 f1 f2 f3 f4 f5 f6 hg
      exact ⟨o, fun j u hj => hcell j u (by rw [h1]; exact hj), h2⟩
    refine ⟨os, ⟨⟨some a, cap, by rw [hol], glen8 os, by rw [hol]; exact hlc, by unfold maxLen at hcm; omega, (fun h => nomatch h), fun ad had => ?_⟩, fun o ho => ?_⟩, ?_⟩
    · cases had
      refine ⟨fun _ => hspot, fun j u hj => ?_⟩
      have hjl : j < os.length * 8 := by
        have := (List.getElem?_eq_some_iff.1 hj).1
        rwa [glen8] at this
      have hi : j / 8 < os.length := by omega
      have hat := gflat_at8 os (j / 8) (j % 8) hi (by omega)
      have hdm : j / 8 * 8 + j % 8 = j := by omega
      rw [hdm, hj] at hat
      have := (hos (j / 8) hi).1 (j % 8) u hat.symm
      rw [hdm] at this
      obtain ⟨ab, ao, sp⟩ := a
      simp only at hspot
      subst hspot
      rwa [Addr.add_lit] at this
    · obtain ⟨i, hi, rfl⟩ := List.getElem_of_mem ho
      exact (hos i hi).2
    · have := bulk_each ((List.range len).map D) fun d _ => bulk_pos d
      simp only [List.length_map, List.length_range] at this
      simp only [Rows.uptoBulk]
      omega
end Go.Proofs.Ytdmnogmhnhjdgaa
