import Derived.Test.YtkedbphdflhhlaaRowA
import Derived.Test.YtkedbphdflhhlaaOpA
import Derived.Deep.Slices
import Derived.Deep.Fields
/-! A slice of structs of one-cell fields opened; a script opened. -/
set_option linter.unusedVariables false
set_option linter.unusedSimpArgs false
set_option maxRecDepth 100000
namespace Go.Proofs.Ytkedbphdflhhlaa
open Go.ChangeShapes Go.WideShapes Go.ChangeAt Go.RowKit Gw Go.Deep

theorem list_of {α : Type} {Q : Nat → α → Prop} : ∀ (n : Nat), (∀ i, i < n → ∃ x, Q i x) → ∃ l : List α, l.length = n ∧ ∀ (i : Nat) (hi : i < l.length), Q i l[i]
  | 0, _ => ⟨[], rfl, fun i hi => absurd hi (Nat.not_lt_zero _)⟩
  | n + 1, h => by
    obtain ⟨l, hl, hq⟩ := list_of (Q := Q) n fun i hi => h i (by omega)
    obtain ⟨x, hx⟩ := h n (by omega)
    refine ⟨l ++ [x], by simp [hl], fun i hi => ?_⟩
    by_cases hin : i < l.length
    · rw [List.getElem_append_left hin]
      exact hq i hin
    · have : i = l.length := by simp at hi; omega
      subst this
      rw [List.getElem_append_right (Nat.le_refl _)]
      simpa [hl] using hx

section
variable {H : Type} {enc : TypeId × Value → H} {P : Program} {w : World} {base : Nat} {spare : Nat → Bool} {held : Bool}
theorem open_rows {t e : TypeId} {fs : Array Field} {fuel : Nat} {cs : List Value} {x : DataW H × List MemPlace} (ht : P.underlying t = some (.slice e)) (he : P.underlying e = some (.struct fs))
    (hone : oneCellFields P fs = true) (hC : P.cellsOf e = fs.size) (h : DataW.trod enc P w base spare held fuel t cs = some x) :
    (cs = [.slice none 0 0] ∧ x.1 = .nil) ∨
    ∃ (a : Addr) (len cap : Nat) (D : Nat → DataW H) (rest : List (DataW H)), cs = [.slice (some a) len cap] ∧ len ≤ cap ∧ cap ≤ maxLen ∧ x.1 = .slice ((List.range len).map D) rest ∧
      ∀ i, i < len → ∃ (c : List Value) (ys : List (DataW H)) (n : Nat), c.length = fs.size ∧ D i = .agg ys ∧ ys.length = fs.size ∧ (∀ j u, c[j]? = some u → w.cell? (a.add (i * fs.size + j)) = some u) ∧
        ∀ (j : Nat) (f : Field), fs[j]? = some f → ∃ u d p, c[j]? = some u ∧ ys[j]? = some d ∧ DataW.trod enc P w base spare held n f.type [u] = some (d, p) := by
  rcases open_slice ht h with ⟨h1, h2⟩ | ⟨a, len, cap, m, n, D, Pl, hcs, _, hl, hm, hmm, hx, hi⟩
  · exact .inl ⟨h1, by rw [h2]⟩
  · refine .inr ⟨a, len, cap, D, _, hcs, hl, hm, by rw [hx], fun i him => ?_⟩
    obtain ⟨c, hc, htr⟩ := hi i (by rw [hmm]; split <;> omega)
    rw [hC] at hc
    obtain ⟨ys, n', _, hy, _, hyl, hf⟩ := DataW.trod_struct he htr
    obtain ⟨_, hcl, hat⟩ := World.cells?_some hc
    simp only [Prod.mk.injEq] at hy
    refine ⟨c, ys.map (·.1), n', hcl, hy.1, by simpa using hyl, fun j u hu => ?_, fun j f hj => ?_⟩
    · have hj : j < fs.size := by have := (List.getElem?_eq_some_iff.1 hu).1; omega
      have := hat j hj
      rw [add_add] at this
      rw [this, hu]
    · obtain ⟨ho, hk⟩ := hone_of hone j f hj
      have hjl : j < fs.size := (Array.getElem?_eq_some_iff.1 hj).1
      have h1 := hf j f hj
      rw [ho, hk] at h1
      have h2 : (c.drop j).take 1 = [c[j]'(by omega)] := by
        rw [List.drop_eq_getElem_cons (by omega)]
        rfl
      have hys : ys[j]? = some (ys[j]'(by omega)) := List.getElem?_eq_getElem (by omega)
      rw [h2, hys] at h1
      exact ⟨_, (ys[j]'(by omega)).1, (ys[j]'(by omega)).2, List.getElem?_eq_getElem (by omega), by rw [List.getElem?_map, hys]; rfl, h1⟩
end

/-- bytes that lie anywhere -/
theorem open_bytes {H : Type} {enc : TypeId × Value → H} {w : World} {n : Nat} {u : Value} {d : DataW H} {p : List MemPlace} (h : DataW.trod enc Try.prog w 0 (fun _ => true) true n 23 [u] = some (d, p)) :
    ∃ (ao : Option Addr) (cap : Nat) (l : List UInt8), u = .slice ao l.length cap ∧ Bs w u l ∧ l.length + 1 ≤ Rows.uptoBulk d := by
  rcases open_ints Try.underlying23 Try.underlying5 (by kernel_rfl) h with ⟨hc, hx⟩ | ⟨a, len, cap, zs, hc, _, hlc, hcm, hz, hx, hcell, hw⟩
  · simp only [Prod.mk.injEq] at hx
    obtain ⟨rfl, _⟩ := hx
    obtain rfl : u = .slice none 0 0 := by simpa using hc
    exact ⟨none, 0, [], rfl, Sl.nil w 1, by simp [Rows.uptoBulk]⟩
  · obtain rfl : u = .slice (some a) len cap := by simpa using hc
    simp only [Prod.mk.injEq] at hx
    obtain ⟨rfl, _⟩ := hx
    simp only [if_true] at hz
    have hlt : (zs.take len).length = len := by simp; omega
    have hspot : 0 < cap → a.spot = none := fun h0 => by
      have := World.cell?_spot (hcell 0 (by omega))
      simpa [Addr.add] using this
    refine ⟨some a, cap, (zs.take len).map fun z => UInt8.ofNat z.toNat, by rw [List.length_map, hlt], ⟨some a, cap, by rw [List.length_map, hlt], ?_, by rw [List.length_map, hlt]; exact hlc, ?_, (fun h => nomatch h), fun ad had => ?_⟩, ?_⟩
    · simp [bv]
    · unfold maxLen at hcm; omega
    · cases had
      refine ⟨hspot, fun j u hj => ?_⟩
      simp only [bv, List.map_map, List.getElem?_map, Option.map_eq_some_iff] at hj
      obtain ⟨z, hzj, rfl⟩ := hj
      have hj2 : j < len := by have := (List.getElem?_eq_some_iff.1 hzj).1; simp at this; omega
      have hj3 : zs[j]? = some z := by rw [List.getElem?_take_of_lt hj2] at hzj; exact hzj
      have hjz : j < zs.length := (List.getElem?_eq_some_iff.1 hj3).1
      have h1 := hcell j hjz
      have h2 : zs.getD j 0 = z := by simp [List.getD, hj3]
      have h3 := hw z (List.mem_of_getElem? hj3)
      have h4 : 0 ≤ z ∧ z ≤ 255 := by simpa [Lit.wf, IntKind.min, IntKind.max, IntKind.signed, IntKind.bits] using h3
      rw [h2] at h1
      have hsp := hspot (by omega)
      obtain ⟨ab, ao, sp⟩ := a
      simp only at hsp
      subst hsp
      rw [Addr.add_lit] at h1
      simp only [Function.comp]
      rw [h1]
      simp only [Option.some.injEq, Value.int.injEq, true_and]
      rw [UInt8.toNat_ofNat']
      omega
    · have := bulk_len (lits (H := H) .u8 (zs.take len))
      simp only [lits, List.length_map] at this
      simp only [Rows.uptoBulk, List.length_map]
      unfold lits
      omega

theorem bulk_bytes {H : Type} : ∀ (os : List Opr) (E : List (DataW H)), os.length = E.length → (∀ (i : Nat) (hi : i < os.length) (hj : i < E.length), os[i].l.length + 1 ≤ Rows.uptoBulk E[i]) → (os.map fun o => o.l.length).sum + os.length ≤ Rows.uptoBulkAll E
  | [], E, _, _ => by simp
  | o :: os, [], h, _ => by simp at h
  | o :: os, d :: E, h, hb => by
    have h0 := hb 0 (by simp) (by simp)
    have h1 := bulk_bytes os E (by simpa using h) fun i hi hj => by
      have := hb (i + 1) (by simp; omega) (by simp; omega)
      simp only [List.getElem_cons_succ] at this
      exact this
    simp only [List.getElem_cons_zero] at h0
    simp only [List.map_cons, List.sum_cons, List.length_cons, Rows.uptoBulkAll]
    omega

theorem len4 : ∀ os : List Opr, (os.flatMap opCells).length = os.length * 4
  | [] => rfl
  | o :: os => by
    rw [List.flatMap_cons, List.length_append, len4 os, List.length_cons]
    show 4 + os.length * 4 = _
    omega

theorem opFields : ∃ fs : Array Field, Try.prog.underlying 49 = some (.struct fs) ∧ oneCellFields Try.prog fs = true ∧ fs.size = 4 ∧ (fs[0]?).map (·.type) = some 3 ∧ (fs[1]?).map (·.type) = some 22 ∧ (fs[2]?).map (·.type) = some 3 ∧ (fs[3]?).map (·.type) = some 23 :=
  ⟨_, Try.underlying49, by kernel_rfl, by kernel_rfl, by kernel_rfl, by kernel_rfl, by kernel_rfl, by kernel_rfl⟩

theorem open_ops {H : Type} {enc : TypeId × Value → H} {w : World} {r : Reach} {b0 : Nat} {v : Value} {d : DataW H} {ps : List MemPlace} (hval : Value.okWide Try.prog w r b0 46 v) (hd : DataW.Trod enc Try.prog w 0 (fun _ => true) true 46 v d ps) :
    ∃ os, Oprs w v os ∧ (os.map fun o => o.l.length).sum + os.length + 1 ≤ Rows.uptoBulk d := by
  obtain ⟨fs, hu, hone, hsz, f0, f1, f2, f3⟩ := opFields
  obtain ⟨fuel, hf⟩ := hd
  unfold Value.okWide at hval
  simp only [Try.underlying46] at hval
  rcases open_rows Try.underlying46 hu hone (by rw [hsz]; kernel_rfl) hf with ⟨hc, hx⟩ | ⟨a, len, cap, D, rest, hc, hlc, hcm, hx, hel⟩
  · have hv : v = .slice none 0 0 := by cases v <;> simp_all [Value.cells, Cell.okWide, Cell.ok, Try.underlying46]
    subst hv
    simp only at hx
    subst hx
    exact ⟨[], ⟨Sl.nil w 4, fun o ho => nomatch ho⟩, by simp [Rows.uptoBulk]⟩
  · have hv : v = .slice (some a) len cap := by cases v <;> simp_all [Value.cells, Cell.okWide, Cell.ok, Try.underlying46]
    subst hv
    simp only at hx
    subst hx
    simp [Cell.okWide, Cell.ok, Try.underlying46] at hval
    obtain ⟨_, _, _, hspot, _⟩ := hval
    rw [hsz] at hel
    obtain ⟨os, hol, hos⟩ := list_of (Q := fun i (o : Opr) => (∀ j u, (opCells o)[j]? = some u → w.cell? (a.add (i * 4 + j)) = some u) ∧ OkOp w o ∧ o.l.length + 1 ≤ Rows.uptoBulk (D i)) len fun i hi => by
      obtain ⟨c, ys, n, hcl, hD, hyl, hcell, hfield⟩ := hel i hi
      have fld : ∀ (j : Nat) (t : TypeId), (fs[j]?).map (·.type) = some t → ∃ u d p, c[j]? = some u ∧ ys[j]? = some d ∧ DataW.trod enc Try.prog w 0 (fun _ => true) true n t [u] = some (d, p) := fun j t hj => by
        obtain ⟨f, hfj, hft⟩ := Option.map_eq_some_iff.1 hj
        subst hft
        exact hfield j f hfj
      obtain ⟨u0, y0, p0, hu0, hy0, t0⟩ := fld 0 _ f0
      obtain ⟨u1, y1, p1, hu1, hy1, t1⟩ := fld 1 _ f1
      obtain ⟨u2, y2, p2, hu2, hy2, t2⟩ := fld 2 _ f2
      obtain ⟨u3, y3, p3, hu3, hy3, t3⟩ := fld 3 _ f3
      obtain ⟨n0, e0, _, w0⟩ := DataW.trod_int Try.underlying3 t0
      obtain ⟨n1, e1, _, w1⟩ := DataW.trod_int Try.underlying22 t1
      obtain ⟨n2, e2, _, w2⟩ := DataW.trod_int Try.underlying3 t2
      obtain ⟨ao, k, l, e3, hb, hbk⟩ := open_bytes t3
      obtain rfl : u0 = .int .i64 n0 := by simpa using e0
      obtain rfl : u1 = .int .u64 n1 := by simpa using e1
      obtain rfl : u2 = .int .i64 n2 := by simpa using e2
      subst e3
      have w0b : -9223372036854775808 ≤ n0 ∧ n0 ≤ 9223372036854775807 := by simpa [Lit.wf, IntKind.min, IntKind.max, IntKind.signed, IntKind.bits] using w0
      have w1b : 0 ≤ n1 ∧ n1 ≤ 18446744073709551615 := by simpa [Lit.wf, IntKind.min, IntKind.max, IntKind.signed, IntKind.bits] using w1
      have w2b : -9223372036854775808 ≤ n2 ∧ n2 ≤ 9223372036854775807 := by simpa [Lit.wf, IntKind.min, IntKind.max, IntKind.signed, IntKind.bits] using w2
      obtain ⟨m1, rfl⟩ := Int.eq_ofNat_of_zero_le w1b.1
      refine ⟨⟨n0, m1, n2, ao, k, l⟩, fun j u hj => ?_, ⟨hb, by dsimp only; omega, w0b.1, w0b.2, w2b.1, w2b.2⟩, ?_⟩
      · have hj4 : j < 4 := by have := (List.getElem?_eq_some_iff.1 hj).1; simpa [opCells] using this
        refine hcell j u ?_
        obtain rfl | rfl | rfl | rfl : j = 0 ∨ j = 1 ∨ j = 2 ∨ j = 3 := by omega
        · rw [hu0]; exact hj
        · rw [hu1]; exact hj
        · rw [hu2]; exact hj
        · rw [hu3]; exact hj
      · have h1 : Rows.uptoBulk y3 ≤ Rows.uptoBulkAll ys := by
          have hm : y3 ∈ ys := List.mem_of_getElem? hy3
          clear hcell hfield fld hyl hy0 hy1 hy2 hy3 hD
          induction ys with
          | nil => cases hm
          | cons z zs ih =>
            simp only [Rows.uptoBulkAll]
            rcases List.mem_cons.1 hm with rfl | h
            · omega
            · have := ih h; omega
        rw [hD]
        simp only [Rows.uptoBulk]
        omega
    refine ⟨os, ⟨⟨some a, cap, by rw [hol], ?_, by rw [hol]; exact hlc, by unfold maxLen at hcm; omega, (fun h => nomatch h), fun ad had => ?_⟩, fun o ho => ?_⟩, ?_⟩
    · exact len4 os
    · cases had
      refine ⟨fun _ => hspot, fun j u hj => ?_⟩
      have hjl : j < os.length * 4 := by
        have := (List.getElem?_eq_some_iff.1 hj).1
        rwa [len4] at this
      have hi : j / 4 < os.length := by omega
      have hat := flatMap_at (f := opCells) (fun _ => rfl) os (j / 4) (j % 4) hi (by omega)
      have hdm : j / 4 * 4 + j % 4 = j := by omega
      rw [hdm, hj] at hat
      have := (hos (j / 4) hi).1 (j % 4) u hat.symm
      rw [hdm] at this
      obtain ⟨ab, ao, sp⟩ := a
      simp only at hspot
      subst hspot
      rwa [Addr.add_lit] at this
    · obtain ⟨i, hi, rfl⟩ := List.getElem_of_mem ho
      exact (hos i hi).2.1
    · have := bulk_bytes os ((List.range len).map D) (by simp [hol]) fun i hi hj => by simpa using (hos i hi).2.2
      simp only [Rows.uptoBulk]
      omega
end Go.Proofs.Ytkedbphdflhhlaa
