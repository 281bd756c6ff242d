import Derived.Test.YtfepggdljhiemaaGreatDoorRows
import Derived.Test.YtfepggdljhiemaaGreatDoorGOct
import Derived.WalkKit
import Derived.ProofKit
import Derived.OpenShut
import Derived.JoinedCond
import Derived.Carry
import Derived.Test.YtfepggdljhiemaaGreatDoorGOn
import Derived.Deep.Slices
import Derived.Deep.Fields
import Derived.Test.YtfepggdljhiemaaGreatDoorGDk
import Derived.Test.YtfepggdljhiemaaGreatDoorGDi
/-! What every row of this seat needs: the arguments read in the new world as they read, the answer is true; a slice of bytes opened. -/
set_option linter.unusedVariables false
set_option linter.unusedSimpArgs false
set_option maxRecDepth 100000
namespace Go.Proofs.YtfepggdljhiemaaGreatDoor
open Go.ChangeShapes Go.WideShapes Go.ChangeAt Go.RowKit Gw

theorem own : ownKnob Tryz.prog.godebug = none := by kernel_rfl
theorem laidOut : laidOutB Tryz.prog = true := by kernel_rfl

section
variable {H : Type} {enc : TypeId × Value → H} {P : Program}
theorem trodAll_stays (hl : laidOutB P = true) {W W' : World} (hb : Below W.heap.size W W') : ∀ {ts : List TypeId} {vs : List Value} {ds : List (DataW H)} {ps : List MemPlace},
    (∀ t ∈ ts, P.readableRec t = true ∧ t < P.types.size) → DataW.TrodAll enc P W 0 (fun _ => true) true ts vs ds ps → (∀ x ∈ ps, x.block < W.heap.size) →
    DataW.TrodAll enc P W' 0 (fun b => decide (b < W.heap.size)) true ts vs ds ps
  | [], _, _, _, _, h, _ => by
    obtain ⟨rfl, rfl, rfl⟩ := trodAll_nil h
    exact trodAll_mk0
  | t :: ts, _, _, _, ht, h, hp => by
    obtain ⟨v, vs1, d, ds1, a, b, rfl, rfl, rfl, h1, h2⟩ := trodAll_cons h
    exact trodAll_cons_mk (Below.trod hl (ht t (by simp)).1 (ht t (by simp)).2 h1 hb (fun x hx => hp x (by simp [hx]))) (trodAll_stays hl hb (fun u hu => ht u (by simp [hu])) h2 (fun x hx => hp x (by simp [hx])))

theorem law_post {f : Func} {s : ChangeSpec} {W W' : World} {args : Array Value} {ds gs : List (DataW H)} {before : List MemPlace} (hl : laidOutB P = true) {t4 : TypeId} (hb4 : P.underlying t4 = some .bool) (hres : f.resultTypes = #[t4]) (hsv : s.vars = [])
    (hts : (f.params.toList.all fun t => P.readableRec t && decide (t < P.types.size)) = true)
    (hW : DataW.Whole enc P f.params.toList s.vars false W args.toList ds gs before) (hfn : s.fn H ds = { results := [.lit (.bool true)], args := ds }) (hB : Below W.heap.size W W') :
    s.post enc P f false true false false W args (.bool true) W' := by
  have hW' := hW
  obtain ⟨p, q, hA, hV, rfl, hfz, hnd⟩ := hW
  rw [hsv] at hV
  obtain ⟨rfl, rfl⟩ := trodVars_none hV
  have hlt : ∀ x ∈ p, x.block < W.heap.size := fun x hx => by simpa using hW'.lt x (by simp [hx])
  refine ⟨ds, [], p ++ [], [], p, [], hW', ?_, ?_, ?_, hB.frame _, fun h => by cases h⟩
  · rw [List.append_nil, hfn, hres]
    exact trodAll_mk1 (shut_bool hb4 true)
  · rw [List.append_nil, hfn]
    refine trodAll_stays hl hB (fun t ht => ?_) hA hlt
    have := List.all_eq_true.1 hts t ht
    simpa using this
  · rw [List.append_nil, hfn, hsv]
    rfl

theorem bulk_one {H : Type} (d : DataW H) : 1 ≤ Rows.uptoBulk d := by
  cases d with
  | lit l => cases l <;> simp [Rows.uptoBulk]
  | nil => simp [Rows.uptoBulk]
  | ptr d => simp [Rows.uptoBulk]
  | slice elems spare => simp [Rows.uptoBulk]
  | agg parts => simp [Rows.uptoBulk]
  | iface t d => simp [Rows.uptoBulk]
  | map entries => simp [Rows.uptoBulk]
  | held h => simp [Rows.uptoBulk]
theorem bulk_len {H : Type} (l : List (DataW H)) : l.length ≤ Rows.uptoBulkAll l := by
  induction l with
  | nil => simp [Rows.uptoBulkAll]
  | cons x r ih => have := bulk_one x; simp only [Rows.uptoBulkAll, List.length_cons]; omega
end

/-- a slice of bytes that an argument is, and its bulk -/
theorem open_bs {H : Type} {enc : TypeId × Value → H} {w : World} {r : Reach} {b0 : Nat} {v : Value} {d : DataW H} {ps : List MemPlace} (hval : Value.okWide Tryz.prog w r b0 33 v) (hd : DataW.Trod enc Tryz.prog w 0 (fun _ => true) true 33 v d ps) :
    ∃ l, Bs w v l ∧ l.length + 1 ≤ Rows.uptoBulk d := by
  obtain ⟨fuel, hf⟩ := hd
  unfold Value.okWide at hval
  simp only [Tryz.underlying33] at hval
  rcases open_ints Tryz.underlying33 Tryz.underlying5 (by kernel_rfl) hf with ⟨hc, hx⟩ | ⟨a, len, cap, zs, hc, _, hlc, hcm, hz, hx, hcell, hw⟩
  · have hv : v = .slice none 0 0 := by cases v <;> simp_all [Value.cells, Cell.okWide, Cell.ok, Tryz.underlying33]
    subst hv
    simp only [Prod.mk.injEq] at hx
    obtain ⟨rfl, _⟩ := hx
    exact ⟨[], Sl.nil w 1, by simp [Rows.uptoBulk]⟩
  · have hv : v = .slice (some a) len cap := by cases v <;> simp_all [Value.cells, Cell.okWide, Cell.ok, Tryz.underlying33]
    subst hv
    simp only [Prod.mk.injEq] at hx
    obtain ⟨rfl, _⟩ := hx
    simp [Cell.okWide, Cell.ok, Tryz.underlying33] at hval
    obtain ⟨_, _, _, hspot, _⟩ := hval
    simp only [if_true] at hz
    have hlt : (zs.take len).length = len := by simp; omega
    refine ⟨(zs.take len).map fun z => UInt8.ofNat z.toNat, ⟨some a, cap, by rw [List.length_map, hlt], ?_, by rw [List.length_map, hlt]; exact hlc, ?_, (fun h => nomatch h), fun ad had => ?_⟩, ?_⟩
    · simp [bv]
    · unfold maxLen at hcm; omega
    · cases had
      refine ⟨fun _ => hspot, fun j u hj => ?_⟩
      simp only [bv, List.map_map, List.getElem?_map, Option.map_eq_some_iff] at hj
      obtain ⟨z, hzj, rfl⟩ := hj
      have hj2 : j < len := by have := (List.getElem?_eq_some_iff.1 hzj).1; simp at this; omega
      have hj3 : zs[j]? = some z := by rw [List.getElem?_take_of_lt hj2] at hzj; exact hzj
      have hjz : j < zs.length := (List.getElem?_eq_some_iff.1 hj3).1
      have h1 := hcell j hjz
      have h2 : zs.getD j 0 = z := by simp [List.getD, hj3]
      have h3 := hw z (List.mem_of_getElem? hj3)
      have h4 : 0 ≤ z ∧ z ≤ 255 := by simpa [Lit.wf, IntKind.min, IntKind.max, IntKind.signed, IntKind.bits] using h3
      rw [h2] at h1
      obtain ⟨ab, ao, sp⟩ := a
      simp only at hspot
      subst hspot
      simp only [Addr.add] at h1
      simp only [Function.comp]
      have he : (if j = 0 then (⟨ab, ao, none⟩ : Addr) else ⟨ab, ao + j, none⟩) = ⟨ab, ao + j, none⟩ := by split <;> simp_all
      rw [he] at h1
      rw [h1]
      simp only [Option.some.injEq, Value.int.injEq, true_and]
      rw [UInt8.toNat_ofNat']
      omega
    · have := bulk_len (lits (H := H) .u8 (zs.take len))
      simp only [lits, List.length_map] at this
      simp only [Rows.uptoBulk, List.length_map]
      unfold lits
      omega
end Go.Proofs.YtfepggdljhiemaaGreatDoor

/-! A slice of structs of one-cell fields opened; a script opened. -/
namespace Go.Proofs.YtfepggdljhiemaaGreatDoor
open Go.ChangeShapes Go.WideShapes Go.ChangeAt Go.RowKit Gw Go.Deep

theorem list_of {α : Type} {Q : Nat → α → Prop} : ∀ (n : Nat), (∀ i, i < n → ∃ x, Q i x) → ∃ l : List α, l.length = n ∧ ∀ (i : Nat) (hi : i < l.length), Q i l[i]
  | 0, _ => ⟨[], rfl, fun i hi => absurd hi (Nat.not_lt_zero _)⟩
  | n + 1, h => by
    obtain ⟨l, hl, hq⟩ := list_of (Q := Q) n fun i hi => h i (by omega)
    obtain ⟨x, hx⟩ := h n (by omega)
    refine ⟨l ++ [x], by simp [hl], fun i hi => ?_⟩
    by_cases hin : i < l.length
    · rw [List.getElem_append_left hin]
      exact hq i hin
    · have : i = l.length := by simp at hi; omega
      subst this
      rw [List.getElem_append_right (Nat.le_refl _)]
      simpa [hl] using hx

section
variable {H : Type} {enc : TypeId × Value → H} {P : Program} {w : World} {base : Nat} {spare : Nat → Bool} {held : Bool}
theorem open_rows {t e : TypeId} {fs : Array Field} {fuel : Nat} {cs : List Value} {x : DataW H × List MemPlace} (ht : P.underlying t = some (.slice e)) (he : P.underlying e = some (.struct fs))
    (hone : oneCellFields P fs = true) (hC : P.cellsOf e = fs.size) (h : DataW.trod enc P w base spare held fuel t cs = some x) :
    (cs = [.slice none 0 0] ∧ x.1 = .nil) ∨
    ∃ (a : Addr) (len cap : Nat) (D : Nat → DataW H) (rest : List (DataW H)), cs = [.slice (some a) len cap] ∧ len ≤ cap ∧ cap ≤ maxLen ∧ x.1 = .slice ((List.range len).map D) rest ∧
      ∀ i, i < len → ∃ (c : List Value) (ys : List (DataW H)) (n : Nat), c.length = fs.size ∧ D i = .agg ys ∧ ys.length = fs.size ∧ (∀ j u, c[j]? = some u → w.cell? (a.add (i * fs.size + j)) = some u) ∧
        ∀ (j : Nat) (f : Field), fs[j]? = some f → ∃ u d p, c[j]? = some u ∧ ys[j]? = some d ∧ DataW.trod enc P w base spare held n f.type [u] = some (d, p) := by
  rcases open_slice ht h with ⟨h1, h2⟩ | ⟨a, len, cap, m, n, D, Pl, hcs, _, hl, hm, hmm, hx, hi⟩
  · exact .inl ⟨h1, by rw [h2]⟩
  · refine .inr ⟨a, len, cap, D, _, hcs, hl, hm, by rw [hx], fun i him => ?_⟩
    obtain ⟨c, hc, htr⟩ := hi i (by rw [hmm]; split <;> omega)
    rw [hC] at hc
    obtain ⟨ys, n', _, hy, _, hyl, hf⟩ := DataW.trod_struct he htr
    obtain ⟨_, hcl, hat⟩ := World.cells?_some hc
    simp only [Prod.mk.injEq] at hy
    refine ⟨c, ys.map (·.1), n', hcl, hy.1, by simpa using hyl, fun j u hu => ?_, fun j f hj => ?_⟩
    · have hj : j < fs.size := by have := (List.getElem?_eq_some_iff.1 hu).1; omega
      have := hat j hj
      rw [add_add] at this
      rw [this, hu]
    · obtain ⟨ho, hk⟩ := hone_of hone j f hj
      have hjl : j < fs.size := (Array.getElem?_eq_some_iff.1 hj).1
      have h1 := hf j f hj
      rw [ho, hk] at h1
      have h2 : (c.drop j).take 1 = [c[j]'(by omega)] := by
        rw [List.drop_eq_getElem_cons (by omega)]
        rfl
      have hys : ys[j]? = some (ys[j]'(by omega)) := List.getElem?_eq_getElem (by omega)
      rw [h2, hys] at h1
      exact ⟨_, (ys[j]'(by omega)).1, (ys[j]'(by omega)).2, List.getElem?_eq_getElem (by omega), by rw [List.getElem?_map, hys]; rfl, h1⟩
end

/-- bytes that lie anywhere -/
theorem open_bytes {H : Type} {enc : TypeId × Value → H} {w : World} {n : Nat} {u : Value} {d : DataW H} {p : List MemPlace} (h : DataW.trod enc Tryz.prog w 0 (fun _ => true) true n 33 [u] = some (d, p)) :
    ∃ (ao : Option Addr) (cap : Nat) (l : List UInt8), u = .slice ao l.length cap ∧ Bs w u l ∧ l.length + 1 ≤ Rows.uptoBulk d := by
  rcases open_ints Tryz.underlying33 Tryz.underlying5 (by kernel_rfl) h with ⟨hc, hx⟩ | ⟨a, len, cap, zs, hc, _, hlc, hcm, hz, hx, hcell, hw⟩
  · simp only [Prod.mk.injEq] at hx
    obtain ⟨rfl, _⟩ := hx
    obtain rfl : u = .slice none 0 0 := by simpa using hc
    exact ⟨none, 0, [], rfl, Sl.nil w 1, by simp [Rows.uptoBulk]⟩
  · obtain rfl : u = .slice (some a) len cap := by simpa using hc
    simp only [Prod.mk.injEq] at hx
    obtain ⟨rfl, _⟩ := hx
    simp only [if_true] at hz
    have hlt : (zs.take len).length = len := by simp; omega
    have hspot : 0 < cap → a.spot = none := fun h0 => by
      have := World.cell?_spot (hcell 0 (by omega))
      simpa [Addr.add] using this
    refine ⟨some a, cap, (zs.take len).map fun z => UInt8.ofNat z.toNat, by rw [List.length_map, hlt], ⟨some a, cap, by rw [List.length_map, hlt], ?_, by rw [List.length_map, hlt]; exact hlc, ?_, (fun h => nomatch h), fun ad had => ?_⟩, ?_⟩
    · simp [bv]
    · unfold maxLen at hcm; omega
    · cases had
      refine ⟨hspot, fun j u hj => ?_⟩
      simp only [bv, List.map_map, List.getElem?_map, Option.map_eq_some_iff] at hj
      obtain ⟨z, hzj, rfl⟩ := hj
      have hj2 : j < len := by have := (List.getElem?_eq_some_iff.1 hzj).1; simp at this; omega
      have hj3 : zs[j]? = some z := by rw [List.getElem?_take_of_lt hj2] at hzj; exact hzj
      have hjz : j < zs.length := (List.getElem?_eq_some_iff.1 hj3).1
      have h1 := hcell j hjz
      have h2 : zs.getD j 0 = z := by simp [List.getD, hj3]
      have h3 := hw z (List.mem_of_getElem? hj3)
      have h4 : 0 ≤ z ∧ z ≤ 255 := by simpa [Lit.wf, IntKind.min, IntKind.max, IntKind.signed, IntKind.bits] using h3
      rw [h2] at h1
      have hsp := hspot (by omega)
      obtain ⟨ab, ao, sp⟩ := a
      simp only at hsp
      subst hsp
      rw [Addr.add_lit] at h1
      simp only [Function.comp]
      rw [h1]
      simp only [Option.some.injEq, Value.int.injEq, true_and]
      rw [UInt8.toNat_ofNat']
      omega
    · have := bulk_len (lits (H := H) .u8 (zs.take len))
      simp only [lits, List.length_map] at this
      simp only [Rows.uptoBulk, List.length_map]
      unfold lits
      omega

theorem bulk_bytes {H : Type} : ∀ (os : List Opr) (E : List (DataW H)), os.length = E.length → (∀ (i : Nat) (hi : i < os.length) (hj : i < E.length), os[i].l.length + 1 ≤ Rows.uptoBulk E[i]) → (os.map fun o => o.l.length).sum + os.length ≤ Rows.uptoBulkAll E
  | [], E, _, _ => by simp
  | o :: os, [], h, _ => by simp at h
  | o :: os, d :: E, h, hb => by
    have h0 := hb 0 (by simp) (by simp)
    have h1 := bulk_bytes os E (by simpa using h) fun i hi hj => by
      have := hb (i + 1) (by simp; omega) (by simp; omega)
      simp only [List.getElem_cons_succ] at this
      exact this
    simp only [List.getElem_cons_zero] at h0
    simp only [List.map_cons, List.sum_cons, List.length_cons, Rows.uptoBulkAll]
    omega

theorem len4 : ∀ os : List Opr, (os.flatMap opCells).length = os.length * 4
  | [] => rfl
  | o :: os => by
    rw [List.flatMap_cons, List.length_append, len4 os, List.length_cons]
    show 4 + os.length * 4 = _
    omega

end Go.Proofs.YtfepggdljhiemaaGreatDoor

/-! What the laws of disks take, opened: a tear. -/
namespace Go.Proofs.YtfepggdljhiemaaGreatDoor
open Go.ChangeShapes Go.WideShapes Go.ChangeAt Go.RowKit Gw Go.Deep

section
variable {H : Type} {enc : TypeId × Value → H} {P : Program} {w : World} {base : Nat} {spare : Nat → Bool} {held : Bool}
/-- one field of one cell -/
theorem fld1 {fs : Array Field} {n : Nat} {cs : List Value} {xs : List (DataW H × List MemPlace)} {t : TypeId} {j o : Nat}
    (hx : xs.length = fs.size) (hg : ∀ (i : Nat) (f : Field), fs[i]? = some f → DataW.trod enc P w base spare held n f.type ((cs.drop f.offset).take (P.cellsOf f.type)) = xs[i]?)
    (hf : (fs[j]?).map (fun f => (f.type, f.offset)) = some (t, o)) (ho : P.cellsOf t = 1) (hl : o < cs.length) :
    ∃ y, xs[j]? = some y ∧ DataW.trod enc P w base spare held n t [cs[o]] = some y := by
  obtain ⟨f, hfj, hft⟩ := Option.map_eq_some_iff.1 hf
  cases hft
  have h1 := hg j f hfj
  have hj : j < xs.length := by rw [hx]; exact (Array.getElem?_eq_some_iff.1 hfj).1
  rw [ho, List.drop_eq_getElem_cons hl, List.take_succ_cons, List.take_zero, List.getElem?_eq_getElem hj] at h1
  exact ⟨_, List.getElem?_eq_getElem hj, h1⟩
/-- one field of many cells -/
theorem fldN {fs : Array Field} {n : Nat} {cs : List Value} {xs : List (DataW H × List MemPlace)} {t : TypeId} {j o m : Nat}
    (hx : xs.length = fs.size) (hg : ∀ (i : Nat) (f : Field), fs[i]? = some f → DataW.trod enc P w base spare held n f.type ((cs.drop f.offset).take (P.cellsOf f.type)) = xs[i]?)
    (hf : (fs[j]?).map (fun f => (f.type, f.offset)) = some (t, o)) (ho : P.cellsOf t = m) :
    ∃ y, xs[j]? = some y ∧ DataW.trod enc P w base spare held n t ((cs.drop o).take m) = some y := by
  obtain ⟨f, hfj, hft⟩ := Option.map_eq_some_iff.1 hf
  cases hft
  have h1 := hg j f hfj
  have hj : j < xs.length := by rw [hx]; exact (Array.getElem?_eq_some_iff.1 hfj).1
  rw [ho, List.getElem?_eq_getElem hj] at h1
  exact ⟨_, List.getElem?_eq_getElem hj, h1⟩
/-- an int -/
theorem trod_i64 {n : Nat} {t : TypeId} {u : Value} {y : DataW H × List MemPlace} (ht : P.underlying t = some (.int .i64)) (h : DataW.trod enc P w base spare held n t [u] = some y) :
    ∃ x : Int, u = .int .i64 x ∧ y.1 = .lit (.int .i64 x) ∧ -9223372036854775808 ≤ x ∧ x ≤ 9223372036854775807 := by
  obtain ⟨x, e, hy, wf⟩ := DataW.trod_int ht h
  have : -9223372036854775808 ≤ x ∧ x ≤ 9223372036854775807 := by simpa [Lit.wf, IntKind.min, IntKind.max, IntKind.signed, IntKind.bits] using wf
  exact ⟨x, by simpa using e, by rw [hy], this⟩
end
theorem fateFields : ∃ fs : Array Field, Tryz.prog.underlying 186 = some (.struct fs) ∧ fs.size = 2 ∧ Tryz.prog.cellsOf 186 = 2 ∧ (fs[0]?).map (fun f => (f.type, f.offset)) = some (184, 0) ∧ (fs[1]?).map (fun f => (f.type, f.offset)) = some (3, 1) :=
  ⟨_, Tryz.underlying186, by kernel_rfl, by kernel_rfl, by kernel_rfl, by kernel_rfl⟩
theorem trod_fate {H : Type} {enc : TypeId × Value → H} {w : World} {n : Nat} {cs : List Value} {y : DataW H × List MemPlace} (h : DataW.trod enc Tryz.prog w 0 (fun _ => true) true n 186 cs = some y) :
    ∃ k a : Int, cs = [.int .i64 k, .int .i64 a] := by
  obtain ⟨fs, hu, hsz, hC, f0, f1⟩ := fateFields
  obtain ⟨xs, m, rfl, hy, hl, hxl, hg⟩ := DataW.trod_struct hu h
  rw [hC] at hl
  have c1 : Tryz.prog.cellsOf 184 = 1 := by kernel_rfl
  have c2 : Tryz.prog.cellsOf 3 = 1 := by kernel_rfl
  obtain ⟨y0, _, t0⟩ := fld1 hxl hg f0 c1 (by omega)
  obtain ⟨y1, _, t1⟩ := fld1 hxl hg f1 c2 (by omega)
  obtain ⟨k, e0, _⟩ := trod_i64 Tryz.underlying184 t0
  obtain ⟨a, e1, _⟩ := trod_i64 Tryz.underlying3 t1
  match cs, hl, e0, e1 with
  | [c0, c1], _, e0, e1 => exact ⟨k, a, by simp at e0 e1; rw [e0, e1]⟩
end Go.Proofs.YtfepggdljhiemaaGreatDoor

/-! What the laws of disks take, opened: fates, operations, scripts. -/
namespace Go.Proofs.YtfepggdljhiemaaGreatDoor
open Go.ChangeShapes Go.WideShapes Go.ChangeAt Go.RowKit Gw Go.Deep

theorem bulk_each {H : Type} : ∀ (E : List (DataW H)), (∀ d ∈ E, 1 ≤ Rows.uptoBulk d) → E.length ≤ Rows.uptoBulkAll E
  | [], _ => Nat.le_refl _
  | d :: E, h => by
    have h1 := h d (List.mem_cons_self ..)
    have h2 := bulk_each E fun x hx => h x (List.mem_cons_of_mem _ hx)
    simp only [List.length_cons, Rows.uptoBulkAll]
    omega
theorem bulk_pos {H : Type} (d : DataW H) : 1 ≤ Rows.uptoBulk d := by
  cases d with
  | lit l => cases l <;> simp [Rows.uptoBulk]
  | nil => simp [Rows.uptoBulk]
  | ptr d => simp [Rows.uptoBulk]
  | slice a b => simp [Rows.uptoBulk]
  | agg a => simp [Rows.uptoBulk]
  | iface a b => simp [Rows.uptoBulk]
  | map a => simp [Rows.uptoBulk]
  | held a => simp [Rows.uptoBulk]
theorem bulk_mem {H : Type} {d : DataW H} : ∀ {E : List (DataW H)}, d ∈ E → Rows.uptoBulk d ≤ Rows.uptoBulkAll E
  | e :: E, h => by
    simp only [Rows.uptoBulkAll]
    rcases List.mem_cons.1 h with rfl | h
    · omega
    · have := bulk_mem h; omega
/-- fates that lie anywhere -/
theorem open_fates {H : Type} {enc : TypeId × Value → H} {w : World} {n : Nat} {u : Value} {y : DataW H × List MemPlace} (h : DataW.trod enc Tryz.prog w 0 (fun _ => true) true n 56 [u] = some y) :
    ∃ (ao : Option Addr) (cap : Nat) (F : List (Int × Int)), u = .slice ao F.length cap ∧ Fs w u F ∧ F.length + 1 ≤ Rows.uptoBulk y.1 ∧ (F ≠ [] → ∀ b ∈ blks u, b < w.heap.size) := by
  rcases open_slice Tryz.underlying56 h with ⟨hc, rfl⟩ | ⟨a, len, cap, m, k, D, Pl, hc, _, hl, hm, hmm, rfl, hx⟩
  · obtain rfl : u = .slice none 0 0 := by simpa using hc
    exact ⟨none, 0, [], rfl, Sl.nil w 2, by simp [Rows.uptoBulk], by simp⟩
  · obtain rfl : u = .slice (some a) len cap := by simpa using hc
    simp only [if_true] at hmm
    subst hmm
    have hC : Tryz.prog.cellsOf 186 = 2 := by kernel_rfl
    have hcells : ∀ i, i < m → ∃ x : Int × Int, w.cell? (a.add (i * 2)) = some (.int .i64 x.1) ∧ w.cell? (a.add (i * 2 + 1)) = some (.int .i64 x.2) := fun i hi => by
      obtain ⟨cs', h1, h2⟩ := hx i hi
      obtain ⟨kk, aa, rfl⟩ := trod_fate h2
      rw [hC] at h1
      obtain ⟨_, hlen, hat⟩ := World.cells?_some h1
      have c0 := hat 0 (by omega)
      have c1 := hat 1 (by omega)
      rw [add_add] at c0 c1
      exact ⟨(kk, aa), by simpa using c0, by simpa using c1⟩
    have hspot : 0 < m → a.spot = none := fun h0 => by
      obtain ⟨x, h1, _⟩ := hcells 0 h0
      have := World.cell?_spot h1
      simpa [Addr.add] using this
    obtain ⟨F, hFl, hF⟩ := list_of (Q := fun i (x : Int × Int) => w.cell? (a.add (i * 2)) = some (.int .i64 x.1) ∧ w.cell? (a.add (i * 2 + 1)) = some (.int .i64 x.2)) len fun i hi => hcells i (by omega)
    have hcell : ∀ j u, (fcells F)[j]? = some u → w.cell? (a.add j) = some u := fun j u hj => by
      have hjl : j < F.length * 2 := by have := (List.getElem?_eq_some_iff.1 hj).1; rwa [fcells_len] at this
      have hi : j / 2 < F.length := by omega
      obtain ⟨h1, h2⟩ := hF (j / 2) hi
      obtain ⟨f1, f2⟩ := fcells_at F (j / 2) hi
      rcases Nat.mod_two_eq_zero_or_one j with h0 | h0
      · have e : j / 2 * 2 = j := by omega
        rw [e] at h1 f1
        rw [f1] at hj
        rw [h1, ← Option.some.inj hj]
      · have e : j / 2 * 2 + 1 = j := by omega
        rw [e] at h2 f2
        rw [f2] at hj
        rw [h2, ← Option.some.inj hj]
    have hFs : Fs w (.slice (some a) len m) F := by
      refine ⟨some a, m, by rw [hFl], by rw [fcells_len], by omega, by unfold maxLen at hm; omega, (fun h => nomatch h), fun ad had => ?_⟩
      cases had
      refine ⟨hspot, fun j u hj => ?_⟩
      have h0 : 0 < m := by
        have := (List.getElem?_eq_some_iff.1 hj).1
        rw [fcells_len] at this
        omega
      have h1 := hcell j u hj
      have hs := hspot h0
      obtain ⟨ab, ao, sp⟩ := a
      simp only at hs
      subst hs
      rwa [Addr.add_lit] at h1
    refine ⟨some a, m, F, by rw [hFl], hFs, ?_, fun hne b hb => Sl.lt hFs (by intro h0; have := congrArg List.length h0; rw [fcells_len] at this; exact hne (List.eq_nil_of_length_eq_zero (by simp only [List.length_nil] at this; omega))) b hb⟩
    have := bulk_each ((List.range len).map D) fun d _ => bulk_pos d
    simp only [List.length_map, List.length_range] at this
    simp only [Rows.uptoBulk]
    omega
/-- an operation of a script of disks -/
structure Dop where
  d : Int
  n : Int
  a : Int
  x : Int
  le : Int
  fv : Value
  F : List (Int × Int)
def Dop.cells (o : Dop) : List Value := [.int .i64 o.d, .int .i64 o.n, .int .i64 o.a, .int .i64 o.x, .int .i64 o.le, o.fv]
def i64 (x : Int) : Prop := -9223372036854775808 ≤ x ∧ x ≤ 9223372036854775807
structure OkDop (w : World) (o : Dop) : Prop where
  fs : Fs w o.fv o.F
  old : o.F ≠ [] → ∀ b ∈ blks o.fv, b < w.heap.size
  d : i64 o.d
  n : i64 o.n
  a : i64 o.a
  x : i64 o.x
  le : i64 o.le
theorem dop_of {H : Type} {enc : TypeId × Value → H} {w : World} {c : List Value} {ys : List (DataW H)} {n : Nat} (hcl : c.length = 6)
    (fld : ∀ (j : Nat) (t : TypeId), j < 6 → t = (if j = 5 then 56 else 3) → ∃ u d p, c[j]? = some u ∧ ys[j]? = some d ∧ DataW.trod enc Tryz.prog w 0 (fun _ => true) true n t [u] = some (d, p)) :
    ∃ o : Dop, c = o.cells ∧ OkDop w o ∧ o.F.length + 1 ≤ Rows.uptoBulkAll ys := by
  obtain ⟨u0, y0, p0, hu0, hy0, t0⟩ := fld 0 _ (by omega) rfl
  obtain ⟨u1, y1, p1, hu1, hy1, t1⟩ := fld 1 _ (by omega) rfl
  obtain ⟨u2, y2, p2, hu2, hy2, t2⟩ := fld 2 _ (by omega) rfl
  obtain ⟨u3, y3, p3, hu3, hy3, t3⟩ := fld 3 _ (by omega) rfl
  obtain ⟨u4, y4, p4, hu4, hy4, t4⟩ := fld 4 _ (by omega) rfl
  obtain ⟨u5, y5, p5, hu5, hy5, t5⟩ := fld 5 _ (by omega) rfl
  obtain ⟨x0, rfl, _, w0⟩ := trod_i64 Tryz.underlying3 t0
  obtain ⟨x1, rfl, _, w1⟩ := trod_i64 Tryz.underlying3 t1
  obtain ⟨x2, rfl, _, w2⟩ := trod_i64 Tryz.underlying3 t2
  obtain ⟨x3, rfl, _, w3⟩ := trod_i64 Tryz.underlying3 t3
  obtain ⟨x4, rfl, _, w4⟩ := trod_i64 Tryz.underlying3 t4
  obtain ⟨ao, cap, F, _, hF, hb, hold⟩ := open_fates t5
  refine ⟨⟨x0, x1, x2, x3, x4, u5, F⟩, ?_, ⟨hF, hold, w0, w1, w2, w3, w4⟩, Nat.le_trans hb (bulk_mem (List.mem_of_getElem? hy5))⟩
  match c, hcl, hu0, hu1, hu2, hu3, hu4, hu5 with
  | [c0, c1, c2, c3, c4, c5], _, hu0, hu1, hu2, hu3, hu4, hu5 =>
    cases hu0; cases hu1; cases hu2; cases hu3; cases hu4; cases hu5
    rfl
/-- a script of disks -/
def Dops (w : World) (v : Value) (os : List Dop) : Prop := Sl w 6 v os.length (os.flatMap Dop.cells) ∧ ∀ o ∈ os, OkDop w o
theorem len6 : ∀ os : List Dop, (os.flatMap Dop.cells).length = os.length * 6
  | [] => rfl
  | o :: os => by
    rw [List.flatMap_cons, List.length_append, len6 os, List.length_cons]
    show 6 + os.length * 6 = _
    omega
theorem flat_at6 : ∀ (os : List Dop) (i j : Nat) (hi : i < os.length) (hj : j < 6), (os.flatMap Dop.cells)[i * 6 + j]? = (os[i].cells)[j]?
  | o :: os, 0, j, _, hj => by
    rw [List.flatMap_cons, Nat.zero_mul, Nat.zero_add, List.getElem?_append_left (show j < o.cells.length from hj)]
    rfl
  | o :: os, i + 1, j, hi, hj => by
    have := flat_at6 os i j (by simpa using hi) hj
    rw [List.flatMap_cons, List.getElem?_append_right (by show 6 ≤ _; omega)]
    simp only [List.getElem_cons_succ]
    rw [← this]
    congr 1
    show (i + 1) * 6 + j - 6 = _
    omega
end Go.Proofs.YtfepggdljhiemaaGreatDoor

/-! What the laws of disks take, opened: fates alone, an image. -/
namespace Go.Proofs.YtfepggdljhiemaaGreatDoor
open Go.ChangeShapes Go.WideShapes Go.ChangeAt Go.RowKit Gw Go.Deep

theorem one_slice {w : World} {r : Reach} {b0 : Nat} {t e : TypeId} {v : Value} (ht : Tryz.prog.underlying t = some (.slice e)) (hval : Value.okWide Tryz.prog w r b0 t v) : v.cells = #[v] := by
  unfold Value.okWide at hval
  simp only [ht] at hval
  cases v <;> simp_all [Value.cells, Cell.okWide, Cell.ok]
theorem open_fs {H : Type} {enc : TypeId × Value → H} {w : World} {r : Reach} {b0 : Nat} {v : Value} {d : DataW H} {ps : List MemPlace} (hval : Value.okWide Tryz.prog w r b0 56 v) (hd : DataW.Trod enc Tryz.prog w 0 (fun _ => true) true 56 v d ps) :
    ∃ F, Fs w v F ∧ F.length + 1 ≤ Rows.uptoBulk d ∧ (F ≠ [] → ∀ b ∈ blks v, b < w.heap.size) := by
  obtain ⟨fuel, hf⟩ := hd
  rw [one_slice Tryz.underlying56 hval] at hf
  obtain ⟨ao, cap, F, _, h1, h2, h3⟩ := open_fates hf
  exact ⟨F, h1, h2, h3⟩
theorem open_img {H : Type} {enc : TypeId × Value → H} {w : World} {r : Reach} {b0 : Nat} {v : Value} {d : DataW H} {ps : List MemPlace} (hval : Value.okWide Tryz.prog w r b0 22 v) (hd : DataW.Trod enc Tryz.prog w 0 (fun _ => true) true 22 v d ps) :
    ∃ I, RowsR w v I ∧ I.length + 1 ≤ Rows.uptoBulk d ∧ ∀ p ∈ I, p.2.length + 1 ≤ Rows.uptoBulk d := by
  obtain ⟨fuel, hf⟩ := hd
  rw [one_slice Tryz.underlying22 hval] at hf
  rcases open_slice Tryz.underlying22 hf with ⟨hc, hx⟩ | ⟨a, len, cap, m, k, D, Pl, hc, _, hl, hm, hmm, hx0, hx⟩
  · obtain rfl : v = .slice none 0 0 := by simpa using hc
    simp only [Prod.mk.injEq] at hx
    obtain ⟨rfl, _⟩ := hx
    exact ⟨[], RowsR.nil w, by simp [Rows.uptoBulk], fun p hp => nomatch hp⟩
  · obtain rfl : v = .slice (some a) len cap := by simpa using hc
    simp only [if_true] at hmm
    subst hmm
    simp only [Prod.mk.injEq] at hx0
    obtain ⟨rfl, _⟩ := hx0
    have hC : Tryz.prog.cellsOf 33 = 1 := by kernel_rfl
    have hcells : ∀ i, i < m → ∃ x : Value × List UInt8, w.cell? (a.add i) = some x.1 ∧ Bs w x.1 x.2 ∧ (i < len → x.2.length + 1 ≤ Rows.uptoBulk (D i)) := fun i hi => by
      obtain ⟨cs', h1, h2⟩ := hx i hi
      rw [hC] at h1
      obtain ⟨_, hlen, hat⟩ := World.cells?_some h1
      obtain ⟨u, rfl⟩ : ∃ u, cs' = [u] := by
        match cs', hlen with
        | [u], _ => exact ⟨u, rfl⟩
      obtain ⟨ao, cp, l, _, hb, hk⟩ := open_bytes h2
      have c0 := hat 0 (by omega)
      rw [add_add] at c0
      exact ⟨(u, l), by simpa using c0, hb, fun _ => hk⟩
    have hspot : 0 < m → a.spot = none := fun h0 => by
      obtain ⟨x, h1, _⟩ := hcells 0 h0
      have := World.cell?_spot h1
      simpa [Addr.add] using this
    obtain ⟨I, hIl, hI⟩ := list_of (Q := fun i (x : Value × List UInt8) => w.cell? (a.add i) = some x.1 ∧ Bs w x.1 x.2 ∧ (i < len → x.2.length + 1 ≤ Rows.uptoBulk (D i))) len fun i hi => hcells i (by omega)
    refine ⟨I, ⟨⟨some a, m, by rw [hIl], by simp, by omega, by unfold maxLen at hm; omega, (fun h => nomatch h), fun ad had => ?_⟩, fun p hp => ?_⟩, ?_, fun p hp => ?_⟩
    · cases had
      refine ⟨hspot, fun j u hj => ?_⟩
      have hjl : j < I.length := by
        have := (List.getElem?_eq_some_iff.1 hj).1
        simpa using this
      have h1 := (hI j hjl).1
      rw [List.getElem?_map, List.getElem?_eq_getElem hjl] at hj
      have hj' : I[j].1 = u := by simpa using hj
      rw [hj'] at h1
      have hs := hspot (by omega)
      obtain ⟨ab, ao, sp⟩ := a
      simp only at hs
      subst hs
      rwa [Addr.add_lit] at h1
    · obtain ⟨i, hi, rfl⟩ := List.getElem_of_mem hp
      exact (hI i hi).2.1
    · have := bulk_each ((List.range len).map D) fun d _ => bulk_pos d
      simp only [List.length_map, List.length_range] at this
      simp only [Rows.uptoBulk]
      omega
    · obtain ⟨i, hi, rfl⟩ := List.getElem_of_mem hp
      have h1 := (hI i hi).2.2 (by omega)
      have h2 : Rows.uptoBulk (D i) ≤ Rows.uptoBulkAll ((List.range len).map D) := bulk_mem (List.mem_map.2 ⟨i, by simp; omega, rfl⟩)
      simp only [Rows.uptoBulk]
      omega
end Go.Proofs.YtfepggdljhiemaaGreatDoor
