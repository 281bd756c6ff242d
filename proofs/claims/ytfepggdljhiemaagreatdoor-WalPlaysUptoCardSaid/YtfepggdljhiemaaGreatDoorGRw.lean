import Derived.Test.YtfepggdljhiemaaGreatDoorRows
import Derived.Test.YtfepggdljhiemaaGreatDoorGOct
import Derived.WalkKit
import Derived.ProofKit
import Derived.OpenShut
import Derived.JoinedCond
import Derived.Carry
import Derived.Test.YtfepggdljhiemaaGreatDoorGOn
import Derived.Deep.Slices
import Derived.Deep.Fields
import Derived.Test.YtfepggdljhiemaaGreatDoorGDk
import Derived.Test.YtfepggdljhiemaaGreatDoorGDi
/-! What every row of this seat needs: the arguments read in the new world as they read, the answer is true; a slice of bytes opened. -/
set_option linter.unusedVariables false
set_option linter.unusedSimpArgs false
set_option maxRecDepth 100000
namespace Go.Proofs.YtfepggdljhiemaaGreatDoor
open Go.ChangeShapes Go.WideShapes Go.ChangeAt Go.RowKit Gw

theorem own : ownKnob Tryz.prog.godebug = none := by kernel_rfl
theorem laidOut : laidOutB Tryz.prog = true := by kernel_rfl

section
variable {H : Type} {enc : TypeId × Value → H} {P : Program}
theorem trodAll_stays (hl : laidOutB P = true) {W W' : World} (hb : Below W.heap.size W W') : ∀ {ts : List TypeId} {vs : List Value} {ds : List (DataW H)} {ps : List MemPlace},
    (∀ t ∈ ts, P.readableRec t = true ∧ t < P.types.size) → DataW.TrodAll enc P W 0 (fun _ => true) true ts vs ds ps → (∀ x ∈ ps, x.block < W.heap.size) →
    DataW.TrodAll enc P W' 0 (fun b => decide (b < W.heap.size)) true ts vs ds ps
  | [], _, _, _, _, h, _ => by
    obtain ⟨rfl, rfl, rfl⟩ := trodAll_nil h
    exact trodAll_mk0
  | t :: ts, _, _, _, ht, h, hp => by
    obtain ⟨v, vs1, d, ds1, a, b, rfl, rfl, rfl, h1, h2⟩ := trodAll_cons h
    exact trodAll_cons_mk (Below.trod hl (ht t (by simp)).1 (ht t (by simp)).2 h1 hb (fun x hx => hp x (by simp [hx]))) (trodAll_stays hl hb (fun u hu => ht u (by simp [hu])) h2 (fun x hx => hp x (by simp [hx])))

theorem law_post {f : Func} {s : ChangeSpec} {W W' : World} {args : Array Value} {ds gs : List (DataW H)} {before : List MemPlace} (hl : laidOutB P = true) {t4 : TypeId} (hb4 : P.underlying t4 = some .bool) (hres : f.resultTypes = #[t4]) (hsv : s.vars = [])
    (hts : (f.params.toList.all fun t => P.readableRec t && decide (t < P.types.size)) = true)
    (hW : DataW.Whole enc P f.params.toList s.vars false W args.toList ds gs before) (hfn : s.fn H ds = { results := [.lit (.bool true)], args := ds }) (hB : Below W.heap.size W W') :
    s.post enc P f false true false false W args (.bool true) W' := by
  have hW' := hW
  obtain ⟨p, q, hA, hV, rfl, hfz, hnd⟩ := hW
  rw [hsv] at hV
  obtain ⟨rfl, rfl⟩ := trodVars_none hV
  have hlt : ∀ x ∈ p, x.block < W.heap.size := fun x hx => by simpa using hW'.lt x (by simp [hx])
  refine ⟨ds, [], p ++ [], [], p, [], hW', ?_, ?_, ?_, hB.frame _, fun h => by cases h⟩
  · rw [List.append_nil, hfn, hres]
    exact trodAll_mk1 (shut_bool hb4 true)
  · rw [List.append_nil, hfn]
    refine trodAll_stays hl hB (fun t ht => ?_) hA hlt
    have := List.all_eq_true.1 hts t ht
    simpa using this
  · rw [List.append_nil, hfn, hsv]
    rfl

theorem bulk_one {H : Type} (d : DataW H) : 1 ≤ Rows.uptoBulk d := by
  cases d with
  | lit l => cases l <;> simp [Rows.uptoBulk]
  | nil => simp [Rows.uptoBulk]
  | ptr d => simp [Rows.uptoBulk]
  | slice elems spare => simp [Rows.uptoBulk]
  | agg parts => simp [Rows.uptoBulk]
  | iface t d => simp [Rows.uptoBulk]
  | map entries => simp [Rows.uptoBulk]
  | held h => simp [Rows.uptoBulk]
theorem bulk_len {H : Type} (l : List (DataW H)) : l.length ≤ Rows.uptoBulkAll l := by
  induction l with
  | nil => simp [Rows.uptoBulkAll]
  | cons x r ih => have := bulk_one x; simp only [Rows.uptoBulkAll, List.length_cons]; omega
end

end Go.Proofs.YtfepggdljhiemaaGreatDoor

/-! A slice of structs of one-cell fields opened; a script opened. -/
namespace Go.Proofs.YtfepggdljhiemaaGreatDoor
open Go.ChangeShapes Go.WideShapes Go.ChangeAt Go.RowKit Gw Go.Deep

theorem list_of {α : Type} {Q : Nat → α → Prop} : ∀ (n : Nat), (∀ i, i < n → ∃ x, Q i x) → ∃ l : List α, l.length = n ∧ ∀ (i : Nat) (hi : i < l.length), Q i l[i]
  | 0, _ => ⟨[], rfl, fun i hi => absurd hi (Nat.not_lt_zero _)⟩
  | n + 1, h => by
    obtain ⟨l, hl, hq⟩ := list_of (Q := Q) n fun i hi => h i (by omega)
    obtain ⟨x, hx⟩ := h n (by omega)
    refine ⟨l ++ [x], by simp [hl], fun i hi => ?_⟩
    by_cases hin : i < l.length
    · rw [List.getElem_append_left hin]
      exact hq i hin
    · have : i = l.length := by simp at hi; omega
      subst this
      rw [List.getElem_append_right (Nat.le_refl _)]
      simpa [hl] using hx

section
variable {H : Type} {enc : TypeId × Value → H} {P : Program} {w : World} {base : Nat} {spare : Nat → Bool} {held : Bool}
theorem open_rows {t e : TypeId} {fs : Array Field} {fuel : Nat} {cs : List Value} {x : DataW H × List MemPlace} (ht : P.underlying t = some (.slice e)) (he : P.underlying e = some (.struct fs))
    (hone : oneCellFields P fs = true) (hC : P.cellsOf e = fs.size) (h : DataW.trod enc P w base spare held fuel t cs = some x) :
    (cs = [.slice none 0 0] ∧ x.1 = .nil) ∨
    ∃ (a : Addr) (len cap : Nat) (D : Nat → DataW H) (rest : List (DataW H)), cs = [.slice (some a) len cap] ∧ len ≤ cap ∧ cap ≤ maxLen ∧ x.1 = .slice ((List.range len).map D) rest ∧
      ∀ i, i < len → ∃ (c : List Value) (ys : List (DataW H)) (n : Nat), c.length = fs.size ∧ D i = .agg ys ∧ ys.length = fs.size ∧ (∀ j u, c[j]? = some u → w.cell? (a.add (i * fs.size + j)) = some u) ∧
        ∀ (j : Nat) (f : Field), fs[j]? = some f → ∃ u d p, c[j]? = some u ∧ ys[j]? = some d ∧ DataW.trod enc P w base spare held n f.type [u] = some (d, p) := by
  rcases open_slice ht h with ⟨h1, h2⟩ | ⟨a, len, cap, m, n, D, Pl, hcs, _, hl, hm, hmm, hx, hi⟩
  · exact .inl ⟨h1, by rw [h2]⟩
  · refine .inr ⟨a, len, cap, D, _, hcs, hl, hm, by rw [hx], fun i him => ?_⟩
    obtain ⟨c, hc, htr⟩ := hi i (by rw [hmm]; split <;> omega)
    rw [hC] at hc
    obtain ⟨ys, n', _, hy, _, hyl, hf⟩ := DataW.trod_struct he htr
    obtain ⟨_, hcl, hat⟩ := World.cells?_some hc
    simp only [Prod.mk.injEq] at hy
    refine ⟨c, ys.map (·.1), n', hcl, hy.1, by simpa using hyl, fun j u hu => ?_, fun j f hj => ?_⟩
    · have hj : j < fs.size := by have := (List.getElem?_eq_some_iff.1 hu).1; omega
      have := hat j hj
      rw [add_add] at this
      rw [this, hu]
    · obtain ⟨ho, hk⟩ := hone_of hone j f hj
      have hjl : j < fs.size := (Array.getElem?_eq_some_iff.1 hj).1
      have h1 := hf j f hj
      rw [ho, hk] at h1
      have h2 : (c.drop j).take 1 = [c[j]'(by omega)] := by
        rw [List.drop_eq_getElem_cons (by omega)]
        rfl
      have hys : ys[j]? = some (ys[j]'(by omega)) := List.getElem?_eq_getElem (by omega)
      rw [h2, hys] at h1
      exact ⟨_, (ys[j]'(by omega)).1, (ys[j]'(by omega)).2, List.getElem?_eq_getElem (by omega), by rw [List.getElem?_map, hys]; rfl, h1⟩
end

/-- bytes that lie anywhere -/
theorem open_bytes {H : Type} {enc : TypeId × Value → H} {w : World} {n : Nat} {u : Value} {d : DataW H} {p : List MemPlace} (h : DataW.trod enc Tryz.prog w 0 (fun _ => true) true n 33 [u] = some (d, p)) :
    ∃ (ao : Option Addr) (cap : Nat) (l : List UInt8), u = .slice ao l.length cap ∧ Bs w u l ∧ l.length + 1 ≤ Rows.uptoBulk d := by
  rcases open_ints Tryz.underlying33 Tryz.underlying5 (by kernel_rfl) h with ⟨hc, hx⟩ | ⟨a, len, cap, zs, hc, _, hlc, hcm, hz, hx, hcell, hw⟩
  · simp only [Prod.mk.injEq] at hx
    obtain ⟨rfl, _⟩ := hx
    obtain rfl : u = .slice none 0 0 := by simpa using hc
    exact ⟨none, 0, [], rfl, Sl.nil w 1, by simp [Rows.uptoBulk]⟩
  · obtain rfl : u = .slice (some a) len cap := by simpa using hc
    simp only [Prod.mk.injEq] at hx
    obtain ⟨rfl, _⟩ := hx
    simp only [if_true] at hz
    have hlt : (zs.take len).length = len := by simp; omega
    have hspot : 0 < cap → a.spot = none := fun h0 => by
      have := World.cell?_spot (hcell 0 (by omega))
      simpa [Addr.add] using this
    refine ⟨some a, cap, (zs.take len).map fun z => UInt8.ofNat z.toNat, by rw [List.length_map, hlt], ⟨some a, cap, by rw [List.length_map, hlt], ?_, by rw [List.length_map, hlt]; exact hlc, ?_, (fun h => nomatch h), fun ad had => ?_⟩, ?_⟩
    · simp [bv]
    · unfold maxLen at hcm; omega
    · cases had
      refine ⟨hspot, fun j u hj => ?_⟩
      simp only [bv, List.map_map, List.getElem?_map, Option.map_eq_some_iff] at hj
      obtain ⟨z, hzj, rfl⟩ := hj
      have hj2 : j < len := by have := (List.getElem?_eq_some_iff.1 hzj).1; simp at this; omega
      have hj3 : zs[j]? = some z := by rw [List.getElem?_take_of_lt hj2] at hzj; exact hzj
      have hjz : j < zs.length := (List.getElem?_eq_some_iff.1 hj3).1
      have h1 := hcell j hjz
      have h2 : zs.getD j 0 = z := by simp [List.getD, hj3]
      have h3 := hw z (List.mem_of_getElem? hj3)
      have h4 : 0 ≤ z ∧ z ≤ 255 := by simpa [Lit.wf, IntKind.min, IntKind.max, IntKind.signed, IntKind.bits] using h3
      rw [h2] at h1
      have hsp := hspot (by omega)
      obtain ⟨ab, ao, sp⟩ := a
      simp only at hsp
      subst hsp
      rw [Addr.add_lit] at h1
      simp only [Function.comp]
      rw [h1]
      simp only [Option.some.injEq, Value.int.injEq, true_and]
      rw [UInt8.toNat_ofNat']
      omega
    · have := bulk_len (lits (H := H) .u8 (zs.take len))
      simp only [lits, List.length_map] at this
      simp only [Rows.uptoBulk, List.length_map]
      unfold lits
      omega

end Go.Proofs.YtfepggdljhiemaaGreatDoor

/-! What the laws of disks take, opened: a tear. -/
namespace Go.Proofs.YtfepggdljhiemaaGreatDoor
open Go.ChangeShapes Go.WideShapes Go.ChangeAt Go.RowKit Gw Go.Deep

section
variable {H : Type} {enc : TypeId × Value → H} {P : Program} {w : World} {base : Nat} {spare : Nat → Bool} {held : Bool}
/-- one field of one cell -/
theorem fld1 {fs : Array Field} {n : Nat} {cs : List Value} {xs : List (DataW H × List MemPlace)} {t : TypeId} {j o : Nat}
    (hx : xs.length = fs.size) (hg : ∀ (i : Nat) (f : Field), fs[i]? = some f → DataW.trod enc P w base spare held n f.type ((cs.drop f.offset).take (P.cellsOf f.type)) = xs[i]?)
    (hf : (fs[j]?).map (fun f => (f.type, f.offset)) = some (t, o)) (ho : P.cellsOf t = 1) (hl : o < cs.length) :
    ∃ y, xs[j]? = some y ∧ DataW.trod enc P w base spare held n t [cs[o]] = some y := by
  obtain ⟨f, hfj, hft⟩ := Option.map_eq_some_iff.1 hf
  cases hft
  have h1 := hg j f hfj
  have hj : j < xs.length := by rw [hx]; exact (Array.getElem?_eq_some_iff.1 hfj).1
  rw [ho, List.drop_eq_getElem_cons hl, List.take_succ_cons, List.take_zero, List.getElem?_eq_getElem hj] at h1
  exact ⟨_, List.getElem?_eq_getElem hj, h1⟩
/-- an int -/
theorem trod_i64 {n : Nat} {t : TypeId} {u : Value} {y : DataW H × List MemPlace} (ht : P.underlying t = some (.int .i64)) (h : DataW.trod enc P w base spare held n t [u] = some y) :
    ∃ x : Int, u = .int .i64 x ∧ y.1 = .lit (.int .i64 x) ∧ -9223372036854775808 ≤ x ∧ x ≤ 9223372036854775807 := by
  obtain ⟨x, e, hy, wf⟩ := DataW.trod_int ht h
  have : -9223372036854775808 ≤ x ∧ x ≤ 9223372036854775807 := by simpa [Lit.wf, IntKind.min, IntKind.max, IntKind.signed, IntKind.bits] using wf
  exact ⟨x, by simpa using e, by rw [hy], this⟩
end
theorem fateFields : ∃ fs : Array Field, Tryz.prog.underlying 186 = some (.struct fs) ∧ fs.size = 2 ∧ Tryz.prog.cellsOf 186 = 2 ∧ (fs[0]?).map (fun f => (f.type, f.offset)) = some (184, 0) ∧ (fs[1]?).map (fun f => (f.type, f.offset)) = some (3, 1) :=
  ⟨_, Tryz.underlying186, by kernel_rfl, by kernel_rfl, by kernel_rfl, by kernel_rfl⟩
theorem trod_fate {H : Type} {enc : TypeId × Value → H} {w : World} {n : Nat} {cs : List Value} {y : DataW H × List MemPlace} (h : DataW.trod enc Tryz.prog w 0 (fun _ => true) true n 186 cs = some y) :
    ∃ k a : Int, cs = [.int .i64 k, .int .i64 a] := by
  obtain ⟨fs, hu, hsz, hC, f0, f1⟩ := fateFields
  obtain ⟨xs, m, rfl, hy, hl, hxl, hg⟩ := DataW.trod_struct hu h
  rw [hC] at hl
  have c1 : Tryz.prog.cellsOf 184 = 1 := by kernel_rfl
  have c2 : Tryz.prog.cellsOf 3 = 1 := by kernel_rfl
  obtain ⟨y0, _, t0⟩ := fld1 hxl hg f0 c1 (by omega)
  obtain ⟨y1, _, t1⟩ := fld1 hxl hg f1 c2 (by omega)
  obtain ⟨k, e0, _⟩ := trod_i64 Tryz.underlying184 t0
  obtain ⟨a, e1, _⟩ := trod_i64 Tryz.underlying3 t1
  match cs, hl, e0, e1 with
  | [c0, c1], _, e0, e1 => exact ⟨k, a, by simp at e0 e1; rw [e0, e1]⟩
end Go.Proofs.YtfepggdljhiemaaGreatDoor

/-! What the laws of disks take, opened: fates, operations, scripts. -/
namespace Go.Proofs.YtfepggdljhiemaaGreatDoor
open Go.ChangeShapes Go.WideShapes Go.ChangeAt Go.RowKit Gw Go.Deep

theorem bulk_each {H : Type} : ∀ (E : List (DataW H)), (∀ d ∈ E, 1 ≤ Rows.uptoBulk d) → E.length ≤ Rows.uptoBulkAll E
  | [], _ => Nat.le_refl _
  | d :: E, h => by
    have h1 := h d (List.mem_cons_self ..)
    have h2 := bulk_each E fun x hx => h x (List.mem_cons_of_mem _ hx)
    simp only [List.length_cons, Rows.uptoBulkAll]
    omega
theorem bulk_pos {H : Type} (d : DataW H) : 1 ≤ Rows.uptoBulk d := by
  cases d with
  | lit l => cases l <;> simp [Rows.uptoBulk]
  | nil => simp [Rows.uptoBulk]
  | ptr d => simp [Rows.uptoBulk]
  | slice a b => simp [Rows.uptoBulk]
  | agg a => simp [Rows.uptoBulk]
  | iface a b => simp [Rows.uptoBulk]
  | map a => simp [Rows.uptoBulk]
  | held a => simp [Rows.uptoBulk]
theorem bulk_mem {H : Type} {d : DataW H} : ∀ {E : List (DataW H)}, d ∈ E → Rows.uptoBulk d ≤ Rows.uptoBulkAll E
  | e :: E, h => by
    simp only [Rows.uptoBulkAll]
    rcases List.mem_cons.1 h with rfl | h
    · omega
    · have := bulk_mem h; omega
/-- fates that lie anywhere -/
theorem open_fates {H : Type} {enc : TypeId × Value → H} {w : World} {n : Nat} {u : Value} {y : DataW H × List MemPlace} (h : DataW.trod enc Tryz.prog w 0 (fun _ => true) true n 56 [u] = some y) :
    ∃ (ao : Option Addr) (cap : Nat) (F : List (Int × Int)), u = .slice ao F.length cap ∧ Fs w u F ∧ F.length + 1 ≤ Rows.uptoBulk y.1 ∧ (F ≠ [] → ∀ b ∈ blks u, b < w.heap.size) := by
  rcases open_slice Tryz.underlying56 h with ⟨hc, rfl⟩ | ⟨a, len, cap, m, k, D, Pl, hc, _, hl, hm, hmm, rfl, hx⟩
  · obtain rfl : u = .slice none 0 0 := by simpa using hc
    exact ⟨none, 0, [], rfl, Sl.nil w 2, by simp [Rows.uptoBulk], by simp⟩
  · obtain rfl : u = .slice (some a) len cap := by simpa using hc
    simp only [if_true] at hmm
    subst hmm
    have hC : Tryz.prog.cellsOf 186 = 2 := by kernel_rfl
    have hcells : ∀ i, i < m → ∃ x : Int × Int, w.cell? (a.add (i * 2)) = some (.int .i64 x.1) ∧ w.cell? (a.add (i * 2 + 1)) = some (.int .i64 x.2) := fun i hi => by
      obtain ⟨cs', h1, h2⟩ := hx i hi
      obtain ⟨kk, aa, rfl⟩ := trod_fate h2
      rw [hC] at h1
      obtain ⟨_, hlen, hat⟩ := World.cells?_some h1
      have c0 := hat 0 (by omega)
      have c1 := hat 1 (by omega)
      rw [add_add] at c0 c1
      exact ⟨(kk, aa), by simpa using c0, by simpa using c1⟩
    have hspot : 0 < m → a.spot = none := fun h0 => by
      obtain ⟨x, h1, _⟩ := hcells 0 h0
      have := World.cell?_spot h1
      simpa [Addr.add] using this
    obtain ⟨F, hFl, hF⟩ := list_of (Q := fun i (x : Int × Int) => w.cell? (a.add (i * 2)) = some (.int .i64 x.1) ∧ w.cell? (a.add (i * 2 + 1)) = some (.int .i64 x.2)) len fun i hi => hcells i (by omega)
    have hcell : ∀ j u, (fcells F)[j]? = some u → w.cell? (a.add j) = some u := fun j u hj => by
      have hjl : j < F.length * 2 := by have := (List.getElem?_eq_some_iff.1 hj).1; rwa [fcells_len] at this
      have hi : j / 2 < F.length := by omega
      obtain ⟨h1, h2⟩ := hF (j / 2) hi
      obtain ⟨f1, f2⟩ := fcells_at F (j / 2) hi
      rcases Nat.mod_two_eq_zero_or_one j with h0 | h0
      · have e : j / 2 * 2 = j := by omega
        rw [e] at h1 f1
        rw [f1] at hj
        rw [h1, ← Option.some.inj hj]
      · have e : j / 2 * 2 + 1 = j := by omega
        rw [e] at h2 f2
        rw [f2] at hj
        rw [h2, ← Option.some.inj hj]
    have hFs : Fs w (.slice (some a) len m) F := by
      refine ⟨some a, m, by rw [hFl], by rw [fcells_len], by omega, by unfold maxLen at hm; omega, (fun h => nomatch h), fun ad had => ?_⟩
      cases had
      refine ⟨hspot, fun j u hj => ?_⟩
      have h0 : 0 < m := by
        have := (List.getElem?_eq_some_iff.1 hj).1
        rw [fcells_len] at this
        omega
      have h1 := hcell j u hj
      have hs := hspot h0
      obtain ⟨ab, ao, sp⟩ := a
      simp only at hs
      subst hs
      rwa [Addr.add_lit] at h1
    refine ⟨some a, m, F, by rw [hFl], hFs, ?_, fun hne b hb => Sl.lt hFs (by intro h0; have := congrArg List.length h0; rw [fcells_len] at this; exact hne (List.eq_nil_of_length_eq_zero (by simp only [List.length_nil] at this; omega))) b hb⟩
    have := bulk_each ((List.range len).map D) fun d _ => bulk_pos d
    simp only [List.length_map, List.length_range] at this
    simp only [Rows.uptoBulk]
    omega
/-- an operation of a script of disks -/
structure Dop where
  d : Int
  n : Int
  a : Int
  x : Int
  le : Int
  fv : Value
  F : List (Int × Int)
def Dop.cells (o : Dop) : List Value := [.int .i64 o.d, .int .i64 o.n, .int .i64 o.a, .int .i64 o.x, .int .i64 o.le, o.fv]
def i64 (x : Int) : Prop := -9223372036854775808 ≤ x ∧ x ≤ 9223372036854775807
structure OkDop (w : World) (o : Dop) : Prop where
  fs : Fs w o.fv o.F
  old : o.F ≠ [] → ∀ b ∈ blks o.fv, b < w.heap.size
  d : i64 o.d
  n : i64 o.n
  a : i64 o.a
  x : i64 o.x
  le : i64 o.le
end Go.Proofs.YtfepggdljhiemaaGreatDoor

/-! What the laws of disks take, opened: fates alone, an image. -/
namespace Go.Proofs.YtfepggdljhiemaaGreatDoor
open Go.ChangeShapes Go.WideShapes Go.ChangeAt Go.RowKit Gw Go.Deep

end Go.Proofs.YtfepggdljhiemaaGreatDoor
