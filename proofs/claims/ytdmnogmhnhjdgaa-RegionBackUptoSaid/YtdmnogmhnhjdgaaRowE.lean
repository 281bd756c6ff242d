import Derived.Test.YtdmnogmhnhjdgaaRowD
/-! What the laws of disks take, opened: fates, operations, scripts. -/
set_option linter.unusedVariables false
set_option linter.unusedSimpArgs false
set_option maxRecDepth 100000
namespace Go.Proofs.Ytdmnogmhnhjdgaa
open Go.ChangeShapes Go.WideShapes Go.ChangeAt Go.RowKit Gw Go.Deep

theorem bulk_each {H : Type} : ∀ (E : List (DataW H)), (∀ d ∈ E, 1 ≤ Rows.uptoBulk d) → E.length ≤ Rows.uptoBulkAll E
  | [], _ => Nat.le_refl _
  | d :: E, h => by
    have h1 := h d (List.mem_cons_self ..)
    have h2 := bulk_each E fun x hx => h x (List.mem_cons_of_mem _ hx)
    simp only [List.length_cons, Rows.uptoBulkAll]
    omega
theorem bulk_pos {H : Type} (d : DataW H) : 1 ≤ Rows.uptoBulk d := by
  cases d with
  | lit l => cases l <;> simp [Rows.uptoBulk]
  | nil => simp [Rows.uptoBulk]
  | ptr d => simp [Rows.uptoBulk]
  | slice a b => simp [Rows.uptoBulk]
  | agg a => simp [Rows.uptoBulk]
  | iface a b => simp [Rows.uptoBulk]
  | map a => simp [Rows.uptoBulk]
  | held a => simp [Rows.uptoBulk]
theorem bulk_mem {H : Type} {d : DataW H} : ∀ {E : List (DataW H)}, d ∈ E → Rows.uptoBulk d ≤ Rows.uptoBulkAll E
  | e :: E, h => by
    simp only [Rows.uptoBulkAll]
    rcases List.mem_cons.1 h with rfl | h
    · omega
    · have := bulk_mem h; omega
/-- fates that lie anywhere -/
theorem open_fates {H : Type} {enc : TypeId × Value → H} {w : World} {n : Nat} {u : Value} {y : DataW H × List MemPlace} (h : DataW.trod enc Try.prog w 0 (fun _ => true) true n 23 [u] = some y) :
    ∃ (ao : Option Addr) (cap : Nat) (F : List (Int × Int)), u = .slice ao F.length cap ∧ Fs w u F ∧ F.length + 1 ≤ Rows.uptoBulk y.1 ∧ (F ≠ [] → ∀ b ∈ blks u, b < w.heap.size) := by
  rcases open_slice Try.underlying23 h with ⟨hc, rfl⟩ | ⟨a, len, cap, m, k, D, Pl, hc, _, hl, hm, hmm, rfl, hx⟩
  · obtain rfl : u = .slice none 0 0 := by simpa using hc
    exact ⟨none, 0, [], rfl, Sl.nil w 2, by simp [Rows.uptoBulk], by simp⟩
  · obtain rfl : u = .slice (some a) len cap := by simpa using hc
    simp only [if_true] at hmm
    subst hmm
    have hC : Try.prog.cellsOf 99 = 2 := by kernel_rfl
    have hcells : ∀ i, i < m → ∃ x : Int × Int, w.cell? (a.add (i * 2)) = some (.int .i64 x.1) ∧ w.cell? (a.add (i * 2 + 1)) = some (.int .i64 x.2) := fun i hi => by
      obtain ⟨cs', h1, h2⟩ := hx i hi
      obtain ⟨kk, aa, rfl⟩ := trod_fate h2
      rw [hC] at h1
      obtain ⟨_, hlen, hat⟩ := World.cells?_some h1
      have c0 := hat 0 (by omega)
      have c1 := hat 1 (by omega)
      rw [add_add] at c0 c1
      exact ⟨(kk, aa), by simpa using c0, by simpa using c1⟩
    have hspot : 0 < m → a.spot = none := fun h0 => by
      obtain ⟨x, h1, _⟩ := hcells 0 h0
      have := World.cell?_spot h1
      simpa [Addr.add] using this
    obtain ⟨F, hFl, hF⟩ := list_of (Q := fun i (x : Int × Int) => w.cell? (a.add (i * 2)) = some (.int .i64 x.1) ∧ w.cell? (a.add (i * 2 + 1)) = some (.int .i64 x.2)) len fun i hi => hcells i (by omega)
    have hcell : ∀ j u, (fcells F)[j]? = some u → w.cell? (a.add j) = some u := fun j u hj => by
      have hjl : j < F.length * 2 := by have := (List.getElem?_eq_some_iff.1 hj).1; rwa [fcells_len] at this
      have hi : j / 2 < F.length := by omega
      obtain ⟨h1, h2⟩ := hF (j / 2) hi
      obtain ⟨f1, f2⟩ := fcells_at F (j / 2) hi
      rcases Nat.mod_two_eq_zero_or_one j with h0 | h0
      · have e : j / 2 * 2 = j := by omega
        rw [e] at h1 f1
        rw [f1] at hj
        rw [h1, ← Option.some.inj hj]
      · have e : j / 2 * 2 + 1 = j := by omega
        rw [e] at h2 f2
        rw [f2] at hj
        rw [h2, ← Option.some.inj hj]
    have hFs : Fs w (.slice (some a) len m) F := by
      refine ⟨some a, m, by rw [hFl], by rw [fcells_len], by omega, by unfold maxLen at hm; omega, (fun h => nomatch h), fun ad had => ?_⟩
      cases had
      refine ⟨hspot, fun j u hj => ?_⟩
      have h0 : 0 < m := by
        have := (List.getElem?_eq_some_iff.1 hj).1
        rw [fcells_len] at this
        omega
      have h1 := hcell j u hj
      have hs := hspot h0
      obtain ⟨ab, ao, sp⟩ := a
      simp only at hs
      subst hs
      rwa [Addr.add_lit] at h1
    refine ⟨some a, m, F, by rw [hFl], hFs, ?_, fun hne b hb => Sl.lt hFs (by intro h0; have := congrArg List.length h0; rw [fcells_len] at this; exact hne (List.eq_nil_of_length_eq_zero (by simp only [List.length_nil] at this; omega))) b hb⟩
    have := bulk_each ((List.range len).map D) fun d _ => bulk_pos d
    simp only [List.length_map, List.length_range] at this
    simp only [Rows.uptoBulk]
    omega
/-- an operation of a script of disks -/
structure Dop where
  d : Int
  n : Int
  a : Int
  x : Int
  le : Int
  fv : Value
  F : List (Int × Int)
def Dop.cells (o : Dop) : List Value := [.int .i64 o.d, .int .i64 o.n, .int .i64 o.a, .int .i64 o.x, .int .i64 o.le, o.fv]
def i64 (x : Int) : Prop := -9223372036854775808 ≤ x ∧ x ≤ 9223372036854775807
structure OkDop (w : World) (o : Dop) : Prop where
  fs : Fs w o.fv o.F
  old : o.F ≠ [] → ∀ b ∈ blks o.fv, b < w.heap.size
  d : i64 o.d
  n : i64 o.n
  a : i64 o.a
  x : i64 o.x
  le : i64 o.le
theorem dop_of {H : Type} {enc : TypeId × Value → H} {w : World} {c : List Value} {ys : List (DataW H)} {n : Nat} (hcl : c.length = 6)
    (fld : ∀ (j : Nat) (t : TypeId), j < 6 → t = (if j = 5 then 23 else 3) → ∃ u d p, c[j]? = some u ∧ ys[j]? = some d ∧ DataW.trod enc Try.prog w 0 (fun _ => true) true n t [u] = some (d, p)) :
    ∃ o : Dop, c = o.cells ∧ OkDop w o ∧ o.F.length + 1 ≤ Rows.uptoBulkAll ys := by
  obtain ⟨u0, y0, p0, hu0, hy0, t0⟩ := fld 0 _ (by omega) rfl
  obtain ⟨u1, y1, p1, hu1, hy1, t1⟩ := fld 1 _ (by omega) rfl
  obtain ⟨u2, y2, p2, hu2, hy2, t2⟩ := fld 2 _ (by omega) rfl
  obtain ⟨u3, y3, p3, hu3, hy3, t3⟩ := fld 3 _ (by omega) rfl
  obtain ⟨u4, y4, p4, hu4, hy4, t4⟩ := fld 4 _ (by omega) rfl
  obtain ⟨u5, y5, p5, hu5, hy5, t5⟩ := fld 5 _ (by omega) rfl
  obtain ⟨x0, rfl, _, w0⟩ := trod_i64 Try.underlying3 t0
  obtain ⟨x1, rfl, _, w1⟩ := trod_i64 Try.underlying3 t1
  obtain ⟨x2, rfl, _, w2⟩ := trod_i64 Try.underlying3 t2
  obtain ⟨x3, rfl, _, w3⟩ := trod_i64 Try.underlying3 t3
  obtain ⟨x4, rfl, _, w4⟩ := trod_i64 Try.underlying3 t4
  obtain ⟨ao, cap, F, _, hF, hb, hold⟩ := open_fates t5
  refine ⟨⟨x0, x1, x2, x3, x4, u5, F⟩, ?_, ⟨hF, hold, w0, w1, w2, w3, w4⟩, Nat.le_trans hb (bulk_mem (List.mem_of_getElem? hy5))⟩
  match c, hcl, hu0, hu1, hu2, hu3, hu4, hu5 with
  | [c0, c1, c2, c3, c4, c5], _, hu0, hu1, hu2, hu3, hu4, hu5 =>
    cases hu0; cases hu1; cases hu2; cases hu3; cases hu4; cases hu5
    rfl
/-- a script of disks -/
def Dops (w : World) (v : Value) (os : List Dop) : Prop := Sl w 6 v os.length (os.flatMap Dop.cells) ∧ ∀ o ∈ os, OkDop w o
theorem len6 : ∀ os : List Dop, (os.flatMap Dop.cells).length = os.length * 6
  | [] => rfl
  | o :: os => by
    rw [List.flatMap_cons, List.length_append, len6 os, List.length_cons]
    show 6 + os.length * 6 = _
    omega
theorem flat_at6 : ∀ (os : List Dop) (i j : Nat) (hi : i < os.length) (hj : j < 6), (os.flatMap Dop.cells)[i * 6 + j]? = (os[i].cells)[j]?
  | o :: os, 0, j, _, hj => by
    rw [List.flatMap_cons, Nat.zero_mul, Nat.zero_add, List.getElem?_append_left (show j < o.cells.length from hj)]
    rfl
  | o :: os, i + 1, j, hi, hj => by
    have := flat_at6 os i j (by simpa using hi) hj
    rw [List.flatMap_cons, List.getElem?_append_right (by show 6 ≤ _; omega)]
    simp only [List.getElem_cons_succ]
    rw [← this]
    congr 1
    show (i + 1) * 6 + j - 6 = _
    omega
end Go.Proofs.Ytdmnogmhnhjdgaa
