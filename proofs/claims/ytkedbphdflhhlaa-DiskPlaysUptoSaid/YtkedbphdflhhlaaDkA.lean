import Derived.Test.YtkedbphdflhhlaaFamA
import Derived.Test.YtkedbphdflhhlaaMapA
import Derived.Deep.DeepCutAuto
/-! Disks: what a disk holds, and how it lies in memory. -/
set_option linter.unusedVariables false
set_option linter.unusedSimpArgs false
set_option maxRecDepth 100000
namespace Go.Proofs.Ytkedbphdflhhlaa
open Go.RowKit Gw

/-! ### Plain -/
/-- a disk: how many bytes a sector has, what is durable, the writes that wait -/
structure Dm where
  sz : Nat
  dur : List (List UInt8)
  row : List (Nat × List UInt8)
structure Dm.ok (m : Dm) : Prop where
  s1 : 64 ≤ m.sz
  s2 : m.sz ≤ 4096
  n1 : 1 ≤ m.dur.length
  n2 : m.dur.length ≤ 65536
  d : ∀ b ∈ m.dur, b.length = m.sz
  r : ∀ x ∈ m.row, x.1 < m.dur.length ∧ x.2.length = m.sz
def zeros (n : Nat) : List UInt8 := List.replicate n 0
/-- what a write that meets its fate leaves: the first k bytes are the new ones -/
def tear (k : Nat) (b old : List UInt8) : List UInt8 := b.take k ++ old.drop k
theorem tear_len {k n : Nat} {b old : List UInt8} (hb : b.length = n) (ho : old.length = n) : (tear k b old).length = n := by
  unfold tear
  rw [List.length_append, List.length_take, List.length_drop]
  omega
def stepD (g : Nat → Nat) (d : List (List UInt8)) (x : (Nat × List UInt8) × Nat) : List (List UInt8) := d.set x.1.1 (tear (g x.2) x.1.2 (d.getD x.1.1 []))
/-- behind a crash in which g i bytes of the i-th write become durable -/
def settleD (g : Nat → Nat) (row : List (Nat × List UInt8)) (d : List (List UInt8)) : List (List UInt8) := row.zipIdx.foldl (stepD g) d
theorem stepD_len (g : Nat → Nat) (d : List (List UInt8)) (x : (Nat × List UInt8) × Nat) : (stepD g d x).length = d.length := by unfold stepD; simp
theorem foldD_len (g : Nat → Nat) : ∀ (l : List ((Nat × List UInt8) × Nat)) (d : List (List UInt8)), (l.foldl (stepD g) d).length = d.length
  | [], d => rfl
  | x :: l, d => by rw [List.foldl_cons, foldD_len g l, stepD_len]
theorem settleD_len (g : Nat → Nat) (row : List (Nat × List UInt8)) (d : List (List UInt8)) : (settleD g row d).length = d.length := foldD_len g _ d
theorem take_zipIdx_succ (row : List (Nat × List UInt8)) (j : Nat) (h : j < row.length) : (row.take (j + 1)).zipIdx = (row.take j).zipIdx ++ [(row[j], j)] := by
  rw [List.take_succ_eq_append_getElem h, List.zipIdx_append]
  simp [List.length_take, Nat.min_eq_left (Nat.le_of_lt h)]
theorem settleD_succ (g : Nat → Nat) (row : List (Nat × List UInt8)) (d : List (List UInt8)) (j : Nat) (h : j < row.length) : settleD g (row.take (j + 1)) d = stepD g (settleD g (row.take j) d) (row[j], j) := by
  unfold settleD
  rw [take_zipIdx_succ row j h, List.foldl_append]
  rfl
theorem set_mem {α : Type} {l : List α} {i : Nat} {a x : α} (h : x ∈ l.set i a) : x ∈ l ∨ x = a := by
  rcases List.mem_or_eq_of_mem_set h with h | h
  · exact .inl h
  · exact .inr h
theorem foldD_all (g : Nat → Nat) (n : Nat) : ∀ (l : List ((Nat × List UInt8) × Nat)) (d : List (List UInt8)), (∀ b ∈ d, b.length = n) → (∀ x ∈ l, x.1.1 < d.length ∧ x.1.2.length = n) → ∀ b ∈ l.foldl (stepD g) d, b.length = n
  | [], d, h, _ => h
  | x :: l, d, h, hx => by
    rw [List.foldl_cons]
    refine foldD_all g n l _ (fun b hb => ?_) (fun y hy => by rw [stepD_len]; exact hx y (List.mem_cons_of_mem _ hy))
    unfold stepD at hb
    rcases set_mem hb with hb | rfl
    · exact h b hb
    · obtain ⟨h1, h2⟩ := hx x (List.mem_cons_self ..)
      refine tear_len h2 (h _ ?_)
      rw [List.getD_eq_getElem?_getD, List.getElem?_eq_getElem h1]
      exact List.getElem_mem h1
theorem settleD_all (g : Nat → Nat) {n : Nat} {row : List (Nat × List UInt8)} {d : List (List UInt8)} (h : ∀ b ∈ d, b.length = n) (hx : ∀ x ∈ row, x.1 < d.length ∧ x.2.length = n) : ∀ b ∈ settleD g row d, b.length = n :=
  foldD_all g n _ d h fun x hx' => hx x.1 (List.fst_mem_of_mem_zipIdx hx')
/-- the disk behind a crash -/
def Dm.settle (m : Dm) (g : Nat → Nat) : Dm := ⟨m.sz, settleD g m.row m.dur, []⟩
theorem Dm.ok.settle {m : Dm} (h : m.ok) (g : Nat → Nat) : (m.settle g).ok :=
  ⟨h.s1, h.s2, by unfold Dm.settle; rw [settleD_len]; exact h.n1, by unfold Dm.settle; rw [settleD_len]; exact h.n2, settleD_all g h.d h.r, fun x hx => by cases hx⟩
/-- behind a write -/
def Dm.write (m : Dm) (at_ : Nat) (b : List UInt8) : Dm := ⟨m.sz, m.dur, m.row ++ [(at_, b)]⟩
theorem Dm.ok.write {m : Dm} (h : m.ok) {at_ : Nat} {b : List UInt8} (h1 : at_ < m.dur.length) (h2 : b.length = m.sz) : (m.write at_ b).ok :=
  ⟨h.s1, h.s2, h.n1, h.n2, h.d, fun x hx => (List.mem_append.1 hx).elim (h.r x) fun hx => by
    have : x = (at_, b) := by simpa using hx
    subst this; exact ⟨h1, h2⟩⟩
/-- what is read of a sector -/
def Dm.read (m : Dm) (at_ : Nat) : List UInt8 := match m.row.reverse.find? (fun x => decide (x.1 = at_)) with
  | some x => x.2
  | none => m.dur.getD at_ []
theorem Dm.ok.read {m : Dm} (h : m.ok) {at_ : Nat} (h1 : at_ < m.dur.length) : (m.read at_).length = m.sz := by
  unfold Dm.read
  split
  · rename_i x hx
    exact (h.r x (List.mem_reverse.1 (List.mem_of_find?_eq_some hx))).2
  · refine h.d _ ?_
    rw [List.getD_eq_getElem?_getD, List.getElem?_eq_getElem h1]
    exact List.getElem_mem h1

/-! ### In memory -/
/-- the cells of the writes that wait -/
def wcells (rp : List (Nat × Value × List UInt8)) : List Value := rp.flatMap fun x => [.int .i64 (x.1 : Nat), x.2.1]
theorem wcells_len (rp : List (Nat × Value × List UInt8)) : (wcells rp).length = rp.length * 2 := by
  induction rp with
  | nil => rfl
  | cons x l ih => unfold wcells at ih ⊢; rw [List.flatMap_cons, List.length_append, ih]; simp; omega
theorem wcells_app (a b : List (Nat × Value × List UInt8)) : wcells (a ++ b) = wcells a ++ wcells b := by unfold wcells; rw [List.flatMap_append]
theorem wcells_at : ∀ (rp : List (Nat × Value × List UInt8)) (j : Nat) (h : j < rp.length), (wcells rp)[2 * j]? = some (.int .i64 (rp[j].1 : Nat)) ∧ (wcells rp)[2 * j + 1]? = some rp[j].2.1
  | x :: l, 0, h => ⟨rfl, rfl⟩
  | x :: l, j + 1, h => by
    have := wcells_at l j (by simpa using h)
    simp only [List.getElem_cons_succ]
    have e1 : 2 * (j + 1) = 2 * j + 2 := by omega
    rw [e1]
    unfold wcells at this ⊢
    rw [List.flatMap_cons]
    exact this
/-- the last of the writes that wait for a sector -/
def newest (rp : List (Nat × Value × List UInt8)) (k : Int) : Option Value := (rp.reverse.find? fun x => decide ((x.1 : Int) = k)).map (·.2.1)
theorem newest_snoc (rp : List (Nat × Value × List UInt8)) (at_ : Nat) (v : Value) (b : List UInt8) (k : Int) : newest (rp ++ [(at_, v, b)]) k = if k = at_ then some v else newest rp k := by
  unfold newest
  rw [List.reverse_append, List.reverse_singleton, List.singleton_append, List.find?_cons]
  by_cases h : k = at_
  · subst h; simp
  · rw [if_neg h]
    have : decide ((at_ : Int) = k) = false := decide_eq_false (fun h' => h h'.symm)
    simp [this]
theorem oneW (rp : List (Nat × Value × List UInt8)) (h : ∀ x ∈ rp, x.2.1.oneCell' = true) : ∀ c ∈ wcells rp, c.oneCell' = true := by
  intro c hc
  unfold wcells at hc
  rw [List.mem_flatMap] at hc
  obtain ⟨x, hx, hc⟩ := hc
  simp at hc
  rcases hc with rfl | rfl
  · rfl
  · exact h x hx

/-- the types of rows of sectors and of waiting writes -/
theorem stDW : ST Try.prog 107 143 (.agg #[.int .i64 0, .slice none 0 0]) 2 32 := ⟨Try.underlying107, by kernel_rfl, rfl, by decide⟩
theorem stDR : ST Try.prog 44 23 (.slice none 0 0) 1 24 := ⟨Try.underlying44, by kernel_rfl, rfl, by decide⟩

/-- a disk in memory, its parts told -/
structure DkB (w : World) (p sz : Nat) (D R : Value) (M : Nat) (dp : List (Value × List UInt8)) (rp : List (Nat × Value × List UInt8)) : Prop where
  blk : Blk w p 110 [.int .i64 (sz : Nat), D, R, .map (some M)]
  dur : Ow w 23 1 D dp.length (dp.map (·.1))
  row : Ow w 143 2 R rp.length (wcells rp)
  map : Mp w M (newest rp)
  fam : Fam w 0 (dp ++ rp.map (·.2))
/-- the blocks in which it lies -/
def fpD (p : Nat) (D R : Value) (M : Nat) (dp : List (Value × List UInt8)) (rp : List (Nat × Value × List UInt8)) : List Nat :=
  p :: M :: (blks D ++ blks R ++ (dp ++ rp.map (·.2)).flatMap fun x => blks x.1)
section
variable {w w' : World} {p sz M : Nat} {D R : Value} {dp : List (Value × List UInt8)} {rp : List (Nat × Value × List UInt8)} {L : List Nat}
theorem DkB.mod (h : DkB w p sz D R M dp rp) (hm : Mod L w w') (hL : ∀ b ∈ fpD p D R M dp rp, b ∉ L) : DkB w' p sz D R M dp rp := by
  unfold fpD at hL
  exact ⟨h.blk.mod hm (hL p (by simp)), h.dur.mod hm (fun b hb => hL b (by simp [hb])), h.row.mod hm (fun b hb => hL b (by simp [hb])), h.map.mod hm (hL M (by simp)),
    h.fam.mod hm fun q hq b hb => hL b (List.mem_cons_of_mem _ (List.mem_cons_of_mem _ (List.mem_append_right _ (List.mem_flatMap.2 ⟨q, hq, hb⟩))))⟩
theorem DkB.ext (h : DkB w p sz D R M dp rp) (hm : Mod [] w w') : DkB w' p sz D R M dp rp := h.mod hm (by simp)
theorem DkB.lt (h : DkB w p sz D R M dp rp) : ∀ b ∈ fpD p D R M dp rp, b < w.heap.size := by
  intro b hb
  unfold fpD at hb
  rcases List.mem_cons.1 hb with rfl | hb
  · exact h.blk.lt
  rcases List.mem_cons.1 hb with rfl | hb
  · exact h.map.lt
  rcases List.mem_append.1 hb with hb | hb
  · rcases List.mem_append.1 hb with hb | hb
    · exact h.dur.lt b hb
    · exact h.row.lt b hb
  · obtain ⟨q, hq, hb⟩ := List.mem_flatMap.1 hb
    exact Ow.lt (h.fam.ob q hq).1 b hb
end
def Dm.of (sz : Nat) (dp : List (Value × List UInt8)) (rp : List (Nat × Value × List UInt8)) : Dm := ⟨sz, dp.map (·.2), rp.map fun x => (x.1, x.2.2)⟩
/-- a disk, in the blocks L -/
def Dk (w : World) (p : Nat) (m : Dm) (L : List Nat) : Prop := ∃ D R M dp rp, DkB w p m.sz D R M dp rp ∧ m = Dm.of m.sz dp rp ∧ L = fpD p D R M dp rp
section
variable {w w' : World} {p : Nat} {m : Dm} {L L2 : List Nat}
theorem Dk.mod (h : Dk w p m L) (hm : Mod L2 w w') (hL : ∀ b ∈ L, b ∉ L2) : Dk w' p m L := by
  obtain ⟨D, R, M, dp, rp, h1, h2, h3⟩ := h
  exact ⟨D, R, M, dp, rp, h1.mod hm (h3 ▸ hL), h2, h3⟩
theorem Dk.ext (h : Dk w p m L) (hm : Mod [] w w') : Dk w' p m L := h.mod hm (by simp)
theorem Dk.lt (h : Dk w p m L) : ∀ b ∈ L, b < w.heap.size := by
  obtain ⟨D, R, M, dp, rp, h1, h2, rfl⟩ := h
  exact h1.lt
theorem Dk.mem (h : Dk w p m L) : p ∈ L := by
  obtain ⟨D, R, M, dp, rp, h1, h2, rfl⟩ := h
  simp [fpD]
/-- its own block -/
theorem Dk.blk (h : Dk w p m L) : ∃ D R M, Blk w p 110 [.int .i64 (m.sz : Nat), D, R, .map (some M)] ∧ (∃ ao cap, D = .slice ao m.dur.length cap ∧ m.dur.length ≤ cap) ∧ ∃ ao cap, R = .slice ao m.row.length cap ∧ m.row.length ≤ cap := by
  obtain ⟨D, R, M, dp, rp, h1, h2, h3⟩ := h
  obtain ⟨ao, cap, hD, hc, _⟩ := h1.dur.sl.form
  obtain ⟨ao', cap', hR, hc', _⟩ := h1.row.sl.form
  have e1 : m.dur.length = dp.length := by rw [h2]; simp [Dm.of]
  have e2 : m.row.length = rp.length := by rw [h2]; simp [Dm.of]
  refine ⟨D, R, M, h1.blk, ⟨ao, cap, by rw [e1]; exact hD, by omega⟩, ⟨ao', cap', by rw [e2]; exact hR, by omega⟩⟩
end
/-- what a call that turns the disk leaves -/
def DkPost (w : World) (p : Nat) (m' : Dm) (L : List Nat) (w' : World) : Prop := ∃ L', Dk w' p m' L' ∧ Mod L w w' ∧ ∀ k ∈ L', k ∈ L ∨ w.heap.size ≤ k
/-- a pointer to no disk, or to one that nobody made -/
def NoDk (w : World) (v : Value) : Prop := v = .pointer none ∨ ∃ p, v = .pointer (some ⟨p, 0, none⟩) ∧ Blk w p 110 [.int .i64 0, .slice none 0 0, .slice none 0 0, .map none]
theorem NoDk.ext {w w' : World} {v : Value} (h : NoDk w v) (hm : Mod [] w w') : NoDk w' v := by
  rcases h with h | ⟨p, h, hb⟩
  · exact .inl h
  · exact .inr ⟨p, h, hb.ext hm⟩
end Go.Proofs.Ytkedbphdflhhlaa
