import Derived.Test.YtfepggdljhiemaaGreatDoorGOct
import Derived.Test.YtfepggdljhiemaaGreatDoorMapA
import Derived.Deep.DeepCutAuto
/-! Disks: what a disk holds, and how it lies in memory. -/
set_option linter.unusedVariables false
set_option linter.unusedSimpArgs false
set_option maxRecDepth 100000
namespace Go.Proofs.YtfepggdljhiemaaGreatDoor
open Go.RowKit Gw

/-! ### Plain -/
/-- a disk: how many bytes a sector has, what is durable, the writes that wait -/
structure Dm where
  sz : Nat
  dur : List (List UInt8)
  row : List (Nat × List UInt8)
structure Dm.ok (m : Dm) : Prop where
  s1 : 64 ≤ m.sz
  s2 : m.sz ≤ 4096
  n1 : 1 ≤ m.dur.length
  n2 : m.dur.length ≤ 65536
  d : ∀ b ∈ m.dur, b.length = m.sz
  r : ∀ x ∈ m.row, x.1 < m.dur.length ∧ x.2.length = m.sz
def zeros (n : Nat) : List UInt8 := List.replicate n 0
/-- what a write that meets its fate leaves: the first k bytes are the new ones -/
def tear (k : Nat) (b old : List UInt8) : List UInt8 := b.take k ++ old.drop k
theorem tear_len {k n : Nat} {b old : List UInt8} (hb : b.length = n) (ho : old.length = n) : (tear k b old).length = n := by
  unfold tear
  rw [List.length_append, List.length_take, List.length_drop]
  omega
def stepD (g : Nat → Nat) (d : List (List UInt8)) (x : (Nat × List UInt8) × Nat) : List (List UInt8) := d.set x.1.1 (tear (g x.2) x.1.2 (d.getD x.1.1 []))
/-- behind a crash in which g i bytes of the i-th write become durable -/
def settleD (g : Nat → Nat) (row : List (Nat × List UInt8)) (d : List (List UInt8)) : List (List UInt8) := row.zipIdx.foldl (stepD g) d
theorem stepD_len (g : Nat → Nat) (d : List (List UInt8)) (x : (Nat × List UInt8) × Nat) : (stepD g d x).length = d.length := by unfold stepD; simp
theorem foldD_len (g : Nat → Nat) : ∀ (l : List ((Nat × List UInt8) × Nat)) (d : List (List UInt8)), (l.foldl (stepD g) d).length = d.length
  | [], d => rfl
  | x :: l, d => by rw [List.foldl_cons, foldD_len g l, stepD_len]
theorem settleD_len (g : Nat → Nat) (row : List (Nat × List UInt8)) (d : List (List UInt8)) : (settleD g row d).length = d.length := foldD_len g _ d
theorem take_zipIdx_succ (row : List (Nat × List UInt8)) (j : Nat) (h : j < row.length) : (row.take (j + 1)).zipIdx = (row.take j).zipIdx ++ [(row[j], j)] := by
  rw [List.take_succ_eq_append_getElem h, List.zipIdx_append]
  simp [List.length_take, Nat.min_eq_left (Nat.le_of_lt h)]
theorem settleD_succ (g : Nat → Nat) (row : List (Nat × List UInt8)) (d : List (List UInt8)) (j : Nat) (h : j < row.length) : settleD g (row.take (j + 1)) d = stepD g (settleD g (row.take j) d) (row[j], j) := by
  unfold settleD
  rw [take_zipIdx_succ row j h, List.foldl_append]
  rfl
theorem set_mem {α : Type} {l : List α} {i : Nat} {a x : α} (h : x ∈ l.set i a) : x ∈ l ∨ x = a := by
  rcases List.mem_or_eq_of_mem_set h with h | h
  · exact .inl h
  · exact .inr h
theorem foldD_all (g : Nat → Nat) (n : Nat) : ∀ (l : List ((Nat × List UInt8) × Nat)) (d : List (List UInt8)), (∀ b ∈ d, b.length = n) → (∀ x ∈ l, x.1.1 < d.length ∧ x.1.2.length = n) → ∀ b ∈ l.foldl (stepD g) d, b.length = n
  | [], d, h, _ => h
  | x :: l, d, h, hx => by
    rw [List.foldl_cons]
    refine foldD_all g n l _ (fun b hb => ?_) (fun y hy => by rw [stepD_len]; exact hx y (List.mem_cons_of_mem _ hy))
    unfold stepD at hb
    rcases set_mem hb with hb | rfl
    · exact h b hb
    · obtain ⟨h1, h2⟩ := hx x (List.mem_cons_self ..)
      refine tear_len h2 (h _ ?_)
      rw [List.getD_eq_getElem?_getD, List.getElem?_eq_getElem h1]
      exact List.getElem_mem h1
theorem settleD_all (g : Nat → Nat) {n : Nat} {row : List (Nat × List UInt8)} {d : List (List UInt8)} (h : ∀ b ∈ d, b.length = n) (hx : ∀ x ∈ row, x.1 < d.length ∧ x.2.length = n) : ∀ b ∈ settleD g row d, b.length = n :=
  foldD_all g n _ d h fun x hx' => hx x.1 (List.fst_mem_of_mem_zipIdx hx')
/-- the disk behind a crash -/
def Dm.settle (m : Dm) (g : Nat → Nat) : Dm := ⟨m.sz, settleD g m.row m.dur, []⟩
theorem Dm.ok.settle {m : Dm} (h : m.ok) (g : Nat → Nat) : (m.settle g).ok :=
  ⟨h.s1, h.s2, by unfold Dm.settle; rw [settleD_len]; exact h.n1, by unfold Dm.settle; rw [settleD_len]; exact h.n2, settleD_all g h.d h.r, fun x hx => by cases hx⟩
/-- behind a write -/
def Dm.write (m : Dm) (at_ : Nat) (b : List UInt8) : Dm := ⟨m.sz, m.dur, m.row ++ [(at_, b)]⟩
theorem Dm.ok.write {m : Dm} (h : m.ok) {at_ : Nat} {b : List UInt8} (h1 : at_ < m.dur.length) (h2 : b.length = m.sz) : (m.write at_ b).ok :=
  ⟨h.s1, h.s2, h.n1, h.n2, h.d, fun x hx => (List.mem_append.1 hx).elim (h.r x) fun hx => by
    have : x = (at_, b) := by simpa using hx
    subst this; exact ⟨h1, h2⟩⟩
/-- what is read of a sector -/
def Dm.read (m : Dm) (at_ : Nat) : List UInt8 := match m.row.reverse.find? (fun x => decide (x.1 = at_)) with
  | some x => x.2
  | none => m.dur.getD at_ []
theorem Dm.ok.read {m : Dm} (h : m.ok) {at_ : Nat} (h1 : at_ < m.dur.length) : (m.read at_).length = m.sz := by
  unfold Dm.read
  split
  · rename_i x hx
    exact (h.r x (List.mem_reverse.1 (List.mem_of_find?_eq_some hx))).2
  · refine h.d _ ?_
    rw [List.getD_eq_getElem?_getD, List.getElem?_eq_getElem h1]
    exact List.getElem_mem h1

/-! ### In memory -/
/-- the cells of the writes that wait -/
def wcells (rp : List (Nat × Value × List UInt8)) : List Value := rp.flatMap fun x => [.int .i64 (x.1 : Nat), x.2.1]
theorem wcells_len (rp : List (Nat × Value × List UInt8)) : (wcells rp).length = rp.length * 2 := by
  induction rp with
  | nil => rfl
  | cons x l ih => unfold wcells at ih ⊢; rw [List.flatMap_cons, List.length_append, ih]; simp; omega
theorem wcells_app (a b : List (Nat × Value × List UInt8)) : wcells (a ++ b) = wcells a ++ wcells b := by unfold wcells; rw [List.flatMap_append]
theorem wcells_at : ∀ (rp : List (Nat × Value × List UInt8)) (j : Nat) (h : j < rp.length), (wcells rp)[2 * j]? = some (.int .i64 (rp[j].1 : Nat)) ∧ (wcells rp)[2 * j + 1]? = some rp[j].2.1
  | x :: l, 0, h => ⟨rfl, rfl⟩
  | x :: l, j + 1, h => by
    have := wcells_at l j (by simpa using h)
    simp only [List.getElem_cons_succ]
    have e1 : 2 * (j + 1) = 2 * j + 2 := by omega
    rw [e1]
    unfold wcells at this ⊢
    rw [List.flatMap_cons]
    exact this
/-- the last of the writes that wait for a sector -/
def newest (rp : List (Nat × Value × List UInt8)) (k : Int) : Option Value := (rp.reverse.find? fun x => decide ((x.1 : Int) = k)).map (·.2.1)
theorem newest_snoc (rp : List (Nat × Value × List UInt8)) (at_ : Nat) (v : Value) (b : List UInt8) (k : Int) : newest (rp ++ [(at_, v, b)]) k = if k = at_ then some v else newest rp k := by
  unfold newest
  rw [List.reverse_append, List.reverse_singleton, List.singleton_append, List.find?_cons]
  by_cases h : k = at_
  · subst h; simp
  · rw [if_neg h]
    have : decide ((at_ : Int) = k) = false := decide_eq_false (fun h' => h h'.symm)
    simp [this]
/-- the types of rows of sectors and of waiting writes -/
theorem stDW : ST Tryz.prog 136 257 (.agg #[.int .i64 0, .slice none 0 0]) 2 32 := ⟨Tryz.underlying136, by kernel_rfl, rfl, by decide⟩
theorem stDR : ST Tryz.prog 22 33 (.slice none 0 0) 1 24 := ⟨Tryz.underlying22, by kernel_rfl, rfl, by decide⟩

/-- a disk in memory, its parts told -/
structure DkB (w : World) (p sz : Nat) (D R : Value) (M : Nat) (dp : List (Value × List UInt8)) (rp : List (Nat × Value × List UInt8)) : Prop where
  blk : Blk w p 138 [.int .i64 (sz : Nat), D, R, .map (some M)]
  dur : Ow w 33 1 D dp.length (dp.map (·.1))
  row : Ow w 257 2 R rp.length (wcells rp)
  map : Mp w M (newest rp)
  fam : Fam w 0 (dp ++ rp.map (·.2))
/-- the blocks in which it lies -/
def fpD (p : Nat) (D R : Value) (M : Nat) (dp : List (Value × List UInt8)) (rp : List (Nat × Value × List UInt8)) : List Nat :=
  p :: M :: (blks D ++ blks R ++ (dp ++ rp.map (·.2)).flatMap fun x => blks x.1)
section
variable {w w' : World} {p sz M : Nat} {D R : Value} {dp : List (Value × List UInt8)} {rp : List (Nat × Value × List UInt8)} {L : List Nat}
theorem DkB.mod (h : DkB w p sz D R M dp rp) (hm : Mod L w w') (hL : ∀ b ∈ fpD p D R M dp rp, b ∉ L) : DkB w' p sz D R M dp rp := by
  unfold fpD at hL
  exact ⟨h.blk.mod hm (hL p (by simp)), h.dur.mod hm (fun b hb => hL b (by simp [hb])), h.row.mod hm (fun b hb => hL b (by simp [hb])), h.map.mod hm (hL M (by simp)),
    h.fam.mod hm fun q hq b hb => hL b (List.mem_cons_of_mem _ (List.mem_cons_of_mem _ (List.mem_append_right _ (List.mem_flatMap.2 ⟨q, hq, hb⟩))))⟩
theorem DkB.ext (h : DkB w p sz D R M dp rp) (hm : Mod [] w w') : DkB w' p sz D R M dp rp := h.mod hm (by simp)
theorem DkB.lt (h : DkB w p sz D R M dp rp) : ∀ b ∈ fpD p D R M dp rp, b < w.heap.size := by
  intro b hb
  unfold fpD at hb
  rcases List.mem_cons.1 hb with rfl | hb
  · exact h.blk.lt
  rcases List.mem_cons.1 hb with rfl | hb
  · exact h.map.lt
  rcases List.mem_append.1 hb with hb | hb
  · rcases List.mem_append.1 hb with hb | hb
    · exact h.dur.lt b hb
    · exact h.row.lt b hb
  · obtain ⟨q, hq, hb⟩ := List.mem_flatMap.1 hb
    exact Ow.lt (h.fam.ob q hq).1 b hb
end
def Dm.of (sz : Nat) (dp : List (Value × List UInt8)) (rp : List (Nat × Value × List UInt8)) : Dm := ⟨sz, dp.map (·.2), rp.map fun x => (x.1, x.2.2)⟩
/-- a disk, in the blocks L -/
def Dk (w : World) (p : Nat) (m : Dm) (L : List Nat) : Prop := ∃ D R M dp rp, DkB w p m.sz D R M dp rp ∧ m = Dm.of m.sz dp rp ∧ L = fpD p D R M dp rp
section
variable {w w' : World} {p : Nat} {m : Dm} {L L2 : List Nat}
theorem Dk.mod (h : Dk w p m L) (hm : Mod L2 w w') (hL : ∀ b ∈ L, b ∉ L2) : Dk w' p m L := by
  obtain ⟨D, R, M, dp, rp, h1, h2, h3⟩ := h
  exact ⟨D, R, M, dp, rp, h1.mod hm (h3 ▸ hL), h2, h3⟩
theorem Dk.ext (h : Dk w p m L) (hm : Mod [] w w') : Dk w' p m L := h.mod hm (by simp)
theorem Dk.lt (h : Dk w p m L) : ∀ b ∈ L, b < w.heap.size := by
  obtain ⟨D, R, M, dp, rp, h1, h2, rfl⟩ := h
  exact h1.lt
/-- its own block -/
theorem Dk.blk (h : Dk w p m L) : ∃ D R M, Blk w p 138 [.int .i64 (m.sz : Nat), D, R, .map (some M)] ∧ (∃ ao cap, D = .slice ao m.dur.length cap ∧ m.dur.length ≤ cap) ∧ ∃ ao cap, R = .slice ao m.row.length cap ∧ m.row.length ≤ cap := by
  obtain ⟨D, R, M, dp, rp, h1, h2, h3⟩ := h
  obtain ⟨ao, cap, hD, hc, _⟩ := h1.dur.sl.form
  obtain ⟨ao', cap', hR, hc', _⟩ := h1.row.sl.form
  have e1 : m.dur.length = dp.length := by rw [h2]; simp [Dm.of]
  have e2 : m.row.length = rp.length := by rw [h2]; simp [Dm.of]
  refine ⟨D, R, M, h1.blk, ⟨ao, cap, by rw [e1]; exact hD, by omega⟩, ⟨ao', cap', by rw [e2]; exact hR, by omega⟩⟩
end
/-- what a call that turns the disk leaves -/
def DkPost (w : World) (p : Nat) (m' : Dm) (L : List Nat) (w' : World) : Prop := ∃ L', Dk w' p m' L' ∧ Mod L w w' ∧ ∀ k ∈ L', k ∈ L ∨ w.heap.size ≤ k
/-- a pointer to no disk, or to one that nobody made -/
def NoDk (w : World) (v : Value) : Prop := v = .pointer none ∨ ∃ p, v = .pointer (some ⟨p, 0, none⟩) ∧ Blk w p 138 [.int .i64 0, .slice none 0 0, .slice none 0 0, .map none]
theorem NoDk.ext {w w' : World} {v : Value} (h : NoDk w v) (hm : Mod [] w w') : NoDk w' v := by
  rcases h with h | ⟨p, h, hb⟩
  · exact .inl h
  · exact .inr ⟨p, h, hb.ext hm⟩
end Go.Proofs.YtfepggdljhiemaaGreatDoor

/-! Disks: may, there, none, Sectors, Size, Waiting. -/
namespace Go.Proofs.YtfepggdljhiemaaGreatDoor
open Go.RowKit Gw

def mayD (s z : Int) : Bool := decide (1 ≤ s) && (decide (s ≤ 65536) && (decide (64 ≤ z) && (decide (z ≤ 4096) && ((bits .and .i64 z (z - 1) == 0) && decide (s * z ≤ 67108864)))))
theorem mul_bound {s z : Int} (h1 : 1 ≤ s) (h2 : s ≤ 65536) (h3 : 64 ≤ z) (h4 : z ≤ 4096) : 0 ≤ s * z ∧ s * z ≤ 268435456 := by
  refine ⟨Int.mul_nonneg (by omega) (by omega), ?_⟩
  have := Int.mul_le_mul h2 h4 (by omega) (show (0 : Int) ≤ 65536 by omega)
  omega
theorem mayD_parts {s z : Int} (h : mayD s z = true) : 1 ≤ s ∧ s ≤ 65536 ∧ 64 ≤ z ∧ z ≤ 4096 := by
  unfold mayD at h
  simp only [Bool.and_eq_true, decide_eq_true_eq] at h
  exact ⟨h.1, h.2.1, h.2.2.1, h.2.2.2.1⟩
set_option maxHeartbeats 4000000 in
theorem may_any (s z : Int) (c : Bool) (w : World) (hc : mayD s z = c) : Calls Tryz.prog 77 #[.int .i64 s, .int .i64 z] w fun e w' => e = .returned (.bool c) ∧ w = w' := by
  unfold mayD at hc
  by_cases h1 : 1 ≤ s
  · have eh1 : decide (1 ≤ s) = true := decide_eq_true h1
    rw [eh1] at hc
    simp only [Bool.true_and] at hc
    by_cases h2 : s ≤ 65536
    · have eh2 : decide (s ≤ 65536) = true := decide_eq_true h2
      rw [eh2] at hc
      simp only [Bool.true_and] at hc
      by_cases h3 : 64 ≤ z
      · have eh3 : decide (64 ≤ z) = true := decide_eq_true h3
        rw [eh3] at hc
        simp only [Bool.true_and] at hc
        by_cases h4 : z ≤ 4096
        · have eh4 : decide (z ≤ 4096) = true := decide_eq_true h4
          have hmb := mul_bound h1 h2 h3 h4
          have q1 := hmb.1
          have q2 := hmb.2
          clear hmb
          rw [eh4] at hc
          simp only [Bool.true_and] at hc
          cases eh5 : (bits .and .i64 z (z - 1) == 0) with
          | true =>
            rw [eh5] at hc
            simp only [Bool.true_and] at hc
            go_enter Tryz.func77, Tryz.ntmps77
            go_wp2
            go_ret
            exact ⟨rfl, rfl⟩
          | false =>
            rw [eh5] at hc
            simp only [Bool.false_and] at hc
            subst hc
            go_enter Tryz.func77, Tryz.ntmps77
            go_wp2
            go_ret
            exact ⟨rfl, rfl⟩
        · have eh4 : decide (z ≤ 4096) = false := decide_eq_false h4
          rw [eh4] at hc
          simp only [Bool.false_and] at hc
          subst hc
          go_enter Tryz.func77, Tryz.ntmps77
          go_wp2
          go_ret
          exact ⟨rfl, rfl⟩
      · have eh3 : decide (64 ≤ z) = false := decide_eq_false h3
        rw [eh3] at hc
        simp only [Bool.false_and] at hc
        subst hc
        go_enter Tryz.func77, Tryz.ntmps77
        go_wp2
        go_ret
        exact ⟨rfl, rfl⟩
    · have eh2 : decide (s ≤ 65536) = false := decide_eq_false h2
      rw [eh2] at hc
      simp only [Bool.false_and] at hc
      subst hc
      go_enter Tryz.func77, Tryz.ntmps77
      go_wp2
      go_ret
      exact ⟨rfl, rfl⟩
  · have eh1 : decide (1 ≤ s) = false := decide_eq_false h1
    rw [eh1] at hc
    simp only [Bool.false_and] at hc
    subst hc
    go_enter Tryz.func77, Tryz.ntmps77
    go_wp2
    go_ret
    exact ⟨rfl, rfl⟩
theorem there_yes (p sz : Nat) (D R : Value) (M : Nat) (w : World) (hB : Blk w p 138 [.int .i64 (sz : Nat), D, R, .map (some M)]) (h : 64 ≤ sz) : Calls Tryz.prog 132 #[.pointer (some ⟨p, 0, none⟩)] w fun e w' => e = .returned (.bool true) ∧ w = w' := by
  have c0 := hB.cell' (i := 0) rfl
  have h1 : 0 < sz := by omega
  have h2 : (0 : Int) < sz := by omega
  clear hB
  go_enter Tryz.func132, Tryz.ntmps132
  go_wp2
  go_ret
  exact ⟨rfl, rfl⟩
theorem there_no (v : Value) (w : World) (h : NoDk w v) : Calls Tryz.prog 132 #[v] w fun e w' => e = .returned (.bool false) ∧ w = w' := by
  rcases h with rfl | ⟨p, rfl, hB⟩
  · go_enter Tryz.func132, Tryz.ntmps132
    go_wp2
    go_ret
    exact ⟨rfl, rfl⟩
  · have c0 := hB.cell' (i := 0) rfl
    clear hB
    go_enter Tryz.func132, Tryz.ntmps132
    go_wp2
    go_ret
    exact ⟨rfl, rfl⟩
/-- the error of a sector that is none -/
def noneE (n : Nat) (at_ : Int) : Int := if at_ < 0 ∨ (n : Int) ≤ at_ then 50 else 0
theorem noneE_zero {n : Nat} {at_ : Int} (h : noneE n at_ = 0) : 0 ≤ at_ ∧ at_ < n := by
  unfold noneE at h
  split at h
  · cases h
  · omega
set_option maxHeartbeats 1000000 in
theorem none_any (p sz n cap : Nat) (ao : Option Addr) (R : Value) (M : Nat) (at_ E : Int) (w : World) (hB : Blk w p 138 [.int .i64 (sz : Nat), .slice ao n cap, R, .map (some M)]) (h : 64 ≤ sz) (hE : noneE n at_ = E) :
    Calls Tryz.prog 176 #[.pointer (some ⟨p, 0, none⟩), .int .i64 at_] w fun e w' => e = .returned (.int .i64 E) ∧ w = w' := by
  have T := fun w h => there_yes p sz (.slice ao n cap) R M w h
  have c1 := hB.cell' (i := 1) rfl
  by_cases h1 : at_ < 0
  · have hE' : E = 50 := by rw [← hE]; unfold noneE; rw [if_pos (.inl h1)]
    subst hE'
    clear hE
    have e1 : decide (at_ < 0) = true := decide_eq_true h1
    go_enter Tryz.func176, Tryz.ntmps176
    go_wp2_with (go_at_call 132; (with_reducible refine (T _ hB h).mono ?_); rintro e w1 ⟨rfl, rfl⟩)
    go_ret
    exact ⟨rfl, rfl⟩
  · have e1 : decide (at_ < 0) = false := decide_eq_false h1
    by_cases h2 : (n : Int) ≤ at_
    · have hE' : E = 50 := by rw [← hE]; unfold noneE; rw [if_pos (.inr h2)]
      subst hE'
      clear hE
      have e2 : decide ((n : Int) ≤ at_) = true := decide_eq_true h2
      go_enter Tryz.func176, Tryz.ntmps176
      go_wp2_with (go_at_call 132; (with_reducible refine (T _ hB h).mono ?_); rintro e w1 ⟨rfl, rfl⟩)
      go_ret
      exact ⟨rfl, rfl⟩
    · have hE' : E = 0 := by rw [← hE]; unfold noneE; rw [if_neg (by omega)]
      subst hE'
      clear hE
      have e2 : decide ((n : Int) ≤ at_) = false := decide_eq_false h2
      go_enter Tryz.func176, Tryz.ntmps176
      go_wp2_with (go_at_call 132; (with_reducible refine (T _ hB h).mono ?_); rintro e w1 ⟨rfl, rfl⟩)
      go_ret
      exact ⟨rfl, rfl⟩
theorem none_no (v : Value) (at_ : Int) (w : World) (h : NoDk w v) : Calls Tryz.prog 176 #[v, .int .i64 at_] w fun e w' => e = .returned (.int .i64 1) ∧ w = w' := by
  have T := fun w h => there_no v w h
  go_enter Tryz.func176, Tryz.ntmps176
  go_wp2_with (go_at_call 132; (with_reducible refine (T _ h).mono ?_); rintro e w1 ⟨rfl, rfl⟩)
  go_ret
  exact ⟨rfl, rfl⟩
theorem dSectors_any (p : Nat) (m : Dm) (L : List Nat) (w : World) (h : Dk w p m L) (hs : 64 ≤ m.sz) : Calls Tryz.prog 78 #[.pointer (some ⟨p, 0, none⟩)] w fun e w' => e = .returned (.int .i64 (m.dur.length : Nat)) ∧ w = w' := by
  obtain ⟨D, R, M, hB, ⟨ao, cap, rfl, _⟩, ao', cap', rfl, _⟩ := h.blk
  have T := fun w h => there_yes p m.sz (.slice ao m.dur.length cap) (.slice ao' m.row.length cap') M w h
  have c1 := hB.cell' (i := 1) rfl
  clear h
  go_enter Tryz.func78, Tryz.ntmps78
  go_wp2_with (go_at_call 132; (with_reducible refine (T _ hB hs).mono ?_); rintro e w1 ⟨rfl, rfl⟩)
  go_ret
  exact ⟨rfl, rfl⟩
theorem dSectors_no (v : Value) (w : World) (h : NoDk w v) : Calls Tryz.prog 78 #[v] w fun e w' => e = .returned (.int .i64 0) ∧ w = w' := by
  have T := fun w h => there_no v w h
  go_enter Tryz.func78, Tryz.ntmps78
  go_wp2_with (go_at_call 132; (with_reducible refine (T _ h).mono ?_); rintro e w1 ⟨rfl, rfl⟩)
  go_ret
  exact ⟨rfl, rfl⟩
theorem dSize_any (p : Nat) (m : Dm) (L : List Nat) (w : World) (h : Dk w p m L) (hs : 64 ≤ m.sz) : Calls Tryz.prog 137 #[.pointer (some ⟨p, 0, none⟩)] w fun e w' => e = .returned (.int .i64 (m.sz : Nat)) ∧ w = w' := by
  obtain ⟨D, R, M, hB, ⟨ao, cap, rfl, _⟩, ao', cap', rfl, _⟩ := h.blk
  have T := fun w h => there_yes p m.sz (.slice ao m.dur.length cap) (.slice ao' m.row.length cap') M w h
  have c0 := hB.cell' (i := 0) rfl
  clear h
  go_enter Tryz.func137, Tryz.ntmps137
  go_wp2_with (go_at_call 132; (with_reducible refine (T _ hB hs).mono ?_); rintro e w1 ⟨rfl, rfl⟩)
  go_ret
  exact ⟨rfl, rfl⟩
theorem dSize_no (v : Value) (w : World) (h : NoDk w v) : Calls Tryz.prog 137 #[v] w fun e w' => e = .returned (.int .i64 0) ∧ w = w' := by
  have T := fun w h => there_no v w h
  go_enter Tryz.func137, Tryz.ntmps137
  go_wp2_with (go_at_call 132; (with_reducible refine (T _ h).mono ?_); rintro e w1 ⟨rfl, rfl⟩)
  go_ret
  exact ⟨rfl, rfl⟩
theorem dWaiting_any (p : Nat) (m : Dm) (L : List Nat) (w : World) (h : Dk w p m L) (hs : 64 ≤ m.sz) : Calls Tryz.prog 127 #[.pointer (some ⟨p, 0, none⟩)] w fun e w' => e = .returned (.int .i64 (m.row.length : Nat)) ∧ w = w' := by
  obtain ⟨D, R, M, hB, ⟨ao, cap, rfl, _⟩, ao', cap', rfl, _⟩ := h.blk
  have T := fun w h => there_yes p m.sz (.slice ao m.dur.length cap) (.slice ao' m.row.length cap') M w h
  have c2 := hB.cell' (i := 2) rfl
  clear h
  go_enter Tryz.func127, Tryz.ntmps127
  go_wp2_with (go_at_call 132; (with_reducible refine (T _ hB hs).mono ?_); rintro e w1 ⟨rfl, rfl⟩)
  go_ret
  exact ⟨rfl, rfl⟩
theorem dWaiting_no (v : Value) (w : World) (h : NoDk w v) : Calls Tryz.prog 127 #[v] w fun e w' => e = .returned (.int .i64 0) ∧ w = w' := by
  have T := fun w h => there_no v w h
  go_enter Tryz.func127, Tryz.ntmps127
  go_wp2_with (go_at_call 132; (with_reducible refine (T _ h).mono ?_); rintro e w1 ⟨rfl, rfl⟩)
  go_ret
  exact ⟨rfl, rfl⟩
set_option maxHeartbeats 400000 in
/-- bytes.Clone of bytes that are some -/
theorem bclone_any (l : List UInt8) (v : Value) (w : World) (hv : Bs w v l) (h0 : 0 < l.length) (hl : l.length ≤ 140737488355328) :
    Calls Tryz.prog 133 #[v] w fun e w' => ∃ v', e = .returned v' ∧ Ob w' v' l ∧ New w v' ∧ Mod [] w w' := by
  obtain ⟨ao, cap, rfl, hc1, hc2⟩ := hv.form
  obtain ⟨b, o, rfl, _⟩ := hv.byte h0
  go_enter Tryz.func133, Tryz.ntmps133
  go_wp2_with (with_reducible refine st_bslice ?_)
  refine StopOp.go rfl fun K hK => ?_
  refine wp_bslice stB [] rfl (by decide) (by rfl) (by simp) ?_
  intro p w1 hp1 hp2 hm1 hB1
  simp only [put_some, List.set_cons_succ, List.set_cons_zero]
  refine hK _ _ ?_
  clear hK K
  have ho1 : Ow w1 5 1 (.slice (some ⟨p, 0, none⟩) 0 0) 0 [] := Ow.of_blk (rest := []) hB1 (by omega) (by omega) (by simp) (by simp)
  go_wp2_with (with_reducible refine st_append ?_)
  refine StopOp.go rfl fun K hK => ?_
  refine wp_append_ow stB (by rfl) (by rfl) ho1 (hv.ext hm1) (bv_one l) (by omega) (by omega) ?_
  intro v2 w2 ho2 hm2 hb2
  simp only [put_some, List.set_cons_succ, List.set_cons_zero]
  refine hK _ _ ?_
  clear hK K
  rw [List.nil_append, Nat.zero_add] at ho2
  obtain ⟨ao2, cap2, rfl, _, _⟩ := ho2.sl.form
  go_wp2_with fail
  go_ret
  exact ⟨_, rfl, ho2, fun k hk => (hb2 k hk).elim (fun h => by rw [show k = p by simpa [blks] using h]; exact hp1) (fun h => Nat.le_trans hm1.size h), hm1.fresh hm2 (by simpa [blks] using hp1)⟩
end Go.Proofs.YtfepggdljhiemaaGreatDoor

/-! Disks: what a step makes of one in memory. -/
namespace Go.Proofs.YtfepggdljhiemaaGreatDoor
open Go.RowKit Gw

section
variable {w w' : World} {e e' : TypeId} {sz sz' n n' : Nat} {v v' : Value} {xs xs' : List Value} {L : List (Value × List UInt8)} {base : Nat}
/-- slices of two kinds of elements lie apart -/
theorem Ow.disj (h : Ow w e sz v n xs) (h' : Ow w e' sz' v' n' xs') (hne : e ≠ e') : ∀ b ∈ blks v, b ∉ blks v' := by
  intro b hb
  rcases h'.blk with ⟨rfl, _⟩ | ⟨g, cap, rest, rfl, hb', _⟩
  · simp [blks]
  · intro hg
    have : b = g := by simpa [blks] using hg
    subst this
    exact Ow.ne h hb' hne hb
theorem Fam.atOw (h : Fam w base L) (hv : Ow w e sz v n xs) (hm : Mod (blks v) w w') (hne : 5 ≠ e) : Fam w' base L :=
  h.mod hm fun p hp b hb hb2 => Ow.disj (h.ob p hp).1 hv hne b hb hb2
theorem Mp.atOw {M : Nat} {f : Int → Option Value} (h : Mp w M f) (hv : Ow w e sz v n xs) (hm : Mod (blks v) w w') : Mp w' M f :=
  h.mod hm fun hb => by
    rcases hv.blk with ⟨rfl, _⟩ | ⟨g, cap, rest, rfl, hb', _⟩
    · simp [blks] at hb
    · have : M = g := by simpa [blks] using hb
      exact h.ne hb' this
theorem Fam.disj (h : Fam w base L) (hv : Ow w e sz v n xs) (hne : 5 ≠ e) : ∀ p ∈ L, ∀ b ∈ blks p.1, b ∉ blks v := fun p hp b hb => Ow.disj (h.ob p hp).1 hv hne b hb
end
section
variable {w0 w3 w4 w5 w6 w7 : World} {p sz M : Nat} {D R v : Value} {dp : List (Value × List UInt8)} {rp : List (Nat × Value × List UInt8)} {l : List UInt8}
/-- one more sector -/
theorem DkB.sector {D' : Value} (h : DkB w0 p sz D R M dp rp) (hm3 : Mod [] w0 w3) (ho : Ob w3 v l) (hn : New w0 v) (hD : Ow w4 33 1 D' (dp.length + 1) (dp.map (·.1) ++ [v])) (hm4 : Mod (blks D) w3 w4) (hb4 : ∀ k ∈ blks D', k ∈ blks D ∨ w3.heap.size ≤ k)
    (hm5 : Mod [p] w4 w5) (hB : Blk w5 p 138 [.int .i64 (sz : Nat), D', R, .map (some M)]) :
    DkB w5 p sz D' R M (dp ++ [(v, l)]) rp ∧ (∀ k ∈ fpD p D' R M (dp ++ [(v, l)]) rp, k ∈ fpD p D R M dp rp ∨ w0.heap.size ≤ k) ∧ Mod (fpD p D R M dp rp) w0 w5 := by
  have h3 := h.ext hm3
  have hp4 : Blk w4 p 138 _ := h3.blk.mod hm4 (Ow.ne h3.dur h3.blk (by decide))
  have hf3 : Fam w3 0 (dp ++ (v, l) :: rp.map (·.2)) := Fam.ins h.fam (Nat.zero_le _) hm3 ho hn
  have hf4 := hf3.atOw h3.dur hm4 (by decide)
  have hr4 : Ow w4 257 2 R rp.length (wcells rp) := h3.row.mod hm4 (Ow.disj h3.row h3.dur (by decide))
  have hM4 := Mp.atOw h3.map h3.dur hm4
  refine ⟨⟨hB, ?_, hr4.mod hm5 (fun b hb hg => Ow.ne hr4 hp4 (by decide) (by have : b = p := (by simpa using hg); exact this ▸ hb)), hM4.mod hm5 (by simpa using hM4.ne hp4), ?_⟩, ?_, ?_⟩
  · have := hD.mod hm5 (fun b hb hg => Ow.ne hD hp4 (by decide) (by have : b = p := (by simpa using hg); exact this ▸ hb))
    simpa using this
  · have := hf4.at hm5 hp4 (by decide)
    simpa using this
  · intro k hk
    unfold fpD at hk ⊢
    simp only [List.mem_cons, List.mem_append, List.mem_flatMap] at hk ⊢
    rcases hk with hk | hk | (hk | hk) | ⟨x, hx, hk⟩
    · exact .inl (.inl hk)
    · exact .inl (.inr (.inl hk))
    · rcases hb4 k hk with hk | hk
      · exact .inl (.inr (.inr (.inl (.inl hk))))
      · exact .inr (Nat.le_trans hm3.size hk)
    · exact .inl (.inr (.inr (.inl (.inr hk))))
    · rcases hx with (hx | hx | hx) | hx
      · exact .inl (.inr (.inr (.inr ⟨x, .inl hx, hk⟩)))
      · subst hx; exact .inr (hn k hk)
      · cases hx
      · exact .inl (.inr (.inr (.inr ⟨x, .inr hx, hk⟩)))
  · exact ((hm3.weak (by simp)).then hm4 (fun g hg => .inl (by simp [fpD, hg]))).then hm5 (fun g hg => .inl (by have : g = p := (by simpa using hg); simp [fpD, this]))
/-- one more write that waits -/
theorem DkB.wait {R' : Value} {at_ : Nat} {st : Int} (h : DkB w0 p sz D R M dp rp) (hm3 : Mod [] w0 w3) (ho : Ob w3 v l) (hn : New w0 v) (hv1 : v.oneCell' = true) (hR : Ow w4 257 2 R' (rp.length + 1) (wcells rp ++ [.int .i64 (at_ : Nat), v])) (hm4 : Mod (blks R) w3 w4) (hb4 : ∀ k ∈ blks R', k ∈ blks R ∨ w3.heap.size ≤ k)
    (hm5 : Mod [p] w4 w5) (hB : Blk w5 p 138 [.int .i64 (sz : Nat), D, R', .map (some M)]) (hm6 : Mod [M] w5 w6) (hm7 : Mod [M] w6 w7) (hM : Mp w7 M (fun x => if x = (at_ : Int) then some v else newest rp x)) :
    DkB w7 p sz D R' M dp (rp ++ [(at_, v, l)]) ∧ (∀ k ∈ fpD p D R' M dp (rp ++ [(at_, v, l)]), k ∈ fpD p D R M dp rp ∨ w0.heap.size ≤ k) ∧ Mod (fpD p D R M dp rp) w0 w7 := by
  have h3 := h.ext hm3
  have hp4 : Blk w4 p 138 _ := h3.blk.mod hm4 (Ow.ne h3.row h3.blk (by decide))
  have hf3 : Fam w3 0 ((dp ++ rp.map (·.2)) ++ (v, l) :: []) := Fam.ins (by simpa using h.fam) (Nat.zero_le _) hm3 ho hn
  have hf4 := hf3.atOw h3.row hm4 (by decide)
  have hf5 := hf4.at hm5 hp4 (by decide)
  have hd4 : Ow w4 33 1 D dp.length (dp.map (·.1)) := h3.dur.mod hm4 (Ow.disj h3.dur h3.row (by decide))
  have hd5 := hd4.mod hm5 (fun b hb hg => Ow.ne hd4 hp4 (by decide) (by have : b = p := (by simpa using hg); exact this ▸ hb))
  have hR5 := hR.mod hm5 (fun b hb hg => Ow.ne hR hp4 (by decide) (by have : b = p := (by simpa using hg); exact this ▸ hb))
  have hM4 := Mp.atOw h3.map h3.row hm4
  have hM5 := hM4.mod hm5 (by simpa using hM4.ne hp4)
  have hm57 : Mod [M] w5 w7 := hm6.trans hm7
  have nO : ∀ {e : TypeId} {z n : Nat} {u : Value} {xs : List Value}, Ow w5 e z u n xs → ∀ b ∈ blks u, b ∉ [M] := fun {e z n u xs} hu b hb hg => by
    have : b = M := by simpa using hg
    subst this
    rcases hu.blk with ⟨rfl, _⟩ | ⟨g, cap, rest, rfl, hb', _⟩
    · simp [blks] at hb
    · have : b = g := by simpa [blks] using hb
      exact hM5.ne hb' this
  refine ⟨⟨hB.mod hm57 (by simpa using (hM5.ne hB).symm), hd5.mod hm57 (nO hd5), ?_, hM.congr (fun k => by rw [newest_snoc]), ?_⟩, ?_, ?_⟩
  · have := hR5.mod hm57 (nO hR5)
    rw [wcells_app]
    simpa [wcells] using this
  · have := hf5.mod hm57 (fun q hq b hb => nO (hf5.ob q hq).1 b hb)
    simpa using this
  · intro k hk
    unfold fpD at hk ⊢
    simp only [List.mem_cons, List.mem_append, List.mem_flatMap, List.map_append, List.map_cons, List.map_nil] at hk ⊢
    rcases hk with hk | hk | (hk | hk) | ⟨x, hx, hk⟩
    · exact .inl (.inl hk)
    · exact .inl (.inr (.inl hk))
    · exact .inl (.inr (.inr (.inl (.inl hk))))
    · rcases hb4 k hk with hk | hk
      · exact .inl (.inr (.inr (.inl (.inr hk))))
      · exact .inr (Nat.le_trans hm3.size hk)
    · rcases hx with hx | hx | hx | hx
      · exact .inl (.inr (.inr (.inr ⟨x, .inl hx, hk⟩)))
      · exact .inl (.inr (.inr (.inr ⟨x, .inr hx, hk⟩)))
      · subst hx; exact .inr (hn k hk)
      · cases hx
  · exact (((hm3.weak (by simp)).then hm4 (fun g hg => .inl (by simp [fpD, hg]))).then hm5 (fun g hg => .inl (by have : g = p := (by simpa using hg); simp [fpD, this]))).then hm57 (fun g hg => .inl (by have : g = M := (by simpa using hg); simp [fpD, this]))
theorem Fam.upd {w w' : World} {base : Nat} {A B : List (Value × List UInt8)} {l' : List UInt8} (h : Fam w base (A ++ (v, l) :: B)) (hm : Mod (blks v) w w') (ho : Ob w' v l') : Fam w' base (A ++ (v, l') :: B) := by
  have hd := h.dj
  rw [List.pairwise_append, List.pairwise_cons] at hd
  refine ⟨fun p hp => ?_, ?_⟩
  · rw [List.mem_append, List.mem_cons] at hp
    rcases hp with hp | rfl | hp
    · have := h.ob p (List.mem_append_left _ hp)
      exact ⟨Ow.mod this.1 hm (fun b hb => hd.2.2 p hp (v, l) (List.mem_cons_self ..) b hb), this.2⟩
    · exact ⟨ho, (h.ob (v, l) (List.mem_append_right _ (List.mem_cons_self ..))).2⟩
    · have := h.ob p (List.mem_append_right _ (List.mem_cons_of_mem _ hp))
      exact ⟨Ow.mod this.1 hm (fun b hb hb2 => hd.2.1.1 p hp b hb2 hb), this.2⟩
  · rw [List.pairwise_append, List.pairwise_cons]
    exact ⟨hd.1, ⟨fun q hq b hb => hd.2.1.1 q hq b hb, hd.2.1.2⟩, fun p hp q hq b hb => by
      rcases List.mem_cons.1 hq with rfl | hq
      · exact hd.2.2 p hp (v, l) (List.mem_cons_self ..) b hb
      · exact hd.2.2 p hp q (List.mem_cons_of_mem _ hq) b hb⟩
/-- a sector whose bytes have turned -/
theorem DkB.turn {w w' : World} {i : Nat} {l' : List UInt8} (h : DkB w p sz D R M dp rp) (hi : i < dp.length) (hm : Mod (blks dp[i].1) w w') (ho : Ob w' dp[i].1 l') :
    DkB w' p sz D R M (dp.set i (dp[i].1, l')) rp ∧ fpD p D R M (dp.set i (dp[i].1, l')) rp = fpD p D R M dp rp ∧ Mod (fpD p D R M dp rp) w w' := by
  have e1 : dp = dp.take i ++ (dp[i].1, dp[i].2) :: dp.drop (i + 1) := by
    have := List.take_append_drop i dp
    rw [List.drop_eq_getElem_cons hi] at this
    exact this.symm
  have e2 : dp.set i (dp[i].1, l') = dp.take i ++ (dp[i].1, l') :: dp.drop (i + 1) := by
    rw [List.set_eq_take_append_cons_drop, if_pos hi]
  have hob : Ob w dp[i].1 dp[i].2 := (h.fam.ob dp[i] (List.mem_append_left _ (List.getElem_mem hi))).1
  have hf : Fam w 0 (dp.take i ++ (dp[i].1, dp[i].2) :: (dp.drop (i + 1) ++ rp.map (·.2))) := by
    have := h.fam
    rw [e1] at this
    simpa using this
  have hf' := hf.upd hm ho
  have hmap : (dp.set i (dp[i].1, l')).map (·.1) = dp.map (·.1) := by
    rw [List.map_set]
    apply List.ext_getElem?
    intro j
    rw [List.getElem?_set]
    split
    · subst_vars; simp [hi]
    · rfl
  have hfl : (dp.set i (dp[i].1, l') ++ rp.map (·.2)).flatMap (fun x => blks x.1) = (dp ++ rp.map (·.2)).flatMap (fun x => blks x.1) := by
    rw [List.flatMap_append, List.flatMap_append]
    congr 1
    rw [List.flatMap_def, List.flatMap_def]
    congr 1
    have := congrArg (List.map blks) hmap
    simpa [Function.comp_def] using this
  refine ⟨⟨h.blk.mod hm (Ow.ne hob h.blk (by decide)), ?_, h.row.mod hm (fun b hb hb2 => Ow.disj h.row hob (by decide) b hb hb2), Mp.atOw h.map hob hm, ?_⟩, ?_, ?_⟩
  · rw [hmap, List.length_set]
    exact h.dur.mod hm (fun b hb hb2 => Ow.disj h.dur hob (by decide) b hb hb2)
  · rw [e2]
    simpa using hf'
  · unfold fpD; rw [hfl]
  · exact hm.weak fun g hg => .inl (by
      unfold fpD
      refine List.mem_cons_of_mem _ (List.mem_cons_of_mem _ (List.mem_append_right _ (List.mem_flatMap.2 ⟨dp[i], List.mem_append_left _ (List.getElem_mem hi), hg⟩))))
/-- nothing waits any more -/
theorem DkB.clear {w w1 w2 : World} (h : DkB w p sz D R M dp rp) (hm1 : Mod [p] w w1) (hB : Blk w1 p 138 [.int .i64 (sz : Nat), D, .slice none 0 0, .map (some M)]) (hm2 : Mod [M] w1 w2) (hM : Mp w2 M (fun _ => none)) :
    DkB w2 p sz D (.slice none 0 0) M dp [] ∧ (∀ k ∈ fpD p D (.slice none 0 0) M dp [], k ∈ fpD p D R M dp rp) ∧ Mod (fpD p D R M dp rp) w w2 := by
  have hf : Fam w 0 dp := h.fam.sub
  have hf1 := hf.at hm1 h.blk (by decide)
  have hd1 := h.dur.mod hm1 (fun b hb hg => Ow.ne h.dur h.blk (by decide) (by have : b = p := (by simpa using hg); exact this ▸ hb))
  have hM1 := h.map.mod hm1 (by simpa using h.map.ne h.blk)
  have nO : ∀ {e : TypeId} {z n : Nat} {u : Value} {xs : List Value}, Ow w1 e z u n xs → ∀ b ∈ blks u, b ∉ [M] := fun {e z n u xs} hu b hb hg => by
    have : b = M := by simpa using hg
    subst this
    rcases hu.blk with ⟨rfl, _⟩ | ⟨g, cap, rest, rfl, hb', _⟩
    · simp [blks] at hb
    · have : b = g := by simpa [blks] using hb
      exact hM1.ne hb' this
  refine ⟨⟨hB.mod hm2 (by simpa using (hM1.ne hB).symm), hd1.mod hm2 (nO hd1), Ow.nil _ _ _, hM.congr (fun k => rfl), ?_⟩, ?_, ?_⟩
  · have := hf1.mod hm2 (fun q hq b hb => nO (hf1.ob q hq).1 b hb)
    simpa using this
  · intro k hk
    unfold fpD at hk ⊢
    simp only [List.mem_cons, List.mem_append, List.mem_flatMap, List.map_nil, List.append_nil, blks] at hk ⊢
    rcases hk with hk | hk | hk | ⟨x, hx, hk⟩
    · exact .inl hk
    · exact .inr (.inl hk)
    · exact .inr (.inr (.inl (.inl hk)))
    · exact .inr (.inr (.inr ⟨x, .inl hx, hk⟩))
  · exact (hm1.weak (fun g hg => .inl (by have : g = p := (by simpa using hg); simp [fpD, this]))).then hm2 (fun g hg => .inl (by have : g = M := (by simpa using hg); simp [fpD, this]))
end
end Go.Proofs.YtfepggdljhiemaaGreatDoor

/-! Disks: New. -/
namespace Go.Proofs.YtfepggdljhiemaaGreatDoor
open Go.RowKit Gw

theorem bv_zeros (n : Nat) : bv (zeros n) = (List.replicate n [Value.int .u8 0]).flatten := by
  unfold bv zeros
  rw [List.map_replicate]
  induction n with
  | zero => rfl
  | succ n ih => rw [List.replicate_succ, List.replicate_succ, List.flatten_cons, ih]; rfl
theorem Ob.made {w : World} {g n : Nat} (h : Blk w g 5 ((List.replicate n (Value.int .u8 0).cells.toList).flatten)) (hn : n ≤ 9223372036854775807) : Ob w (.slice (some ⟨g, 0, none⟩) n n) (zeros n) := by
  unfold Ob
  have hl : (zeros n).length = n := by simp [zeros]
  rw [hl, bv_zeros]
  exact Ow.of_blk (rest := []) (by simpa [Value.cells] using h) (Nat.le_refl _) hn (by simp) (by simp)
def NewD (s z : Nat) (w : World) (e : Ending) (w' : World) : Prop := ∃ p L, e = .returned (.tuple #[.pointer (some ⟨p, 0, none⟩), .int .i64 0]) ∧ Dk w' p ⟨z, List.replicate s (zeros z), []⟩ L ∧ (∀ k ∈ L, w.heap.size ≤ k) ∧ Mod [] w w'
set_option maxRecDepth 1000000 in
set_option maxHeartbeats 4000000 in
theorem dnew_yes (s z : Nat) (w : World) (h : mayD s z = true) : Calls Tryz.prog 27 #[.int .i64 (s : Nat), .int .i64 (z : Nat)] w (NewD s z w) := by
  have M := fun w => may_any s z true w h
  obtain ⟨h1, h2, h3, h4⟩ := mayD_parts h
  clear h
  go_enter Tryz.func27, Tryz.ntmps27
  go_wp2_with (first
                | (with_reducible refine st_makeMap ?_)
                | (go_at_call 77; (with_reducible refine (M _).mono ?_); rintro e w1 ⟨rfl, rfl⟩))
  refine StopOp.go rfl fun K hK => ?_
  refine wp_makeMap ?_
  intro m w1 hm1 hm2 hmm hM1
  simp only [put_some, List.set_cons_succ, List.set_cons_zero]
  refine hK _ _ ?_
  clear hK K
  go_wp2_with (with_reducible refine st_box ?_)
  refine StopOp.go rfl fun K hK => ?_
  refine wp_box (v := .agg #[.int .i64 (z : Nat), .slice none 0 0, .slice none 0 0, .map (some m)]) (by rfl) ?_
  intro p w2 hp1 hp2 hmp hB2
  simp only [put_some, List.set_cons_succ, List.set_cons_zero]
  refine hK _ _ ?_
  clear hK K
  have hDk : DkB w2 p z (.slice none 0 0) (.slice none 0 0) m [] [] := ⟨hB2, Ow.nil _ _ _, Ow.nil _ _ _, hM1.ext hmp, Fam.nil _ _⟩
  have hM2 := hmm.ext hmp
  have hfp : ∀ k ∈ fpD p (.slice none 0 0) (.slice none 0 0) m [] [], w.heap.size ≤ k := by
    intro k hk
    have := hmm.size
    simp [fpD, blks] at hk
    omega
  clear hB2 hM1 hmm hmp
  go_wp2_with fail
  go_loopw [16] (fun i wr => ∃ (k : Nat) (D : Value) (dp : List (Value × List UInt8)), k ≤ s ∧ i = .int .i64 k ∧ DkB wr p z D (.slice none 0 0) m dp [] ∧ dp.map (·.2) = List.replicate k (zeros z) ∧ (∀ k ∈ fpD p D (.slice none 0 0) m dp [], w.heap.size ≤ k) ∧ Mod [] w wr) (fun i _ => s - (intOf i).toNat)
  case atStart => exact ⟨0, _, [], by omega, rfl, hDk, rfl, hfp, hM2⟩
  case round =>
    obtain ⟨k, D, dp, hk, rfl, hB, hdp, hf, hMr⟩ := hrel
    by_cases hlt : k < s
    · obtain ⟨aoD, capD, rfl, hcD, _⟩ := hB.dur.sl.form
      have hdl : dp.length = k := by have := congrArg List.length hdp; simpa using this
      have y0 : (k : Int) < s := by omega
      have y1 : (z : Int) ≤ 4096 := h4
      have HDP := Lib.hid hdp
      have HDL := Lib.hid hdl
      clear hdp hdl
      have c1 := hB.blk.cell' (i := 1) rfl
      go_wp2_with fail
      refine wp_region_T [⟨0, true, []⟩, ⟨1, true, []⟩, ⟨2, true, []⟩, ⟨3, true, []⟩, ⟨4, true, []⟩, ⟨5, true, []⟩, ⟨6, false, [2, 4]⟩, ⟨7, false, [2, 4]⟩, ⟨8, false, []⟩, ⟨9, true, []⟩, ⟨10, true, []⟩, ⟨11, false, []⟩] (by kernel_rfl) (by kernel_rfl) ?_
      have hm0 : Mod [] wr wr.drew := Mod.drew [] _
      have hB0 := hB.ext hm0
      obtain ⟨w0, hw0⟩ : ∃ x, x = wr.drew := ⟨_, rfl⟩
      rw [← hw0] at hB0 hm0 ⊢
      clear hw0 c1
      have c1 := hB0.blk.cell' (i := 1) rfl
      iterate 6 (refine wpT_n rfl rfl (fun K hK => ?_); go_wp2_with fail)
      refine wpT_e rfl rfl (fun K hK => ?_)
      refine wp_make (nl := z) (nc := z) stB (by rfl) (by rfl) rfl rfl (Nat.le_refl _) (by omega) (by omega) ?_
      intro g x1 hg1 hg2 hmx1 hBx1
      simp only [put_some, List.set_cons_succ, List.set_cons_zero]
      refine hK _ _ ⟨agains_cons rfl (again_const (fun _ => rfl)) (agains_cons rfl (again_load rfl rfl (hmx1.block p hB0.blk.lt (by simp)) hB0.blk.kinds) agains_nil), ?_⟩
      clear hK K
      have hob1 := Ob.made hBx1 (by omega)
      have hn1 : New w0 (.slice (some ⟨g, 0, none⟩) z z) := fun q hq => by rw [show q = g by simpa [blks] using hq]; exact hg1
      refine wpT_e rfl rfl (fun K hK => ?_)
      refine wp_bslice stDR [.slice (some ⟨g, 0, none⟩) z z] rfl (by decide) (by rfl) (by simp [Value.cells]) ?_
      intro q x2 hq1 hq2 hmx2 hBx2
      simp only [put_some, List.set_cons_succ, List.set_cons_zero]
      have hB1 := hB0.ext hmx1
      refine hK _ _ ⟨agains_cons rfl (again_const (fun _ => rfl)) (agains_cons rfl (again_load rfl rfl (hmx2.block p hB1.blk.lt (by simp)) hB1.blk.kinds) agains_nil), ?_⟩
      clear hK K
      have hS2 : Sl x2 1 (.slice (some ⟨q, 0, none⟩) 1 1) 1 [.slice (some ⟨g, 0, none⟩) z z] := (Ow.of_blk (rest := []) hBx2 (Nat.le_refl _) (by omega) rfl rfl : Ow x2 33 1 (.slice (some ⟨q, 0, none⟩) 1 1) 1 [.slice (some ⟨g, 0, none⟩) z z]).sl
      have hB2 := hB1.ext hmx2
      refine wpT_e0 rfl rfl (fun K hK => ?_)
      refine wp_append_ow stDR (by rfl) (by rfl) hB2.dur hS2 (by simp [Value.oneCell']) (by have := HDL.out; omega) (by have := HDL.out; omega) ?_
      intro D4 x4 hD4 hmx4 hb4
      simp only [put_some, List.set_cons_succ, List.set_cons_zero]
      refine hK _ _ ?_
      clear hK K
      have hp4 : Blk x4 p 138 _ := hB2.blk.mod hmx4 (Ow.ne hB2.dur hB2.blk (by decide))
      iterate 2 (refine wpT_n rfl rfl (fun K hK => ?_); go_wp2_with fail)
      refine wpT_e0 rfl rfl (fun K hK => ?_)
      refine wp_store1 (by kernel_rfl) (by rfl) (by rfl) hD4.sl.one hp4 (by simp) ?_
      intro x5 hmx5 hBx5
      refine hK _ _ ?_
      clear hK K
      have hfin := hB0.sector (hmx1.ext hmx2) (hob1.ext hmx2) hn1 hD4 hmx4 hb4 hmx5 (by simpa using hBx5)
      have hs0 := hMr.size
      have hs1 := hm0.size
      have hM5 : Mod [] w x5 := (hMr.ext hm0).fresh hfin.2.2 hf
      refine wpT_nil ?_
      go_wp2_with fail
      go_roundw
      case rel => exact ⟨k + 1, D4, _, by omega, by go_num, hfin.1, by rw [List.map_append, HDP.out, List.replicate_succ']; rfl, fun q hq => (hfin.2.1 q hq).elim (hf q) (fun h => by omega), hM5⟩
      case measure => simp [intOf]; omega
    · obtain rfl : k = s := by omega
      go_wp2_with fail
      go_ret2
      exact ⟨p, _, rfl, ⟨_, _, _, _, _, hB, by unfold Dm.of; rw [hdp]; rfl, rfl⟩, hf, hMr⟩
end Go.Proofs.YtfepggdljhiemaaGreatDoor

/-! What is written, told by a number. -/
namespace Go.Proofs.YtfepggdljhiemaaGreatDoor
open Go.RowKit Gw

end Go.Proofs.YtfepggdljhiemaaGreatDoor

/-! Disks: Write. -/
namespace Go.Proofs.YtfepggdljhiemaaGreatDoor
open Go.RowKit Gw

/-- the error of a write -/
def writeE (m : Dm) (at_ : Int) (n : Nat) : Int := if noneE m.dur.length at_ = 0 then (if n = m.sz then 0 else 3) else noneE m.dur.length at_
theorem dwrite_no (v bvv : Value) (at_ : Int) (w : World) (h : NoDk w v) : Calls Tryz.prog 146 #[v, .int .i64 at_, bvv] w fun e w' => e = .returned (.int .i64 1) ∧ w = w' := by
  have T := fun w h => none_no v at_ w h
  go_enter Tryz.func146, Tryz.ntmps146
  go_wp2_with (go_at_call 176; (with_reducible refine (T _ h).mono ?_); rintro e w1 ⟨rfl, rfl⟩)
  go_ret
  exact ⟨rfl, rfl⟩
theorem zero_waits : (Tryz.prog.info? 257).map (·.zero) = some (some (.agg #[.int .i64 0, .slice none 0 0])) := by kernel_rfl
theorem dwrite_bad (p : Nat) (m : Dm) (L : List Nat) (at_ E : Int) (l : List UInt8) (bvv : Value) (w : World) (h : Dk w p m L) (hok : m.ok) (hb : Bs w bvv l) (hE : writeE m at_ l.length = E) (hE0 : E ≠ 0) :
    Calls Tryz.prog 146 #[.pointer (some ⟨p, 0, none⟩), .int .i64 at_, bvv] w fun e w' => e = .returned (.int .i64 E) ∧ w = w' := by
  obtain ⟨ao0, cap0, rfl, hnc0, hcap0⟩ := hb.form
  obtain ⟨D, R, M, hB, ⟨ao, cap, rfl, _⟩, ao', cap', rfl, _⟩ := h.blk
  obtain ⟨F, hF⟩ : ∃ F, noneE m.dur.length at_ = F := ⟨_, rfl⟩
  have T := fun w h => none_any p m.sz m.dur.length cap ao (.slice ao' m.row.length cap') M at_ F w h hok.s1 hF
  unfold writeE at hE
  rw [hF] at hE
  have c0 := hB.cell' (i := 0) rfl
  clear h hF
  by_cases h0 : F = 0
  · subst h0
    rw [if_pos rfl] at hE
    have hn : l.length ≠ m.sz := fun hh => hE0 (by rw [← hE, if_pos hh])
    rw [if_neg hn] at hE
    subst hE
    have e1 : (l.length == m.sz) = false := by simpa using hn
    have e2 : ((l.length : Int) == m.sz) = false := by simp; omega
    have e3 : (l.length != m.sz) = true := by simpa using hn
    have e4 : ((l.length : Int) != m.sz) = true := by simp; omega
    clear hn hE0
    go_enter Tryz.func146, Tryz.ntmps146
    go_wp2_with (go_at_call 176; (with_reducible refine (T _ hB).mono ?_); rintro e w1 ⟨rfl, rfl⟩)
    go_ret
    exact ⟨rfl, rfl⟩
  · rw [if_neg h0] at hE
    subst hE
    have e1 : (F != 0) = true := by simpa using h0
    clear hE0
    go_enter Tryz.func146, Tryz.ntmps146
    go_wp2_with (go_at_call 176; (with_reducible refine (T _ hB).mono ?_); rintro e w1 ⟨rfl, rfl⟩)
    go_ret
    exact ⟨rfl, rfl⟩
set_option maxRecDepth 1000000 in
set_option maxHeartbeats 4000000 in
theorem dwrite_ok (p : Nat) (m : Dm) (L : List Nat) (a : Nat) (l : List UInt8) (bvv : Value) (w : World) (h : Dk w p m L) (hok : m.ok) (hb : Bs w bvv l) (ha : a < m.dur.length) (hl : l.length = m.sz) (hr : m.row.length ≤ 1000000000) :
    Calls Tryz.prog 146 #[.pointer (some ⟨p, 0, none⟩), .int .i64 (a : Nat), bvv] w fun e w' => e = .returned (.int .i64 0) ∧ DkPost w p (m.write a l) L w' := by
  obtain ⟨ao0, cap0, rfl, hnc0, hcap0⟩ := hb.form
  obtain ⟨D, R, M, dp, rp, hB, hm, hL⟩ := h
  obtain ⟨aoD, capD, rfl, hcD, _⟩ := hB.dur.sl.form
  obtain ⟨aoR, capR, rfl, hcR, _⟩ := hB.row.sl.form
  have hF : noneE dp.length (a : Nat) = 0 := by
    have : m.dur.length = dp.length := by rw [hm]; simp [Dm.of]
    unfold noneE; rw [if_neg (by omega)]
  have hrl : rp.length ≤ 1000000000 := by
    have : m.row.length = rp.length := by rw [hm]; simp [Dm.of]
    omega
  have hs1 := hok.s1
  have hs2 := hok.s2
  have T := fun w h => none_any p m.sz dp.length capD aoD (.slice aoR rp.length capR) M (a : Nat) 0 w h hs1 hF
  rw [hl] at hnc0 ⊢
  obtain ⟨sz, hsz⟩ : ∃ sz, sz = m.sz := ⟨_, rfl⟩
  rw [← hsz] at hB hl hs1 hs2 T hnc0 ⊢
  have H := Lib.hid (And.intro hm (And.intro hL (And.intro hsz hl)))
  have h0 : 0 < l.length := by omega
  have hl2 : l.length ≤ 140737488355328 := by omega
  rw [hl] at hb
  clear hm hL hok hF ha hr hsz hl
  have c0 := hB.blk.cell' (i := 0) rfl
  go_enter Tryz.func146, Tryz.ntmps146
  go_wp2_with (first
                | (with_reducible refine st_alloc ?_)
                | (go_at_call 176; (with_reducible refine (T _ hB.blk).mono ?_); rintro e w1 ⟨rfl, rfl⟩)
                | (go_at_call 133; refine (bclone_any l _ _ hb h0 hl2).mono ?_; rintro e w2 ⟨v2, rfl, ho2, hn2, hm2⟩; obtain ⟨ao2, cap2, rfl, hc2, _⟩ := ho2.bs.form))
  refine StopOp.go rfl fun K hK => ?_
  refine wp_alloc zero_waits ?_
  intro q w3 hq1 hq2 hm3 hQ3
  simp only [put_some, List.set_cons_succ, List.set_cons_zero]
  refine hK _ _ ?_
  clear hK K
  go_wp2_with (with_reducible refine st_store ?_)
  refine StopOp.go rfl fun K hK => ?_
  refine wp_store (u := .agg #[.int .i64 (a : Nat), .slice ao2 l.length cap2]) (by rfl) (by rfl) (by kernel_rfl) hQ3 (by simp [Value.cells]) (by simp [Value.cells, Value.oneCell']) ?_
  intro w4 hm4 hQ4
  refine hK _ _ ?_
  clear hK K
  have hQ : Blk w4 q 257 [.int .i64 (a : Nat), .slice ao2 l.length cap2] := hQ4
  have hm24 : Mod [] w2 w4 := hm3.fresh hm4 (by simpa using hq1)
  have hs := hm2.size
  clear hQ3 hQ4 hm3 hm4 T
  go_wp2_with fail
  refine wp_region_T [⟨0, true, []⟩, ⟨1, true, []⟩, ⟨2, true, []⟩, ⟨3, true, []⟩, ⟨4, true, []⟩, ⟨5, true, []⟩, ⟨6, true, []⟩, ⟨7, true, []⟩, ⟨8, true, []⟩, ⟨9, true, []⟩, ⟨10, true, []⟩, ⟨13, true, []⟩, ⟨14, true, []⟩, ⟨11, false, [2, 4, 7, 9, 14]⟩, ⟨12, false, [2, 4, 14]⟩, ⟨15, true, []⟩, ⟨16, true, []⟩, ⟨17, false, [14]⟩, ⟨18, false, [14]⟩, ⟨19, true, []⟩, ⟨20, false, []⟩] (by kernel_rfl) (by kernel_rfl) ?_
  have hm05 : Mod [] w w4.drew := (hm2.ext hm24).ext (Mod.drew [] _)
  have hB5 := hB.ext hm05
  have ho5 : Ob w4.drew _ l := (ho2.ext hm24).ext (Mod.drew [] _)
  have hQ5 := hQ.ext (Mod.drew [] w4)
  obtain ⟨w5, hw5⟩ : ∃ x, x = w4.drew := ⟨_, rfl⟩
  rw [← hw5] at hm05 hB5 ho5 hQ5 ⊢
  clear hw5 hm24 hQ hm2 c0 ho2
  have c2 := hB5.blk.cell' (i := 2) rfl
  have c3 := hB5.blk.cell' (i := 3) rfl
  have q0 := hQ5.cell' (i := 0) rfl
  have q1 := hQ5.cell' (i := 1) rfl
  iterate 13 (refine wpT_n rfl rfl (fun K hK => ?_); go_wp2_with fail)
  refine wpT_e rfl rfl (fun K hK => ?_)
  refine wp_bslice stDW [.agg #[.int .i64 (a : Nat), .slice ao2 l.length cap2]] rfl (by decide) (by rfl) (by simp [Value.cells]) ?_
  intro g x1 hg1 hg2 hmx1 hBx1
  simp only [put_some, List.set_cons_succ, List.set_cons_zero]
  refine hK _ _ ⟨agains_cons rfl (again_const (fun _ => rfl)) (agains_cons rfl (again_load rfl rfl (hmx1.block p hB5.blk.lt (by simp)) hB5.blk.kinds) (agains_cons rfl (again_const (fun _ => rfl)) (agains_cons rfl (again_load rfl rfl (hmx1.block p hB5.blk.lt (by simp)) hB5.blk.kinds) (agains_cons rfl (again_load rfl rfl (hmx1.block q hQ5.lt (by simp)) hQ5.kinds) agains_nil)))), ?_⟩
  clear hK K
  have hB6 := hB5.ext hmx1
  have hQ6 := hQ5.ext hmx1
  have hS6 : Sl x1 2 (.slice (some ⟨g, 0, none⟩) 1 1) 1 [.int .i64 (a : Nat), .slice ao2 l.length cap2] := (Ow.of_blk (rest := []) hBx1 (Nat.le_refl _) (by omega) rfl rfl : Ow x1 257 2 (.slice (some ⟨g, 0, none⟩) 1 1) 1 [.int .i64 (a : Nat), .slice ao2 l.length cap2]).sl
  refine wpT_e rfl rfl (fun K hK => ?_)
  refine wp_append_ow stDW (by rfl) (by rfl) hB6.row hS6 (by simp [Value.oneCell']) (by omega) (by omega) ?_
  intro R7 x2 hR7 hmx2 hb7
  simp only [put_some, List.set_cons_succ, List.set_cons_zero]
  have hp6 : p ∉ blks (.slice aoR rp.length capR) := Ow.ne hB6.row hB6.blk (by decide)
  have hq6 : q ∉ blks (.slice aoR rp.length capR) := fun hh => by have := hB.row.lt q hh; omega
  refine hK _ _ ⟨agains_cons rfl (again_const (fun _ => rfl)) (agains_cons rfl (again_load rfl rfl (hmx2.block p hB6.blk.lt hp6) hB6.blk.kinds) (agains_cons rfl (again_load rfl rfl (hmx2.block q hQ6.lt hq6) hQ6.kinds) agains_nil)), ?_⟩
  clear hK K
  have hB7 := hB6.blk.mod hmx2 hp6
  have hQ7 := hQ6.mod hmx2 hq6
  have hM7 := Mp.atOw hB6.map hB6.row hmx2
  iterate 2 (refine wpT_n rfl rfl (fun K hK => ?_); go_wp2_with fail)
  refine wpT_e rfl rfl (fun K hK => ?_)
  refine wp_store1 (by kernel_rfl) (by rfl) (by rfl) hR7.sl.one hB7 (by simp) ?_
  intro x3 hmx3 hBx3
  have hqp : q ≠ p := hQ7.ne hB7 (by decide)
  refine hK _ _ ⟨agains_cons rfl (again_load rfl rfl (hmx3.block q hQ7.lt (by simpa using hqp)) hQ7.kinds) agains_nil, ?_⟩
  clear hK K
  have hQ8 := hQ7.mod hmx3 (by simpa using hqp)
  have hM8 := hM7.mod hmx3 (by simpa using hM7.ne hB7)
  refine wpT_e rfl rfl (fun K hK => ?_)
  refine wp_entry (z := .slice none 0 0) Tryz.underlying135 Tryz.underlying3 (by kernel_rfl) (by rfl) (by rfl) hM8 ?_
  intro v9 st9 x4 hmx4 hM9
  simp only [put_some, List.set_cons_succ, List.set_cons_zero]
  refine hK _ _ ⟨agains_cons rfl (again_load rfl rfl (hmx4.block q hQ8.lt (by simpa using (hM8.ne hQ8).symm)) hQ8.kinds) agains_nil, ?_⟩
  clear hK K
  refine wpT_n rfl rfl (fun K hK => ?_)
  go_wp2_with fail
  refine wpT_e0 rfl rfl (fun K hK => ?_)
  refine wp_entryStore (by rfl) (by rfl) (by rfl) hM9 ?_
  intro x5 hmx5 hM10
  refine hK _ _ ?_
  clear hK K
  have hfin := hB.wait (at_ := a) (st := st9) (l := l) (v := .slice ao2 l.length cap2) (hm05.ext hmx1) (ho5.ext hmx1) hn2 rfl hR7 hmx2 (fun k hk => (hb7 k hk).imp id fun h => by have := hm05.size; omega) hmx3 (by simpa using hBx3) hmx4 hmx5 hM10
  refine wpT_nil ?_
  go_wp2_with fail
  go_ret
  refine ⟨rfl, _, ⟨_, _, _, _, _, by rw [show (m.write a l).sz = sz from H.out.2.2.1.symm]; exact hfin.1, ?_, rfl⟩, ?_, ?_⟩
  · rw [H.out.1]
    simp [Dm.write, Dm.of]
  · rw [H.out.2.1]; exact hfin.2.2
  · rw [H.out.2.1]; exact hfin.2.1
end Go.Proofs.YtfepggdljhiemaaGreatDoor

/-! Disks: Read. -/
namespace Go.Proofs.YtfepggdljhiemaaGreatDoor
open Go.RowKit Gw

theorem find_map {rp : List (Nat × Value × List UInt8)} (a : Nat) : (rp.map fun x => (x.1, x.2.2)).reverse.find? (fun x => decide (x.1 = a)) = (rp.reverse.find? fun x => decide ((x.1 : Int) = (a : Nat))).map fun x => (x.1, x.2.2) := by
  have e : ((fun x : Nat × List UInt8 => decide (x.1 = a)) ∘ fun x : Nat × Value × List UInt8 => (x.1, x.2.2)) = fun x => decide ((x.1 : Int) = (a : Nat)) := by
    funext x
    simp [Function.comp, Int.ofNat_inj]
  rw [← List.map_reverse, List.find?_map, e]
theorem newest_some {sz : Nat} {dp : List (Value × List UInt8)} {rp : List (Nat × Value × List UInt8)} {a : Nat} {v : Value} (h : newest rp (a : Nat) = some v) : (v, (Dm.of sz dp rp).read a) ∈ dp ++ rp.map (·.2) := by
  unfold newest at h
  unfold Dm.read Dm.of
  dsimp only
  rw [find_map a]
  cases hf : rp.reverse.find? (fun x => decide ((x.1 : Int) = (a : Nat))) with
  | none => rw [hf] at h; cases h
  | some x =>
    rw [hf] at h
    cases h
    exact List.mem_append_right _ (List.mem_map.2 ⟨x, List.mem_reverse.1 (List.mem_of_find?_eq_some hf), rfl⟩)
theorem newest_none {sz : Nat} {dp : List (Value × List UInt8)} {rp : List (Nat × Value × List UInt8)} {a : Nat} (h : newest rp (a : Nat) = none) (ha : a < dp.length) : (Dm.of sz dp rp).read a = dp[a].2 := by
  unfold newest at h
  unfold Dm.read Dm.of
  dsimp only
  rw [find_map a]
  cases hf : rp.reverse.find? (fun x => decide ((x.1 : Int) = (a : Nat))) with
  | some x => rw [hf] at h; cases h
  | none => simp [List.getElem?_eq_getElem ha]
theorem dread_no (v : Value) (at_ : Int) (w : World) (h : NoDk w v) : Calls Tryz.prog 144 #[v, .int .i64 at_] w fun e w' => e = .returned (.tuple #[.slice none 0 0, .int .i64 1]) ∧ w = w' := by
  have T := fun w h => none_no v at_ w h
  go_enter Tryz.func144, Tryz.ntmps144
  go_wp2_with (go_at_call 176; (with_reducible refine (T _ h).mono ?_); rintro e w1 ⟨rfl, rfl⟩)
  go_ret2
  exact ⟨rfl, rfl⟩
theorem dread_bad (p : Nat) (m : Dm) (L : List Nat) (at_ E : Int) (w : World) (h : Dk w p m L) (hs : 64 ≤ m.sz) (hE : noneE m.dur.length at_ = E) (hE0 : E ≠ 0) :
    Calls Tryz.prog 144 #[.pointer (some ⟨p, 0, none⟩), .int .i64 at_] w fun e w' => e = .returned (.tuple #[.slice none 0 0, .int .i64 E]) ∧ w = w' := by
  obtain ⟨D, R, M, hB, ⟨ao, cap, rfl, _⟩, ao', cap', rfl, _⟩ := h.blk
  have T := fun w h => none_any p m.sz m.dur.length cap ao (.slice ao' m.row.length cap') M at_ E w h hs hE
  have e1 : (E != 0) = true := by simpa using hE0
  clear h hE hE0
  go_enter Tryz.func144, Tryz.ntmps144
  go_wp2_with (go_at_call 176; (with_reducible refine (T _ hB).mono ?_); rintro e w1 ⟨rfl, rfl⟩)
  go_ret2
  exact ⟨rfl, rfl⟩
set_option maxRecDepth 1000000 in
set_option maxHeartbeats 4000000 in
theorem dread_ok (p : Nat) (m : Dm) (L : List Nat) (a : Nat) (w : World) (h : Dk w p m L) (hok : m.ok) (ha : a < m.dur.length) :
    Calls Tryz.prog 144 #[.pointer (some ⟨p, 0, none⟩), .int .i64 (a : Nat)] w fun e w' => ∃ v, e = .returned (.tuple #[v, .int .i64 0]) ∧ Ob w' v (m.read a) ∧ New w v ∧ Mod [] w w' := by
  have hrl := hok.read ha
  obtain ⟨D, R, M, dp, rp, hB, hm, hL⟩ := h
  obtain ⟨aoD, capD, rfl, hcD, _⟩ := hB.dur.sl.form
  obtain ⟨aoR, capR, rfl, hcR, _⟩ := hB.row.sl.form
  have had : a < dp.length := by rw [hm] at ha; simpa [Dm.of] using ha
  have hs1 := hok.s1
  have hs2 := hok.s2
  have hF : noneE dp.length (a : Nat) = 0 := by unfold noneE; rw [if_neg (by omega)]
  have T := fun w h => none_any p m.sz dp.length capD aoD (.slice aoR rp.length capR) M (a : Nat) 0 w h hs1 hF
  have c3 := hB.blk.cell' (i := 3) rfl
  have c1 := hB.blk.cell' (i := 1) rfl
  have hN1 := fun v (h : newest rp (a : Nat) = some v) => (newest_some (sz := m.sz) (dp := dp) h)
  have hN2 := fun (h : newest rp (a : Nat) = none) => (newest_none (sz := m.sz) (dp := dp) h had)
  rw [← hm] at hN1 hN2
  obtain ⟨B, hBr⟩ : ∃ B, B = m.read a := ⟨_, rfl⟩
  rw [← hBr] at hrl hN1 hN2 ⊢
  obtain ⟨sz, hsz⟩ : ∃ sz, sz = m.sz := ⟨_, rfl⟩
  rw [← hsz] at hB hrl hs1 hs2 T
  have l1 : 0 < B.length := by omega
  have l2 : B.length ≤ 140737488355328 := by omega
  clear hm hL hok hF ha hBr hsz hrl
  cases hN : newest rp (a : Nat) with
  | some v =>
    have hv := (hB.fam.ob _ (hN1 v hN)).1
    dsimp only at hv
    have HN := Lib.hid hN
    clear hN hN1 hN2
    obtain ⟨aov, capv, rfl, _, _⟩ := hv.bs.form
    go_enter Tryz.func144, Tryz.ntmps144
    go_wp2_with (first
                  | (with_reducible refine st_lookup ?_)
                  | (go_at_call 176; (with_reducible refine (T _ hB.blk).mono ?_); rintro e w1 ⟨rfl, rfl⟩))
    refine StopOp.go rfl fun K hK => ?_
    refine wp_look_some (z := .slice none 0 0) Tryz.underlying135 Tryz.underlying3 (by kernel_rfl) (by rfl) (by rfl) hB.map HN.out ?_
    simp only [put_some, List.set_cons_succ, List.set_cons_zero]
    refine hK _ _ ?_
    clear hK K
    go_wp2_with (go_at_call 133; refine (bclone_any B _ _ hv.bs l1 l2).mono ?_; rintro e w2 ⟨v2, rfl, ho2, hn2, hm2⟩)
    go_ret2
    exact ⟨_, rfl, ho2, hn2, hm2⟩
  | none =>
    have hr := hN2 hN
    have HN := Lib.hid hN
    have hsl := hB.dur.sl
    obtain ⟨bd, od, cd, hv, _, _, hcell⟩ := hsl.at (by intro h; have := congrArg List.length h; simp at this; simp [this] at had)
    injection hv with e1 e2 e3
    subst e1 e3
    have hc := hcell a dp[a].1 (by simp [had])
    have hv := (hB.fam.ob dp[a] (List.mem_append_left _ (List.getElem_mem had))).1
    rw [← hr] at hv
    obtain ⟨v, hvv⟩ : ∃ v, v = dp[a].1 := ⟨_, rfl⟩
    rw [← hvv] at hv hc
    obtain ⟨aov, capv, rfl, _, _⟩ := hv.bs.form
    have y1 : (0 : Int) ≤ a := by omega
    have y2 : (a : Int) < dp.length := by omega
    clear hN hN1 hN2 hr hcell hvv hsl
    go_enter Tryz.func144, Tryz.ntmps144
    go_wp2_with (first
                  | (with_reducible refine st_lookup ?_)
                  | (go_at_call 176; (with_reducible refine (T _ hB.blk).mono ?_); rintro e w1 ⟨rfl, rfl⟩))
    refine StopOp.go rfl fun K hK => ?_
    refine wp_look_none (z := .slice none 0 0) Tryz.underlying135 Tryz.underlying3 (by kernel_rfl) (by rfl) (by rfl) hB.map HN.out ?_
    simp only [put_some, List.set_cons_succ, List.set_cons_zero]
    refine hK _ _ ?_
    clear hK K
    go_wp2_with (go_at_call 133; refine (bclone_any B _ _ hv.bs l1 l2).mono ?_; rintro e w2 ⟨v2, rfl, ho2, hn2, hm2⟩)
    go_ret2
    exact ⟨_, rfl, ho2, hn2, hm2⟩
end Go.Proofs.YtfepggdljhiemaaGreatDoor

/-! Disks: how many bytes of a write become durable: what Sync and Crash say. -/
namespace Go.Proofs.YtfepggdljhiemaaGreatDoor
open Go.RowKit Gw

/-- fates: their kind, and where they tear -/
def fcells (F : List (Int × Int)) : List Value := F.flatMap fun x => [.int .i64 x.1, .int .i64 x.2]
theorem fcells_at : ∀ (F : List (Int × Int)) (j : Nat) (h : j < F.length), (fcells F)[j * 2]? = some (.int .i64 F[j].1) ∧ (fcells F)[j * 2 + 1]? = some (.int .i64 F[j].2)
  | x :: l, 0, h => ⟨rfl, rfl⟩
  | x :: l, j + 1, h => by
    have := fcells_at l j (by simpa using h)
    simp only [List.getElem_cons_succ]
    have e1 : (j + 1) * 2 = j * 2 + 2 := by omega
    rw [e1]
    unfold fcells at this ⊢
    rw [List.flatMap_cons]
    exact this
theorem fcells_len (F : List (Int × Int)) : (fcells F).length = F.length * 2 := by
  induction F with
  | nil => rfl
  | cons x l ih => unfold fcells at ih ⊢; rw [List.flatMap_cons, List.length_append, ih]; simp; omega
/-- a slice of fates -/
def Fs (w : World) (v : Value) (F : List (Int × Int)) : Prop := Sl w 2 v F.length (fcells F)
theorem Fs.far {w w' : World} {v : Value} {F : List (Int × Int)} {L : List Nat} (h : Fs w v F) (hm : Mod L w w') (hL : F ≠ [] → ∀ b ∈ blks v, b ∉ L) : Fs w' v F :=
  Sl.keep h fun b hb hx => hm.block b (Sl.lt h hx b hb) (hL (by rintro rfl; exact hx rfl) b hb)
def fateK (sz : Nat) (F : List (Int × Int)) (i : Nat) : Int := match F[i]? with
  | some x => if x.1 = 1 then sz else if x.1 = 2 then x.2 else 0
  | none => 0
theorem zero_fate : (Tryz.prog.info? 186).map (·.zero) = some (some (.agg #[.int .i64 0, .int .i64 0])) := by kernel_rfl
theorem sync1_any (i : Int) (q p sz : Nat) (D R : Value) (M : Nat) (w : World) (hq : Blk w q 72 [.pointer (some ⟨p, 0, none⟩)]) (hB : Blk w p 138 [.int .i64 (sz : Nat), D, R, .map (some M)]) :
    Calls Tryz.prog 177 #[.int .i64 i, .pointer (some ⟨q, 0, none⟩)] w fun e w' => e = .returned (.int .i64 (sz : Nat)) ∧ w = w' := by
  have c0 := hB.cell' (i := 0) rfl
  have d0 := hq.cell' (i := 0) rfl
  clear hB hq
  go_enter Tryz.func177, Tryz.ntmps177
  go_wp2
  go_ret
  exact ⟨rfl, rfl⟩
set_option maxHeartbeats 1000000 in
theorem crash1_any (i : Nat) (F : List (Int × Int)) (fv : Value) (t q p sz : Nat) (D R : Value) (M : Nat) (w : World) (ht : Blk w t 56 [fv]) (hq : Blk w q 72 [.pointer (some ⟨p, 0, none⟩)]) (hF : Fs w fv F)
    (hB : Blk w p 138 [.int .i64 (sz : Nat), D, R, .map (some M)]) :
    Calls Tryz.prog 130 #[.int .i64 (i : Nat), .pointer (some ⟨t, 0, none⟩), .pointer (some ⟨q, 0, none⟩)] w fun e w' => e = .returned (.int .i64 (fateK sz F i)) ∧ Mod [] w w' := by
  obtain ⟨ao, cap, rfl, hc1, hc2⟩ := hF.form
  have t0 := ht.cell' (i := 0) rfl
  by_cases hi : i < F.length
  · obtain ⟨b, o, c, hv, _, _, hcell⟩ := hF.at (by intro h; have := congrArg List.length h; rw [fcells_len] at this; simp only [List.length_nil] at this; omega)
    injection hv with e1 e2 e3
    subst e1 e3
    have f0 := hcell _ _ (fcells_at F i hi).1
    have f1 := hcell _ _ (fcells_at F i hi).2
    rw [← Nat.add_assoc] at f1
    have hk : fateK sz F i = if F[i].1 = 1 then (sz : Int) else if F[i].1 = 2 then F[i].2 else 0 := by unfold fateK; rw [List.getElem?_eq_getElem hi]
    rw [hk]
    obtain ⟨k, hkk⟩ : ∃ k, k = F[i].1 := ⟨_, rfl⟩
    obtain ⟨a, haa⟩ : ∃ k, k = F[i].2 := ⟨_, rfl⟩
    rw [← hkk] at f0 ⊢
    rw [← haa] at f1 ⊢
    have y1 : (i : Int) < F.length := by omega
    have y2 : (0 : Int) ≤ i := by omega
    have hBq := hq
    obtain ⟨G, hG⟩ : ∃ G : Int, G = if k = 1 then (sz : Int) else if k = 2 then a else 0 := ⟨_, rfl⟩
    rw [← hG]
    have HG := Lib.hid hG
    clear hkk haa hk hcell hG
    go_enter Tryz.func130, Tryz.ntmps130
    go_wp2_with (with_reducible refine st_alloc ?_)
    refine StopOp.go rfl fun K hK => ?_
    refine wp_alloc zero_fate ?_
    intro g w1 hg1 hg2 hm1 hB1
    simp only [put_some, List.set_cons_succ, List.set_cons_zero]
    refine hK _ _ ?_
    clear hK K
    go_wp2_with (with_reducible refine st_store ?_)
    refine StopOp.go rfl fun K hK => ?_
    refine wp_store (u := .agg #[.int .i64 k, .int .i64 a]) (by rfl) (by rfl) (by kernel_rfl) hB1 (by simp [Value.cells]) (by simp [Value.cells, Value.oneCell']) ?_
    intro w2 hm2 hB2
    refine hK _ _ ?_
    clear hK K
    have hX : Blk w2 g 186 [.int .i64 k, .int .i64 a] := hB2
    have hM2 : Mod [] w w2 := hm1.fresh hm2 (by simpa using hg1)
    have x0 := hX.cell' (i := 0) rfl
    have x1 := hX.cell' (i := 1) rfl
    have q0 := (hq.ext hM2).cell' (i := 0) rfl
    have b0 := (hB.ext hM2).cell' (i := 0) rfl
    clear hB1 hB2 hm1 hm2 hX hBq hB hq ht hF
    by_cases k1 : k = 1
    · subst k1
      obtain rfl : G = sz := by rw [HG.out, if_pos rfl]
      go_wp2_with fail
      go_ret
      exact ⟨rfl, hM2⟩
    · have e1 : (k == 1) = false := by simpa using k1
      by_cases k2 : k = 2
      · subst k2
        obtain rfl : G = a := by rw [HG.out, if_neg k1, if_pos rfl]
        go_wp2_with fail
        go_ret
        exact ⟨rfl, hM2⟩
      · have e2 : (k == 2) = false := by simpa using k2
        obtain rfl : G = 0 := by rw [HG.out, if_neg k1, if_neg k2]
        clear k1 k2
        go_wp2_with fail
        go_ret
        exact ⟨rfl, hM2⟩
  · have hk : fateK sz F i = 0 := by unfold fateK; rw [List.getElem?_eq_none (by omega)]
    rw [hk]
    have y1 : (F.length : Int) ≤ i := by omega
    have y2 : F.length ≤ i := by omega
    clear hk
    go_enter Tryz.func130, Tryz.ntmps130
    go_wp2
    go_ret
    exact ⟨rfl, Mod.refl _ _⟩
end Go.Proofs.YtfepggdljhiemaaGreatDoor
