import Derived.Test.YtboigcnpamldlaaDoorFrC
/-! Frames: lists of frames in memory. -/
set_option linter.unusedVariables false
set_option linter.unusedSimpArgs false
set_option maxRecDepth 100000
namespace Go.Proofs.YtboigcnpamldlaaDoor
open Go.RowKit Gw

def Fi.cells (x : Fi) : List Value := [.int .u64 (x.f.e : Nat), .int .u64 (x.f.s : Nat), x.v]
def Fi.kv (x : Fi) : Value × List UInt8 := (x.v, x.f.l)
theorem stFr : ST Tryd.prog 41 25 (.agg #[.int .u64 0, .int .u64 0, .slice none 0 0]) 3 40 := ⟨Tryd.underlying41, by kernel_rfl, rfl, by decide⟩
theorem flen3 : ∀ L : List Fi, (L.flatMap Fi.cells).length = L.length * 3
  | [] => rfl
  | o :: os => by
    rw [List.flatMap_cons, List.length_append, flen3 os, List.length_cons]
    show 3 + os.length * 3 = _
    omega
/-- frames of one's own: the list and the bodies, all of it younger than base -/
structure Frs (w : World) (base : Nat) (v : Value) (L : List Fi) : Prop where
  ow : Ow w 25 3 v L.length (L.flatMap Fi.cells)
  fam : Fam w base (L.map Fi.kv)
  nw : ∀ k ∈ blks v, base ≤ k
section
variable {w w' w1 : World} {base B : Nat} {v v' : Value} {L : List Fi} {M : List Nat} {A : List (Value × List UInt8)} {u : Value} {l : List UInt8}
theorem Frs.nil (w : World) (base : Nat) : Frs w base (.slice none 0 0) [] := ⟨Ow.nil _ _ _, Fam.nil _ _, by simp [blks]⟩
theorem Frs.mod (h : Frs w base v L) (hm : Mod M w w') (h1 : ∀ k ∈ blks v, k ∉ M) (h2 : ∀ x ∈ L, ∀ k ∈ blks x.v, k ∉ M) : Frs w' base v L :=
  ⟨h.ow.mod hm h1, h.fam.mod hm (fun p hp k hk => by
    obtain ⟨x, hx, rfl⟩ := List.mem_map.1 hp
    exact h2 x hx k hk), h.nw⟩
theorem Frs.ext (h : Frs w base v L) (hm : Mod [] w w') : Frs w' base v L := h.mod hm (by simp) (by simp)
theorem Frs.ob (h : Frs w base v L) {x : Fi} (hx : x ∈ L) : Ob w x.v x.f.l ∧ ∀ k ∈ blks x.v, base ≤ k := h.fam.ob _ (List.mem_map.2 ⟨x, hx, rfl⟩)
theorem Frs.lt (h : Frs w base v L) : ∀ x ∈ L, ∀ k ∈ blks x.v, k < w.heap.size := fun x hx => Ow.lt (h.ob hx).1
/-- what is turned holds no bytes and no frames -/
theorem Frs.at {g : Nat} {t : TypeId} {cs : List Value} (h : Frs w base v L) (hm : Mod [g] w w') (hb : Blk w g t cs) (h1 : 5 ≠ t) (h2 : 25 ≠ t) : Frs w' base v L :=
  h.mod hm (fun k hk hg => h.ow.ne hb h2 (by have e : k = g := (by simpa using hg); exact e ▸ hk)) (fun x hx k hk hg => Ow.ne (h.ob hx).1 hb h1 (by have e : k = g := (by simpa using hg); exact e ▸ hk))
theorem Fam.snoc (h : Fam w base A) (hb : base ≤ B) (hA : ∀ p ∈ A, ∀ k ∈ blks p.1, k < B) (ho : Ob w u l) (hn : ∀ k ∈ blks u, B ≤ k) : Fam w base (A ++ [(u, l)]) := by
  refine ⟨fun p hp => ?_, ?_⟩
  · rcases List.mem_append.1 hp with hp | hp
    · exact h.ob p hp
    · rw [List.mem_singleton.1 hp]; exact ⟨ho, fun b hb2 => Nat.le_trans hb (hn b hb2)⟩
  · rw [List.pairwise_append]
    refine ⟨h.dj, List.pairwise_singleton _ _, fun p hp q hq b hb1 hb2 => ?_⟩
    rw [List.mem_singleton.1 hq] at hb2
    have := hA p hp b hb1
    have := hn b hb2
    omega
/-- what an append onto a list of frames turns holds no bytes -/
theorem Fam.onFr {n : Nat} {xs : List Value} (h : Fam w base A) (hv : Ow w 25 3 v n xs) (hm : Mod (blks v) w w') : Fam w' base A :=
  h.mod hm fun p hp b hb1 hb2 => by
    rcases Ow.blk hv with ⟨rfl, _, _⟩ | ⟨g, cap, rest, rfl, hB, _⟩
    · simp [blks] at hb2
    · have e : b = g := by simpa [blks] using hb2
      exact Ow.ne (h.ob p hp).1 hB (by decide) (e ▸ hb1)
/-- one more frame, its body handed over in new memory -/
theorem Frs.snoc (h : Frs w base v L) (x : Fi) (hb : base ≤ B) (hB : B ≤ w.heap.size) (hA : ∀ y ∈ L, ∀ k ∈ blks y.v, k < B) (ho : Ob w x.v x.f.l) (hn : ∀ k ∈ blks x.v, B ≤ k)
    (hO : Ow w' 25 3 v' (L.length + 1) (L.flatMap Fi.cells ++ x.cells)) (hm : Mod (blks v) w w') (hv : ∀ k ∈ blks v', k ∈ blks v ∨ w.heap.size ≤ k) : Frs w' base v' (L ++ [x]) := by
  refine ⟨by simpa using hO, ?_, fun k hk => (hv k hk).elim (h.nw k) fun h1 => by omega⟩
  have hf : Fam w base (L.map Fi.kv ++ [(x.v, x.f.l)]) := h.fam.snoc hb (fun p hp => by
    obtain ⟨y, hy, rfl⟩ := List.mem_map.1 hp
    exact hA y hy) ho hn
  have := hf.onFr h.ow hm
  simpa [Fi.kv] using this
end
/-! what a list of frames is apart from -/
theorem ow_cells {w : World} {e : TypeId} {sz n : Nat} {v : Value} {xs : List Value} (h : Ow w e sz v n xs) : ∀ k ∈ blks v, ∃ o : Obj, w.heap[k]? = some o ∧ o.isCells = true := by
  rcases Ow.blk h with ⟨rfl, _, _⟩ | ⟨g, cap, rest, rfl, hB, _⟩
  · simp [blks]
  · intro k hk
    rw [show k = g by simpa [blks] using hk]
    exact hB.isCells
theorem ow_far {w : World} {e e' : TypeId} {sz n sz' n' : Nat} {v v' : Value} {xs xs' : List Value} (h : Ow w e sz v n xs) (h' : Ow w e' sz' v' n' xs') (hne : e ≠ e') : ∀ k ∈ blks v, k ∉ blks v' := fun k hk hk' => by
  rcases Ow.blk h' with ⟨rfl, _, _⟩ | ⟨g, cap, rest, rfl, hB, _⟩
  · simp [blks] at hk'
  · have e1 : k = g := by simpa [blks] using hk'
    exact Ow.ne h hB hne (e1 ▸ hk)
theorem Ech.apart {w : World} {bs bb be : Nat} {vb : Value} {b : List UInt8} {e s : Nat} (h : Ech w bs bb be vb b e s) {sz n : Nat} {v : Value} {xs : List Value} (hv : Ow w 25 sz v n xs) : ∀ k ∈ EchL bs bb be vb, k ∉ blks v := fun k hk => by
  simp only [EchL, List.mem_cons] at hk
  rcases hk with rfl | rfl | rfl | hk
  · exact hv.ne h.cs (by decide)
  · exact hv.ne h.cb (by decide)
  · exact hv.ne h.ce (by decide)
  · exact ow_far h.cv hv (by decide) k hk
theorem Ech.mod {w w' : World} {bs bb be : Nat} {vb : Value} {b : List UInt8} {e s : Nat} {M : List Nat} (h : Ech w bs bb be vb b e s) (hm : Mod M w w') (hM : ∀ k ∈ EchL bs bb be vb, k ∉ M) : Ech w' bs bb be vb b e s :=
  ⟨h.cs.mod hm (hM bs (by simp [EchL])), h.ce.mod hm (hM be (by simp [EchL])), h.cb.mod hm (hM bb (by simp [EchL])), Ow.mod h.cv hm (fun k hk => hM k (by simp [EchL, hk]))⟩
theorem Ech.cells {w : World} {bs bb be : Nat} {vb : Value} {b : List UInt8} {e s : Nat} (h : Ech w bs bb be vb b e s) : ∀ k ∈ EchL bs bb be vb, ∃ o : Obj, w.heap[k]? = some o ∧ o.isCells = true := fun k hk => by
  simp only [EchL, List.mem_cons] at hk
  rcases hk with rfl | rfl | rfl | hk
  · exact h.cs.isCells
  · exact h.cb.isCells
  · exact h.ce.isCells
  · exact ow_cells h.cv k hk
end Go.Proofs.YtboigcnpamldlaaDoor
