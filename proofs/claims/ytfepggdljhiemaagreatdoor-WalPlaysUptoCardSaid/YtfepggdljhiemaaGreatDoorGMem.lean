import Derived.Test.YtfepggdljhiemaaGreatDoorReg
import Derived.Maps.AppendAt
import Derived.WalkKit
import Derived.WalkSpells
import Derived.WalkLawsBesides
set_option linter.unusedVariables false
set_option linter.unusedSimpArgs false
set_option maxRecDepth 100000
/- What is known of memory: blocks known whole, slices that read as lists, what a call may have turned. No program is named here. -/
namespace Go.Proofs.YtfepggdljhiemaaGreatDoor.Gw
open Go

/-! ### What has turned -/
structure Mod (L : List Nat) (w w' : World) : Prop where
  os : w'.os = w.os
  tape : w'.tape = w.tape
  output : w'.output = w.output
  size : w.heap.size ≤ w'.heap.size
  block : ∀ k, k < w.heap.size → k ∉ L → w'.heap[k]? = w.heap[k]?

theorem Mod.refl (L : List Nat) (w : World) : Mod L w w := ⟨rfl, rfl, rfl, Nat.le_refl _, fun _ _ _ => rfl⟩
theorem Mod.drew (L : List Nat) (w : World) : Mod L w w.drew := ⟨rfl, rfl, rfl, Nat.le_refl _, fun _ _ _ => rfl⟩
/-- Then more, in blocks that were not there or are named. -/
theorem Mod.then {L M : List Nat} {a b c : World} (h : Mod L a b) (k : Mod M b c) (hM : ∀ g ∈ M, g ∈ L ∨ a.heap.size ≤ g) : Mod L a c :=
  ⟨k.os.trans h.os, k.tape.trans h.tape, k.output.trans h.output, Nat.le_trans h.size k.size, fun i hi hL =>
    (k.block i (Nat.lt_of_lt_of_le hi h.size) fun hm => (hM i hm).elim hL fun h' => by omega).trans (h.block i hi hL)⟩
theorem Mod.trans {L : List Nat} {a b c : World} (h : Mod L a b) (k : Mod L b c) : Mod L a c := h.then k fun _ h => .inl h
theorem Mod.ext {L : List Nat} {a b c : World} (h : Mod L a b) (k : Mod [] b c) : Mod L a c := h.then k fun _ h => by cases h
theorem Mod.fresh {M : List Nat} {a b c : World} (h : Mod [] a b) (k : Mod M b c) (hM : ∀ g ∈ M, a.heap.size ≤ g) : Mod [] a c := h.then k fun g hg => .inr (hM g hg)
theorem Mod.weak {L M : List Nat} {a b : World} (h : Mod L a b) (hs : ∀ g ∈ L, g ∈ M ∨ a.heap.size ≤ g) : Mod M a b :=
  ⟨h.os, h.tape, h.output, h.size, fun i hi hM => h.block i hi fun hL => (hs i hL).elim hM fun h' => by omega⟩
theorem Mod.alloc (L : List Nat) (w : World) (o : Obj) : Mod L w (w.alloc o) := ⟨rfl, rfl, rfl, by simp, fun _ hk _ => heap_alloc_old w o hk⟩
theorem Mod.set (w : World) (a : Addr) (v : Value) : Mod [a.block] w (w.setCell a v) :=
  ⟨rfl, rfl, rfl, by simp [World.setCell], fun k _ hk => by
    simp only [World.setCell, Array.getElem?_modify]
    rw [if_neg (by simp at hk; omega)]⟩
theorem Mod.grown {w w' : World} {row : Option Nat} (h : w.grownBy w' row) : Mod row.toList w w' :=
  ⟨h.os, h.tape, h.output, h.size, fun k hk hL => h.block k hk (fun e => hL (by rw [← e]; simp))⟩
theorem Mod.below {w w' : World} (h : Mod [] w w') : RowKit.Below w.heap.size w w' := ⟨h.os, h.tape, h.output, h.size, fun k hk => h.block k hk (by simp)⟩
/-! ### A block that is known whole -/
def Blk (w : World) (g : Nat) (t : TypeId) (cs : List Value) : Prop := w.heap[g]? = some (.cells cs.toArray t (0, 0))
section
variable {w w' : World} {g : Nat} {t : TypeId} {cs : List Value} {L : List Nat}
theorem Blk.lt (h : Blk w g t cs) : g < w.heap.size := (Array.getElem?_eq_some_iff.1 h).1
theorem Blk.cell (h : Blk w g t cs) (i : Nat) : w.cell? ⟨g, i, none⟩ = cs[i]? := by
  rw [cell_of_row w g i cs.toArray t (0, 0) h]; simp
theorem Blk.cell' (h : Blk w g t cs) {i : Nat} {u : Value} (hu : cs[i]? = some u) : w.cell? ⟨g, i, none⟩ = some u := (h.cell i).trans hu
theorem Blk.frozen (h : Blk w g t cs) (i : Nat) : w.frozen? ⟨g, i, none⟩ = false := by
  unfold Blk at h
  simp [World.frozen?, h]
theorem Blk.new (w : World) (t : TypeId) (cs : Array Value) : Blk (w.alloc (.cells cs t)) w.heap.size t cs.toList := heap_alloc_new w _
theorem Blk.mod (h : Blk w g t cs) (hm : Mod L w w') (hg : g ∉ L) : Blk w' g t cs := (hm.block g h.lt hg).trans h
theorem Blk.ext (h : Blk w g t cs) (hm : Mod [] w w') : Blk w' g t cs := h.mod hm (by simp)
theorem Blk.set (h : Blk w g t cs) (i : Nat) (u : Value) : Blk (w.setCell ⟨g, i, none⟩ u) g t (cs.set i u) := by
  unfold Blk at h ⊢
  simp [World.setCell, Array.getElem?_modify, h]
theorem Blk.kinds (h : Blk w g t cs) : ∃ c t f, w.heap[g]? = some (.cells c t f) := ⟨_, _, _, h⟩
theorem Blk.inj {t' : TypeId} {cs' : List Value} (h : Blk w g t cs) (h' : Blk w g t' cs') : t = t' ∧ cs = cs' := by
  unfold Blk at h h'
  rw [h] at h'
  injection h' with h'
  injection h' with h1 h2
  exact ⟨h2, by simpa using h1⟩
theorem Blk.ne {g' : Nat} {t' : TypeId} {cs' : List Value} (h : Blk w g t cs) (h' : Blk w g' t' cs') (hne : t ≠ t') : g ≠ g' := by
  rintro rfl
  exact hne (h.inj h').1
end

/-! ### A slice that reads as a list of cells -/
def blks : Value → List Nat
  | .slice (some a) _ _ => [a.block]
  | .pointer (some a) => [a.block]
  | _ => []

/-- The slice value of n elements reads as the cells xs, 'sz' cells an element. -/
def Sl (w : World) (sz : Nat) (v : Value) (n : Nat) (xs : List Value) : Prop :=
  ∃ ao cap, v = .slice ao n cap ∧ xs.length = n * sz ∧ n ≤ cap ∧ cap ≤ 9223372036854775807 ∧ (ao = none → cap = 0) ∧
    ∀ ad, ao = some ad → (0 < cap → ad.spot = none) ∧ ∀ j u, xs[j]? = some u → w.cell? ⟨ad.block, ad.off + j, none⟩ = some u

section
variable {w w' : World} {sz n : Nat} {v : Value} {xs ys : List Value} {L : List Nat}
theorem Sl.nil (w : World) (sz : Nat) : Sl w sz (.slice none 0 0) 0 [] := ⟨none, 0, rfl, by simp, Nat.le_refl _, by omega, fun _ => rfl, fun _ h => by cases h⟩
theorem Sl.len (h : Sl w sz v n xs) : xs.length = n * sz := by obtain ⟨_, _, _, h, _⟩ := h; exact h
theorem Sl.small (h : Sl w sz v n xs) : n ≤ 9223372036854775807 := by obtain ⟨_, _, _, _, h1, h2, _⟩ := h; omega
/-- Its cells lie in one block that is there, or there are none. -/
theorem Sl.keep (h : Sl w sz v n xs) (hk : ∀ b ∈ blks v, xs ≠ [] → w'.heap[b]? = w.heap[b]?) : Sl w' sz v n xs := by
  obtain ⟨ao, cap, rfl, hl, hc, hm, hn, hcell⟩ := h
  refine ⟨ao, cap, rfl, hl, hc, hm, hn, fun ad had => ?_⟩
  subst had
  refine ⟨(hcell ad rfl).1, fun j u hu => ?_⟩
  have hb : w'.heap[ad.block]? = w.heap[ad.block]? := hk ad.block (by simp [blks]) (fun e => by simp [e] at hu)
  rw [← (hcell ad rfl).2 j u hu]
  simp [World.cell?, hb]
theorem Sl.there (h : Sl w sz v n xs) (hx : xs ≠ []) : ∀ b ∈ blks v, ∃ c t f, w.heap[b]? = some (.cells c t f) := by
  obtain ⟨ao, cap, rfl, hl, hc, hm, hn, hcell⟩ := h
  intro b hb
  cases ao with
  | none => simp [blks] at hb
  | some ad =>
    have hb' : b = ad.block := by simpa [blks] using hb
    subst hb'
    have h0 := (hcell ad rfl).2 0 (xs[0]'(List.length_pos_iff.2 hx)) (List.getElem?_eq_getElem _)
    unfold World.cell? at h0
    dsimp only at h0
    split at h0
    · rename_i c t f hh; exact ⟨c, t, f, hh⟩
    · cases h0
theorem Sl.lt (h : Sl w sz v n xs) (hx : xs ≠ []) : ∀ b ∈ blks v, b < w.heap.size := fun b hb => by
  obtain ⟨c, t, f, hh⟩ := h.there hx b hb
  exact (Array.getElem?_eq_some_iff.1 hh).1
theorem Sl.mod (h : Sl w sz v n xs) (hm : Mod L w w') (hL : ∀ b ∈ blks v, b ∉ L) : Sl w' sz v n xs :=
  h.keep fun b hb hx => hm.block b (h.lt hx b hb) (hL b hb)
theorem Sl.ext (h : Sl w sz v n xs) (hm : Mod [] w w') : Sl w' sz v n xs := h.mod hm fun _ _ h => by cases h
/-- Where it has cells, its address. -/
theorem Sl.at (h : Sl w sz v n xs) (hx : xs ≠ []) : ∃ b off cap, v = .slice (some ⟨b, off, none⟩) n cap ∧ n ≤ cap ∧ cap ≤ 9223372036854775807 ∧ ∀ j u, xs[j]? = some u → w.cell? ⟨b, off + j, none⟩ = some u := by
  obtain ⟨ao, cap, rfl, hl, hc, hm, hn, hcell⟩ := h
  cases ao with
  | none =>
    have := hn rfl
    have h0 : n = 0 := by omega
    subst h0
    exact absurd (List.eq_nil_of_length_eq_zero (by simpa using hl)) hx
  | some ad =>
    obtain ⟨hs, hcell2⟩ := hcell ad rfl
    have hcp : 0 < cap := by
      have : n ≠ 0 := fun h0 => by subst h0; exact hx (List.eq_nil_of_length_eq_zero (by simpa using hl))
      omega
    obtain ⟨b, off, sp⟩ := ad
    dsimp only at hs hcell2
    have hs' := hs hcp
    subst hs'
    exact ⟨b, off, cap, rfl, hc, hm, hcell2⟩
theorem Sl.form (h : Sl w sz v n xs) : ∃ ao cap, v = .slice ao n cap ∧ n ≤ cap ∧ cap ≤ 9223372036854775807 := by
  obtain ⟨ao, cap, rfl, hl, hc, hm, hn, hcell⟩ := h
  exact ⟨ao, cap, rfl, hc, hm⟩
/-- s[:n:n] -/
theorem Sl.clip {ao : Option Addr} {cap : Nat} (h : Sl w sz (.slice ao n cap) n xs) : Sl w sz (.slice ao n n) n xs := by
  obtain ⟨ao', cap', hv, hl, hc, hm, hn, hcell⟩ := h
  injection hv with e1 e2 e3
  subst e1 e3
  exact ⟨_, _, rfl, hl, Nat.le_refl _, by omega, fun h => by have := hn h; omega, fun ad had => ⟨fun h0 => (hcell ad had).1 (by omega), (hcell ad had).2⟩⟩
/-- It lies in no block whose cells are of other kinds. -/
theorem Sl.sep {g : Nat} {t : TypeId} {cs : List Value} (h : Sl w sz v n xs) (hb : Blk w g t cs) (hk : ∀ c ∈ cs, c ∉ xs) (hx : xs ≠ []) : g ∉ blks v := by
  obtain ⟨b, off, cap, rfl, _, _, hcell⟩ := h.at hx
  intro hg
  have : g = b := by simpa [blks] using hg
  subst this
  have h0 := hcell 0 (xs[0]'(List.length_pos_iff.2 hx)) (List.getElem?_eq_getElem _)
  rw [hb.cell] at h0
  exact hk _ (List.mem_of_getElem? h0) (List.getElem_mem _)
theorem Sl.keepAt {g : Nat} {t : TypeId} {cs : List Value} (h : Sl w sz v n xs) (hb : Blk w g t cs) (hk : ∀ c ∈ cs, c ∉ xs) (hm : Mod [g] w w') : Sl w' sz v n xs :=
  h.keep fun b hb' hx => hm.block b (h.lt hx b hb') fun hg => h.sep hb hk hx (by
    have : b = g := by simpa using hg
    exact this ▸ hb')
theorem Sl.one (h : Sl w sz v n xs) : v.cells = #[v] ∧ v.oneCell' = true := by
  obtain ⟨ao, cap, rfl, _⟩ := h
  exact ⟨rfl, rfl⟩
/-- s[lo:hi] -/
theorem Sl.cut {ao : Option Addr} {cap lo hi m : Nat} (h : Sl w sz (.slice ao n cap) n xs) (h1 : lo ≤ hi) (h2 : hi ≤ n) (h3 : hi ≤ m) (h4 : m ≤ cap) :
    Sl w sz (.slice (if m = lo then ao else ao.map (·.add (lo * sz))) (hi - lo) (m - lo)) (hi - lo) ((xs.drop (lo * sz)).take ((hi - lo) * sz)) := by
  obtain ⟨ao', cap', hv, hl, hc, hm, hn, hcell⟩ := h
  injection hv with e1 e2 e3
  subst e1 e3
  refine ⟨_, _, rfl, ?_, by omega, by omega, ?_, ?_⟩
  · rw [List.length_take, List.length_drop, hl, Nat.min_eq_left]
    rw [← Nat.sub_mul]; exact Nat.mul_le_mul_right _ (by omega)
  · intro he
    split at he
    · omega
    · cases ao with
      | none => have := hn rfl; omega
      | some ad => simp at he
  · intro ad' had
    by_cases hml : m = lo
    · have hz : hi - lo = 0 := by omega
      rw [if_pos hml] at had
      rw [hz]
      simp only [Nat.zero_mul, List.take_zero, List.getElem?_nil]
      exact ⟨fun h0 => by omega, fun j u hu => by cases hu⟩
    · rw [if_neg hml] at had
      cases ao with
      | none => simp at had
      | some ad =>
        have had' : ad.add (lo * sz) = ad' := by simpa using had
        obtain ⟨hs, hcell2⟩ := hcell ad rfl
        obtain ⟨b, off, sp⟩ := ad
        dsimp only at hs hcell2
        have hs' := hs (by omega)
        subst hs'
        rw [Addr.add_lit] at had'
        subst had'
        refine ⟨fun _ => rfl, fun j u hu => ?_⟩
        rw [List.getElem?_take] at hu
        split at hu
        · rw [List.getElem?_drop] at hu
          have := hcell2 _ u hu
          rw [← Nat.add_assoc] at this
          exact this
        · cases hu
end

/-! ### A slice that the call owns: nil, or at the head of a block of its own -/
def Ow (w : World) (e : TypeId) (sz : Nat) (v : Value) (n : Nat) (xs : List Value) : Prop := w.ownsRow 0 e sz v n xs
section
variable {w w' : World} {e : TypeId} {sz n : Nat} {v : Value} {xs : List Value} {L : List Nat}
theorem Ow.nil (w : World) (e : TypeId) (sz : Nat) : Ow w e sz (.slice none 0 0) 0 [] := World.ownsRow_nil w 0 e sz
theorem Ow.sl (h : Ow w e sz v n xs) : Sl w sz v n xs := by
  obtain ⟨hl, ⟨rfl, rfl⟩ | ⟨g, cap, cur, rfl, _, hg, hc, hm, hs, ht⟩⟩ := h
  · have : xs = [] := List.eq_nil_of_length_eq_zero (by simpa using hl)
    subst this
    exact Sl.nil w sz
  · refine ⟨_, _, rfl, hl, hc, (by unfold maxLen at hm; omega), (fun h => by cases h), fun ad had => ?_⟩
    cases had
    refine ⟨fun _ => rfl, fun j u hu => ?_⟩
    rw [cell_of_row w g (0 + j) cur e (0, 0) hg]
    rw [← ht, List.getElem?_take] at hu
    split at hu
    · simpa using hu
    · cases hu
theorem Ow.blk (h : Ow w e sz v n xs) : v = .slice none 0 0 ∧ n = 0 ∧ xs = [] ∨ ∃ g cap rest, v = .slice (some ⟨g, 0, none⟩) n cap ∧ Blk w g e (xs ++ rest) ∧ n ≤ cap ∧ cap ≤ 9223372036854775807 ∧ (xs ++ rest).length = cap * sz ∧ xs.length = n * sz := by
  obtain ⟨hl, ⟨rfl, rfl⟩ | ⟨g, cap, cur, rfl, _, hg, hc, hm, hs, ht⟩⟩ := h
  · exact .inl ⟨rfl, rfl, List.eq_nil_of_length_eq_zero (by simpa using hl)⟩
  · refine .inr ⟨g, cap, cur.toList.drop (n * sz), rfl, ?_, hc, by unfold maxLen at hm; omega, ?_, hl⟩
    · unfold Blk
      rw [← ht, List.take_append_drop]
      exact hg
    · rw [← ht, List.take_append_drop]; simpa using hs
theorem Ow.of_blk {g cap : Nat} {rest : List Value} (h : Blk w g e (xs ++ rest)) (h1 : n ≤ cap) (h2 : cap ≤ 9223372036854775807) (h3 : (xs ++ rest).length = cap * sz) (h4 : xs.length = n * sz) : Ow w e sz (.slice (some ⟨g, 0, none⟩) n cap) n xs :=
  ⟨h4, .inr ⟨g, cap, (xs ++ rest).toArray, rfl, Nat.zero_le _, h, h1, by unfold maxLen; omega, by simpa using h3, by simp [← h4]⟩⟩
theorem Ow.lt (h : Ow w e sz v n xs) : ∀ b ∈ blks v, b < w.heap.size := by
  rcases h.blk with ⟨rfl, _⟩ | ⟨g, cap, rest, rfl, hb, _⟩
  · intro b hb; simp [blks] at hb
  · intro b hb'
    have : b = g := by simpa [blks] using hb'
    subst this
    exact hb.lt
theorem Ow.mod (h : Ow w e sz v n xs) (hm : Mod L w w') (hL : ∀ b ∈ blks v, b ∉ L) : Ow w' e sz v n xs := by
  obtain ⟨hl, h | ⟨g, cap, cur, rfl, hz, hg, r⟩⟩ := h
  · exact ⟨hl, .inl h⟩
  · exact ⟨hl, .inr ⟨g, cap, cur, rfl, hz, (hm.block g (Array.getElem?_eq_some_iff.1 hg).1 (hL g (by simp [blks]))).trans hg, r⟩⟩
theorem Ow.ext (h : Ow w e sz v n xs) (hm : Mod [] w w') : Ow w' e sz v n xs := h.mod hm fun _ _ h => by cases h
/-- It lies in no block of another element type. -/
theorem Ow.ne {g : Nat} {t : TypeId} {cs : List Value} (h : Ow w e sz v n xs) (hb : Blk w g t cs) (hne : e ≠ t) : g ∉ blks v := by
  rcases h.blk with ⟨rfl, _⟩ | ⟨g', cap, rest, rfl, hb', _⟩
  · simp [blks]
  · intro hg
    have : g = g' := by simpa [blks] using hg
    subst this
    exact hne (hb'.inj hb).1
end

/-! ### The types of a slice -/
structure ST (P : Program) (t e : TypeId) (z : Value) (sz bytes : Nat) : Prop where
  under : P.underlying t = some (.slice e)
  info : (P.info? e).map (fun i => (i.zero, i.size, i.bytes)) = some (some z, sz, bytes)
  cells : z.cells.size = sz
  pos : 0 < sz

section
variable {P : Program} {t e : TypeId} {z : Value} {sz bytes : Nat}

theorem ownBlock_toList (v : Value) : v.ownBlock.toList = blks v ∨ ∃ a, v = .pointer a := by
  cases v with
  | slice a n c => cases a <;> simp [Value.ownBlock, blks]
  | pointer a => exact .inr ⟨a, rfl⟩
  | _ => left; simp [Value.ownBlock, blks]

/-- append onto what the call owns. -/
theorem run_append_ow (st : ST P t e z sz bytes) (w : World) (ty : TypeId) {v x : Value} {n m : Nat} {xs ys : List Value} (hv : Ow w e sz v n xs) (hx : Sl w sz x m ys) (h1 : ∀ u ∈ ys, u.oneCell' = true)
    (hb : (n + m) * bytes ≤ 140737488355328) (hn : n + m ≤ 9223372036854775807) :
    ∃ v' w', (Builtin.append_ #[t, t] ty #[v, x]).run P w = .ok v' w' ∧ Ow w' e sz v' (n + m) (xs ++ ys) ∧ Mod (blks v) w w' ∧ (∀ k ∈ blks v', k ∈ blks v ∨ w.heap.size ≤ k) := by
  obtain ⟨i, hi, hz, hs, hby⟩ := info_parts st.info
  have hblk : v.ownBlock.toList = blks v := by
    rcases ownBlock_toList v with h | ⟨a, rfl⟩
    · exact h
    · obtain ⟨_, ⟨h, _⟩ | ⟨g, cap, cur, h, _⟩⟩ := hv <;> cases h
  by_cases hm0 : ys = []
  · subst hm0
    have hm : m = 0 := by
      have h0 : m * sz = 0 := by simpa using hx.len.symm
      rcases Nat.mul_eq_zero.1 h0 with h | h
      · exact h
      · have := st.pos; omega
    subst hm
    obtain ⟨ao, cap, rfl, _⟩ := hx
    refine ⟨v, w, ?_, by simpa using hv, Mod.refl _ _, fun k hk => .inl hk⟩
    obtain ⟨_, ⟨rfl, rfl⟩ | ⟨g, c, cur, rfl, _, hg, hnc, _⟩⟩ := hv
    · cases ao <;> simp [Builtin.append_, run_underlying st.under, sizeOf, typeInfo, hi, Builtin.lenOf, Builtin.firstCells, loadCells, loadCellsFrom]
    · cases ao <;> simp [Builtin.append_, run_underlying st.under, sizeOf, typeInfo, hi, Builtin.lenOf, Builtin.firstCells, loadCells, loadCellsFrom, hnc, storeCells]
  · obtain ⟨b, off, cap, rfl, _, _, hcell⟩ := hx.at hm0
    obtain ⟨v', w', hr, h2, h3, h4, h5⟩ := run_append_own_at (P := P) w 0 t ty e i z sz bytes st.under hi hz hs hby st.cells st.pos v n xs hv ⟨b, off, none⟩ m cap ys hx.len
      (fun j u hu => by rw [Addr.add_lit]; exact hcell j u hu) h1 (by unfold maxLen; omega) hb (Nat.zero_le _)
    refine ⟨v', w', hr, h2, hblk ▸ Mod.grown h3, fun k hk => ?_⟩
    have hblk' : v'.ownBlock.toList = blks v' := by
      rcases ownBlock_toList v' with h | ⟨a, rfl⟩
      · exact h
      · obtain ⟨_, ⟨h, _⟩ | ⟨g, cap, cur, h, _⟩⟩ := h2 <;> cases h
    rw [← hblk'] at hk
    rcases h5 with h5 | h5
    · rw [h5, hblk] at hk; exact .inl hk
    · rw [h5] at hk
      right
      simp at hk
      omega

/-- append where there is no room: all is copied into a new block (or nothing is appended). -/
theorem run_append_cp (st : ST P t e z sz bytes) (w : World) (ty : TypeId) {ao : Option Addr} {x : Value} {n m cap : Nat} {xs ys : List Value} (hv : Sl w sz (.slice ao n cap) n xs) (hx : Sl w sz x m ys) (h1 : ∀ u ∈ ys, u.oneCell' = true)
    (hb : (n + m) * bytes ≤ 140737488355328) (hn : n + m ≤ 9223372036854775807) (hfull : m = 0 ∨ cap < n + m) :
    ∃ v' w', (Builtin.append_ #[t, t] ty #[.slice ao n cap, x]).run P w = .ok v' w' ∧ Sl w' sz v' (n + m) (xs ++ ys) ∧ Mod [] w w' ∧ (m = 0 → v' = .slice ao n cap ∧ w' = w) ∧ (m ≠ 0 → Ow w' e sz v' (n + m) (xs ++ ys) ∧ ∀ k ∈ blks v', w.heap.size ≤ k) := by
  obtain ⟨i, hi, hz, hs, hby⟩ := info_parts st.info
  by_cases hm0 : ys = []
  · subst hm0
    have hm : m = 0 := by
      have h0 : m * sz = 0 := by simpa using hx.len.symm
      rcases Nat.mul_eq_zero.1 h0 with h | h
      · exact h
      · have := st.pos; omega
    subst hm
    obtain ⟨ao', cap', rfl, _⟩ := hx
    refine ⟨_, w, ?_, by simpa using hv, Mod.refl _ _, fun _ => ⟨rfl, rfl⟩, fun h => absurd rfl h⟩
    obtain ⟨ao2, cap2, hv2, _, hnc, _⟩ := hv
    injection hv2 with e1 e2 e3
    subst e1 e3
    cases ao' <;> cases ao <;> simp [Builtin.append_, run_underlying st.under, sizeOf, typeInfo, hi, Builtin.lenOf, Builtin.firstCells, loadCells, loadCellsFrom, hnc, storeCells]
  · obtain ⟨b, off, cap', rfl, _, _, hcell⟩ := hx.at hm0
    have hm : m ≠ 0 := by
      intro h
      subst h
      exact hm0 (List.eq_nil_of_length_eq_zero (by have := hx.len; simpa using this))
    have hfull' : cap < n + m := hfull.resolve_left hm
    have hcells : ∀ j u, ys[j]? = some u → w.cell? ((⟨b, off, none⟩ : Addr).add j) = some u := fun j u hu => by rw [Addr.add_lit]; exact hcell j u hu
    subst hs hby
    have fin : ∀ (c : Nat), n + m ≤ c → c ≤ 9223372036854775807 →
        Ow (w.drew.alloc (.cells (xs.toArray ++ ys.toArray ++ Builtin.zeroCells z.cells (c - (n + m))) e)) e i.size (.slice (some ⟨w.heap.size, 0, none⟩) (n + m) c) (n + m) (xs ++ ys) ∧ Mod [] w (w.drew.alloc (.cells (xs.toArray ++ ys.toArray ++ Builtin.zeroCells z.cells (c - (n + m))) e)) ∧ ∀ k ∈ blks (.slice (some ⟨w.heap.size, 0, none⟩) (n + m) c), w.heap.size ≤ k := by
      intro c hc1 hc2
      have hb1 : Blk (w.drew.alloc (.cells (xs.toArray ++ ys.toArray ++ Builtin.zeroCells z.cells (c - (n + m))) e)) w.heap.size e (xs ++ ys ++ (Builtin.zeroCells z.cells (c - (n + m))).toList) := by
        have := Blk.new w.drew e (xs.toArray ++ ys.toArray ++ Builtin.zeroCells z.cells (c - (n + m)))
        simpa using this
      refine ⟨Ow.of_blk (rest := (Builtin.zeroCells z.cells (c - (n + m))).toList) hb1 hc1 hc2 ?_ ?_, (Mod.drew [] w).ext (Mod.alloc [] _ _), fun k hk => ?_⟩
      · simp only [List.length_append, Array.length_toList, size_zeroCells, st.cells, hv.len, hx.len, ← Nat.add_mul]
        congr 1; omega
      · rw [List.length_append, hv.len, hx.len, Nat.add_mul]
      · have : k = w.heap.size := by simpa [blks] using hk
        omega
    cases ao with
    | none =>
      obtain ⟨ao2, cap2, hv2, hl, hnc, _, hnone, _⟩ := hv
      injection hv2 with e1 e2 e3
      subst e1 e3
      have hc0 := hnone rfl
      have hn0 : n = 0 := by omega
      subst hc0 hn0
      have hx0 : xs = [] := List.eq_nil_of_length_eq_zero (by simpa using hl)
      subst hx0
      have hr := run_append_nil (P := P) w t ty e i z st.under hi hz ⟨b, off, none⟩ m cap' ys hx.len hcells (by omega) (by omega) (by simp at hb; omega)
      have hge := grownCap_ge w m 0 e
      have hle := grownCap_le_maxLen w m 0 e (by unfold maxLen; omega)
      unfold maxLen at hle
      have hf := fin (grownCap w m 0 e) (by omega) (by omega)
      simp only [Nat.zero_add, List.nil_append, Array.empty_append] at hf ⊢
      exact ⟨_, _, hr, hf.1.sl, hf.2.1, fun h => absurd h hm, fun _ => ⟨hf.1, hf.2.2⟩⟩
    | some ad =>
      have hsp : ∀ j u, xs[j]? = some u → w.cell? (ad.add j) = some u := by
        obtain ⟨ao2, cap2, hv2, hl2, hc2, _, _, hcell2⟩ := hv
        injection hv2 with e1 _ e3
        subst e3
        intro j u hu
        have hn0 : n ≠ 0 := fun h0 => by subst h0; simp at hl2; simp [hl2] at hu
        have h3 := (hcell2 ad e1.symm).1 (by omega)
        have h4 := (hcell2 ad e1.symm).2 j u hu
        obtain ⟨b2, off2, sp⟩ := ad
        dsimp only at h3 h4
        subst h3
        rw [Addr.add_lit]
        exact h4
      have hr := run_append_grow (P := P) w t ty e i z st.under hi hz ad n cap xs hv.len hsp ⟨b, off, none⟩ m cap' ys hx.len hcells hfull' (by omega) (growslice_fits hfull' hb)
      have hge := grownCap_ge w (n + m) cap e
      have hle := grownCap_le_maxLen w (n + m) cap e (by unfold maxLen; omega)
      unfold maxLen at hle
      have hf := fin (grownCap w (n + m) cap e) hge (by omega)
      exact ⟨_, _, hr, hf.1.sl, hf.2.1, fun h => absurd h hm, fun _ => ⟨hf.1, hf.2.2⟩⟩
end
end Go.Proofs.YtfepggdljhiemaaGreatDoor.Gw

/- Laws at single operations: the world behind each is a letter, known by what has turned. No program is named here. -/
namespace Go.Proofs.YtfepggdljhiemaaGreatDoor.Gw
open Go

section
variable {P : Program} {a : Act} {w : World} {K : Act → World → Prop} {Q : Exit → Act → World → Prop}
variable {d : Option Tmp} {ty : TypeId} {ps : String} {af : Array Edge} {gd : Option (Nat × Bool)}

theorem wp_of_run {o : Oper} {v : Value} {w' : World} (h : (execOp a.eval o).run P w = .ok (.value v) w') (hK : K (a.put o.dst v) w') : o.wp P a w K Q := by
  unfold Oper.wp
  rw [h]
  exact hK
theorem wp_of_skip {o : Oper} {w' : World} (h : (execOp a.eval o).run P w = .ok .skip w') (hK : K (a.put o.dst undef) w') : o.wp P a w K Q := by
  unfold Oper.wp
  rw [h]
  exact hK
theorem run_v {e : Sem Value} {v : Value} {w' : World} (h : e.run P w = .ok v w') : (do pure (Next.value (← e)) : Sem Next).run P w = .ok (.value v) w' := by
  rw [run_bind', h]
  rfl

theorem run_zeroValue {T : TypeId} {z : Value} (h : (P.info? T).map (·.zero) = some (some z)) (w : World) : (zeroValue T).run P w = .ok z w := by
  obtain ⟨i, hi, hz⟩ := Option.map_eq_some_iff.1 h
  simp [zeroValue, typeInfo, hi, hz]

/-- A new variable. -/
theorem wp_alloc {T : TypeId} {z : Value} (hz : (P.info? T).map (·.zero) = some (some z))
    (h : ∀ g w', w.heap.size ≤ g → g < w'.heap.size → Mod [] w w' → Blk w' g T z.cells.toList → K (a.put d (.pointer (some ⟨g, 0, none⟩))) w') :
    Oper.wp P { dst := d, op := .alloc T, type := ty, pos := ps, after := af, guard := gd } a w K Q := by
  refine wp_of_run (v := .pointer (some ⟨w.heap.size, 0, none⟩)) (w' := w.alloc (.cells z.cells T)) ?_ ?_
  · unfold execOp
    refine run_v ?_
    unfold Instr.alloc
    rw [run_bind', run_zeroValue hz]
    rfl
  · exact h _ _ (Nat.le_refl _) (by simp) (Mod.alloc [] _ _) (Blk.new _ _ _)
/-- '&T{..}' -/
theorem wp_box {T : TypeId} {x : Operand} {v : Value} (hx : a.eval x = v)
    (h : ∀ g w', w.heap.size ≤ g → g < w'.heap.size → Mod [] w w' → Blk w' g T v.cells.toList → K (a.put d (.pointer (some ⟨g, 0, none⟩))) w') :
    Oper.wp P { dst := d, op := .box T x, type := ty, pos := ps, after := af, guard := gd } a w K Q := by
  subst hx
  refine wp_of_run (v := .pointer (some ⟨w.heap.size, 0, none⟩)) (w' := w.alloc (.cells (a.eval x).cells T)) ?_ ?_
  · unfold execOp
    exact run_v rfl
  · exact h _ _ (Nat.le_refl _) (by simp) (Mod.alloc [] _ _) (Blk.new _ _ _)

theorem getElem?_flatten_replicate (l : List Value) (hl : 0 < l.length) : ∀ (n j : Nat), j < n * l.length → ((List.replicate n l).flatten)[j]? = l[j % l.length]?
  | 0, j, h => by omega
  | n + 1, j, h => by
    rw [List.replicate_succ, List.flatten_cons]
    by_cases hj : j < l.length
    · rw [List.getElem?_append_left hj, Nat.mod_eq_of_lt hj]
    · have hs : (n + 1) * l.length = n * l.length + l.length := by rw [Nat.add_mul]; omega
      rw [List.getElem?_append_right (by omega), getElem?_flatten_replicate l hl n (j - l.length) (by omega), ← Nat.mod_eq_sub_mod (by omega)]
theorem toList_made (z : Array Value) (hz : 0 < z.size) (n : Nat) : (madeCells z (n * z.size)).toList = (List.replicate n z.toList).flatten := by
  apply List.ext_getElem?
  intro j
  by_cases hj : j < n * z.size
  · have h1 : j % z.size < z.size := Nat.mod_lt _ hz
    rw [getElem?_flatten_replicate _ (by simpa using hz) n j (by simpa using hj)]
    simp [madeCells, hj, h1]
  · rw [List.getElem?_eq_none (by simp [madeCells]; omega), List.getElem?_eq_none (by simp; omega)]
/-- make([]T, l, c) -/
theorem wp_make {t e : TypeId} {z : Value} {sz bytes : Nat} (st : ST P t e z sz bytes) {xl xc : Operand} {kl kc : IntKind} {l c : Int} {nl nc : Nat} (hl : a.eval xl = .int kl l) (hc : a.eval xc = .int kc c) (el : l = nl) (ec : c = nc)
    (hlc : nl ≤ nc) (hb : nc * bytes ≤ 281474976710656) (hn : nc ≤ 9223372036854775807)
    (h : ∀ g w', w.heap.size ≤ g → g < w'.heap.size → Mod [] w w' → Blk w' g e ((List.replicate nc z.cells.toList).flatten) → K (a.put d (.slice (some ⟨g, 0, none⟩) nl nc)) w') :
    Oper.wp P { dst := d, op := .makeSlice t xl xc, type := ty, pos := ps, after := af, guard := gd } a w K Q := by
  subst el ec
  obtain ⟨i, hi, hz, hs, hby⟩ := info_parts st.info
  subst hs hby
  have hr := run_make (P := P) w t e i z st.under hi hz kl kc nl nc (by omega) (by omega) (by rw [← Int.natCast_mul, Nat.mul_comm]; omega) (by omega)
  have hcells := toList_made z.cells (by rw [st.cells]; exact st.pos) nc
  rw [st.cells] at hcells
  refine wp_of_run (v := .slice (some ⟨w.heap.size, 0, none⟩) nl nc) (w' := w.alloc (.cells (madeCells z.cells (nc * i.size)) e)) ?_ ?_
  · unfold execOp
    refine run_v ?_
    rw [hl, hc, hr]
    simp
  · refine h _ _ (Nat.le_refl _) (by simp) (Mod.alloc [] _ _) ?_
    rw [← hcells]
    exact Blk.new _ _ _

theorem foldl_set (off : Nat) : ∀ (l : List Value) (k : Nat) (cs : Array Value), off + k + l.length ≤ cs.size →
    (l.zipIdx k).foldl (fun cs (p : Value × Nat) => cs.setIfInBounds (off + p.2) p.1) cs = (cs.toList.take (off + k) ++ l ++ cs.toList.drop (off + k + l.length)).toArray
  | [], k, cs, _ => by simp
  | v :: l, k, cs, h => by
    simp only [List.length_cons] at h
    rw [List.zipIdx_cons, List.foldl_cons, foldl_set off l (k + 1) _ (by simp; omega)]
    apply congrArg List.toArray
    have h1 : off + k < cs.toList.length := by simp; omega
    simp only [Array.toList_setIfInBounds, List.length_cons]
    rw [show off + (k + 1) = off + k + 1 by omega, List.take_succ_eq_append_getElem (by simpa using h1), List.getElem_set_self, List.take_set_of_le (by omega), List.drop_set_of_lt (by omega)]
    rw [show off + k + 1 + l.length = off + k + (l.length + 1) by omega]
    simp
theorem fill_all (sz : Nat) : ∀ (vs : List Value) (k : Nat) (pre post : List Value), (∀ v ∈ vs, v.cells.size = sz) → pre.length = k * sz → post.length = vs.length * sz →
    Instr.fill (fun i => some (i * sz, sz)) (pre ++ post).toArray ((vs.zipIdx k).map fun p => (p.2, p.1)) = some (pre ++ vs.flatMap fun v => v.cells.toList).toArray
  | [], k, pre, post, _, _, hpost => by
    have : post = [] := List.eq_nil_of_length_eq_zero (by simpa using hpost)
    subst this
    simp [Instr.fill]
  | v :: vs, k, pre, post, hvs, hpre, hpost => by
    have hv : v.cells.size = sz := hvs v (List.mem_cons_self ..)
    have hsz : (vs.length + 1) * sz = vs.length * sz + sz := by rw [Nat.add_mul]; omega
    simp only [List.length_cons, hsz] at hpost
    rw [List.zipIdx_cons, List.map_cons]
    unfold Instr.fill
    dsimp only
    rw [if_neg (by simp [hv, hpre, hpost])]
    have hf : v.cells.zipIdx.foldl (fun cs (p : Value × Nat) => cs.setIfInBounds (k * sz + p.2) p.1) (pre ++ post).toArray = ((pre ++ v.cells.toList) ++ post.drop sz).toArray := by
      rw [← Array.foldl_toList, Array.toList_zipIdx, foldl_set (k * sz) v.cells.toList 0 _ (by simp [hv, hpre, hpost])]
      apply congrArg List.toArray
      simp only [Nat.add_zero, Array.length_toList, hv]
      rw [List.take_append_of_le_length (by omega), List.take_of_length_le (by omega), List.drop_append, hpre]
      rw [List.drop_of_length_le (by omega), show k * sz + sz - k * sz = sz by omega]
      simp
    have h2 := fill_all sz vs (k + 1) (pre ++ v.cells.toList) (post.drop sz) (fun u hu => hvs u (List.mem_cons_of_mem _ hu)) (by simp [hpre, hv, Nat.add_mul]) (by rw [List.length_drop]; omega)
    refine Eq.trans ?_ (h2.trans ?_)
    · exact congrArg (fun c => Instr.fill (fun i => some (i * sz, sz)) c ((vs.zipIdx (k + 1)).map fun p => (p.2, p.1))) hf
    · simp
/-- []T{..}, every element written out. -/
theorem wp_bslice {t e : TypeId} {z : Value} {sz bytes : Nat} (st : ST P t e z sz bytes) {xs : Array (Nat × Operand)} {n : Nat} (vs : List Value) (hvs : vs.length = n) (hn : n * sz ≤ 16777216)
    (hp : (xs.toList.map fun (y : Nat × Operand) => (y.1, a.eval y.2)) = vs.zipIdx.map fun p => (p.2, p.1)) (hs : ∀ v ∈ vs, v.cells.size = sz)
    (h : ∀ g w', w.heap.size ≤ g → g < w'.heap.size → Mod [] w w' → Blk w' g e (vs.flatMap fun v => v.cells.toList) → K (a.put d (.slice (some ⟨g, 0, none⟩) n n)) w') :
    Oper.wp P { dst := d, op := .buildSlice t n xs, type := ty, pos := ps, after := af, guard := gd } a w K Q := by
  obtain ⟨i, hi, hz, hsi, hby⟩ := info_parts st.info
  subst hsi
  have hf : Instr.fill (fun k => some (k * i.size, i.size)) ((Array.range (n * i.size)).map ((if n * i.size = 0 then #[] else z.cells)[· % (if n * i.size = 0 then #[] else z.cells).size]!)) (xs.map fun (y : Nat × Operand) => (y.1, a.eval y.2)).toList = some (vs.flatMap fun v => v.cells.toList).toArray := by
    have h1 := fill_all i.size vs 0 [] ((Array.range (n * i.size)).map ((if n * i.size = 0 then #[] else z.cells)[· % (if n * i.size = 0 then #[] else z.cells).size]!)).toList hs (by simp) (by simp [hvs])
    rw [Array.toList_map, hp]
    simpa only [List.nil_append, Array.toArray_toList] using h1
  generalize hcs : (vs.flatMap fun v => v.cells.toList) = cells at hf h
  refine wp_of_run (v := .slice (some ⟨w.heap.size, 0, none⟩) n n) (w' := w.alloc (.cells cells.toArray e)) ?_ ?_
  · unfold execOp
    refine run_v ?_
    unfold Instr.buildSlice
    have hbig : ¬ (n * i.size > 2 ^ 24) := by omega
    rw [run_bind', run_underlying_eq, st.under]
    dsimp only
    rw [run_bind', run_sizeOf_eq, hi]
    dsimp only
    rw [if_neg hbig]
    by_cases h0 : n * i.size = 0
    · simp only [if_pos h0] at hf
      rw [if_pos h0]
      simp only [Sem.run_bind, Sem.run_pure, Result.andThen_ok, hf]
      rfl
    · simp only [if_neg h0] at hf
      rw [if_neg h0]
      rw [run_bind', run_zeroValue (T := e) (z := z) (by rw [hi]; simp [hz])]
      simp only [Sem.run_bind, Sem.run_pure, Result.andThen_ok, hf]
      rfl
  · exact h _ _ (Nat.le_refl _) (by simp) (Mod.alloc [] _ _) (Blk.new _ _ _)

theorem wp_append_ow {t e : TypeId} {z : Value} {sz bytes : Nat} (st : ST P t e z sz bytes) {s x : Operand} {v xv : Value} {n m : Nat} {xs ys : List Value} (hs : a.eval s = v) (hx : a.eval x = xv)
    (hv : Ow w e sz v n xs) (hy : Sl w sz xv m ys) (h1 : ∀ u ∈ ys, u.oneCell' = true) (hb : (n + m) * bytes ≤ 140737488355328) (hn : n + m ≤ 9223372036854775807)
    (h : ∀ v' w', Ow w' e sz v' (n + m) (xs ++ ys) → Mod (blks v) w w' → (∀ k ∈ blks v', k ∈ blks v ∨ w.heap.size ≤ k) → K (a.put d v') w') :
    Oper.wp P { dst := d, op := .call { callee := .builtin .append, args := #[s, x], argTypes := #[t, t] }, type := ty, pos := ps, after := af, guard := gd } a w K Q := by
  obtain ⟨v', w', hr, h2, h3, h4⟩ := run_append_ow st w ty hv hy h1 hb hn
  unfold Oper.wp execOp
  simp only [resolve, invoke, builtin, Sem.run_bind, Sem.run_pure, Result.andThen_ok, List.map_toArray, List.map_cons, List.map_nil, hs, hx, hr]
  exact h v' w' h2 h3 h4
theorem wp_append_cp {t e : TypeId} {z : Value} {sz bytes : Nat} (st : ST P t e z sz bytes) {s x : Operand} {ao : Option Addr} {xv : Value} {n m cap : Nat} {xs ys : List Value} (hs : a.eval s = .slice ao n cap) (hx : a.eval x = xv)
    (hv : Sl w sz (.slice ao n cap) n xs) (hy : Sl w sz xv m ys) (h1 : ∀ u ∈ ys, u.oneCell' = true) (hb : (n + m) * bytes ≤ 140737488355328) (hn : n + m ≤ 9223372036854775807) (hfull : m = 0 ∨ cap < n + m)
    (h : ∀ v' w', Sl w' sz v' (n + m) (xs ++ ys) → Mod [] w w' → (m = 0 → v' = .slice ao n cap ∧ w' = w) → (m ≠ 0 → Ow w' e sz v' (n + m) (xs ++ ys) ∧ ∀ k ∈ blks v', w.heap.size ≤ k) → K (a.put d v') w') :
    Oper.wp P { dst := d, op := .call { callee := .builtin .append, args := #[s, x], argTypes := #[t, t] }, type := ty, pos := ps, after := af, guard := gd } a w K Q := by
  obtain ⟨v', w', hr, h2, h3, h4, h5⟩ := run_append_cp st w ty hv hy h1 hb hn hfull
  unfold Oper.wp execOp
  simp only [resolve, invoke, builtin, Sem.run_bind, Sem.run_pure, Result.andThen_ok, List.map_toArray, List.map_cons, List.map_nil, hs, hx, hr]
  exact h v' w' h2 h3 h4 h5

theorem setRow_list (w : World) (g : Nat) {T : TypeId} {cs : List Value} (hb : Blk w g T cs) (ds : List Value) : Blk (w.setRow g ds.toArray) g T ds ∧ Mod [g] w (w.setRow g ds.toArray) :=
  ⟨setRow_heap w g cs.toArray _ T _ hb, ⟨rfl, rfl, rfl, by simp, fun k _ hk => setRow_other w g k _ (by simpa using hk)⟩⟩

/-- A store of a value of whatever number of cells into a block that is known whole. -/
theorem wp_store {t : TypeId} {xa x : Operand} {g i : Nat} {u : Value} {T : TypeId} {cs : List Value} (ha : a.eval xa = .pointer (some ⟨g, i, none⟩)) (hx : a.eval x = u) (hsz : (P.info? t).map (·.size) = some u.cells.size)
    (hb : Blk w g T cs) (hi : i + u.cells.size ≤ cs.length) (h1 : ∀ c ∈ u.cells.toList, c.oneCell' = true)
    (h : ∀ w', Mod [g] w w' → Blk w' g T (cs.take i ++ u.cells.toList ++ cs.drop (i + u.cells.size)) → K a w') :
    Oper.wp P { dst := none, op := .store t xa x, type := ty, pos := ps, after := af, guard := gd } a w K Q := by
  obtain ⟨inf, hinf, hs⟩ := Option.map_eq_some_iff.1 hsz
  have hst := run_storeCells_at P g i T u.cells.toList 0 cs.toArray w hb (by simpa using hi) h1
  simp only [Nat.add_zero] at hst
  have hl := setRow_list w g hb (cs.take i ++ u.cells.toList ++ cs.drop (i + u.cells.size))
  refine wp_of_skip (w' := w.setRow g (cs.take i ++ u.cells.toList ++ cs.drop (i + u.cells.size)).toArray) ?_ (h _ hl.2 hl.1)
  unfold execOp
  dsimp only
  rw [ha, hx]
  have hstore : (Instr.storeAt t (.pointer (some ⟨g, i, none⟩)) u).run P w = .ok () (w.setRow g (cs.take i ++ u.cells.toList ++ cs.drop (i + u.cells.size)).toArray) := by
    unfold Instr.storeAt
    rw [run_bind']
    show (storeVar t ⟨g, i, none⟩ u).run P w = _
    unfold storeVar
    rw [run_bind', run_sizeOf_eq, hinf]
    dsimp only
    rw [if_neg (by rw [hs]; simp)]
    refine Eq.trans hst ?_
    simp
  rw [run_bind', hstore]
  rfl
/-- of one cell -/
theorem wp_store1 {t : TypeId} {xa x : Operand} {g i : Nat} {u : Value} {T : TypeId} {cs : List Value} (hsz : (P.info? t).map (·.size) = some 1) (ha : a.eval xa = .pointer (some ⟨g, i, none⟩)) (hx : a.eval x = u)
    (hu : u.cells = #[u] ∧ u.oneCell' = true) (hb : Blk w g T cs) (hi : i < cs.length)
    (h : ∀ w', Mod [g] w w' → Blk w' g T (cs.set i u) → K a w') :
    Oper.wp P { dst := none, op := .store t xa x, type := ty, pos := ps, after := af, guard := gd } a w K Q := by
  refine wp_store (u := u) ha hx (by rw [hu.1]; exact hsz) hb (by rw [hu.1]; exact hi) (by rw [hu.1]; simpa using hu.2) fun w' hm hb' => h w' hm ?_
  rw [hu.1] at hb'
  have : cs.take i ++ [u] ++ cs.drop (i + 1) = cs.set i u := by
    rw [List.set_eq_take_append_cons_drop, if_pos hi]; simp
  simpa [this] using hb'
end

/-! ### Where the walk stops: an operation that wants a law -/
/-- The list of operations, under a name at which the walk stands still. -/
def StopOp (P : Program) (ops : Array Oper) (Q : Exit → Act → World → Prop) (l : List Oper) (a : Act) (w : World) : Prop := wpList P ops Q l a w
section
variable {P : Program} {ops : Array Oper} {a : Act} {w : World} {Q : Exit → Act → World → Prop} {rest : List Oper}
variable {d : Option Tmp} {ty : TypeId} {ps : String} {af : Array Edge} {gd : Option (Nat × Bool)}
theorem StopOp.go {o : Oper} (hg : o.guard = none) (h : ∀ K : Act → World → Prop, (∀ a w, wpList P ops Q rest a w → K a w) → o.wp P a w K Q) : StopOp P ops Q (o :: rest) a w := wpList_plain hg h
theorem st_make {t : TypeId} {x y : Operand} (h : StopOp P ops Q ({ dst := d, op := .makeSlice t x y, type := ty, pos := ps, after := af, guard := gd } :: rest) a w) : wpList P ops Q ({ dst := d, op := .makeSlice t x y, type := ty, pos := ps, after := af, guard := gd } :: rest) a w := h
theorem st_append {xs : Array Operand} {ts : Array TypeId} (h : StopOp P ops Q ({ dst := d, op := .call { callee := .builtin .append, args := xs, argTypes := ts }, type := ty, pos := ps, after := af, guard := gd } :: rest) a w) : wpList P ops Q ({ dst := d, op := .call { callee := .builtin .append, args := xs, argTypes := ts }, type := ty, pos := ps, after := af, guard := gd } :: rest) a w := h
theorem st_clear {xs : Array Operand} {ts : Array TypeId} (h : StopOp P ops Q ({ dst := d, op := .call { callee := .builtin .clear, args := xs, argTypes := ts }, type := ty, pos := ps, after := af, guard := gd } :: rest) a w) : wpList P ops Q ({ dst := d, op := .call { callee := .builtin .clear, args := xs, argTypes := ts }, type := ty, pos := ps, after := af, guard := gd } :: rest) a w := h
theorem st_alloc {t : TypeId} (h : StopOp P ops Q ({ dst := d, op := .alloc t, type := ty, pos := ps, after := af, guard := gd } :: rest) a w) : wpList P ops Q ({ dst := d, op := .alloc t, type := ty, pos := ps, after := af, guard := gd } :: rest) a w := h
theorem st_box {t : TypeId} {x : Operand} (h : StopOp P ops Q ({ dst := d, op := .box t x, type := ty, pos := ps, after := af, guard := gd } :: rest) a w) : wpList P ops Q ({ dst := d, op := .box t x, type := ty, pos := ps, after := af, guard := gd } :: rest) a w := h
theorem st_bslice {t : TypeId} {n : Nat} {xs : Array (Nat × Operand)} (h : StopOp P ops Q ({ dst := d, op := .buildSlice t n xs, type := ty, pos := ps, after := af, guard := gd } :: rest) a w) : wpList P ops Q ({ dst := d, op := .buildSlice t n xs, type := ty, pos := ps, after := af, guard := gd } :: rest) a w := h
theorem st_store {t : TypeId} {x y : Operand} (h : StopOp P ops Q ({ dst := d, op := .store t x y, type := ty, pos := ps, after := af, guard := gd } :: rest) a w) : wpList P ops Q ({ dst := d, op := .store t x y, type := ty, pos := ps, after := af, guard := gd } :: rest) a w := h
end
section
variable {P : Program} {ops : Array Oper} {a : Act} {w : World} {Q : Exit → Act → World → Prop} {rest : List Stp}
variable {d : Option Tmp} {ty : TypeId} {ps : String} {af : Array Edge} {gd : Option (Nat × Bool)}
/-- A call of a Go function among the operations of a region that draws. -/
theorem wpT_call {i : Nat} {f : FuncId} {xs : Array Operand} {ts : Array TypeId}
    (ho : ops.toList[i]? = some { dst := d, op := .call { callee := .value (.func f), args := xs, argTypes := ts }, type := ty, pos := ps, after := af, guard := gd })
    (hw : Region.wanted { dst := d, op := .call { callee := .value (.func f), args := xs, argTypes := ts }, type := ty, pos := ps, after := af, guard := gd } (yielded ops a.tmps) = true)
    (h : ∀ K : Act → World → Prop, (∀ a' w', WpT P ops Q rest a' w' → K a' w') → Oper.wp P { dst := d, op := .call { callee := .value (.func f), args := xs, argTypes := ts }, type := ty, pos := ps, after := af, guard := gd } a w K (NoPanic Q)) :
    WpT P ops Q (⟨i, false, []⟩ :: rest) a w := wpT_e0 ho hw h
theorem wpT_callh {i j : Nat} {held : List Nat} {f : FuncId} {xs : Array Operand} {ts : Array TypeId}
    (ho : ops.toList[i]? = some { dst := d, op := .call { callee := .value (.func f), args := xs, argTypes := ts }, type := ty, pos := ps, after := af, guard := gd })
    (hw : Region.wanted { dst := d, op := .call { callee := .value (.func f), args := xs, argTypes := ts }, type := ty, pos := ps, after := af, guard := gd } (yielded ops a.tmps) = true)
    (h : ∀ K : Act → World → Prop, (∀ a' w', Agains P ops a w w' (j :: held) ∧ WpT P ops Q rest a' w' → K a' w') → Oper.wp P { dst := d, op := .call { callee := .value (.func f), args := xs, argTypes := ts }, type := ty, pos := ps, after := af, guard := gd } a w K (NoPanic Q)) :
    WpT P ops Q (⟨i, false, j :: held⟩ :: rest) a w := wpT_e ho hw h
end

@[go_sem] theorem run_eql_sl_nil {P : Program} (w : World) (t e : TypeId) (a : Option Addr) (l c : Nat) (h : P.underlying t = some (.slice e)) : (binOp .eql t (.slice a l c) (.slice none 0 0)).run P w = .ok (.bool a.isNone) w :=
  Lib.run_eql_slice_nil w t e a l c 0 0 h

/-! ### Frames -/
theorem put_some {l : List Value} {ds : List Deferred} {d : Nat} {v : Value} : ({ tmps := l.toArray, defers := ds } : Act).put (some d) v = { tmps := (l.set d v).toArray, defers := ds } := by
  simp [Act.put]
end Go.Proofs.YtfepggdljhiemaaGreatDoor.Gw

/-! Guarded steps of a region that draws: decided by what lies in the guard's own place. -/
namespace Go.Proofs.YtfepggdljhiemaaGreatDoor.Gw
open Go
section
variable {P : Program} {ops : Array Oper} {Q : Exit → Act → World → Prop}
theorem wanted_g {o g : Oper} {a : Act} {gi d : Nat} {gb b : Bool} (hg : o.guard = some (gi, gb)) (hgo : ops.toList[gi]? = some g) (hd : g.dst = some d) (ht : a.tmps.toList[d]? = some (.bool b)) :
    Region.wanted o (yielded ops a.tmps) = (b == gb) := by
  rw [Array.getElem?_toList] at hgo ht
  unfold Region.wanted
  rw [hg]
  dsimp only
  unfold yielded
  rw [hgo]
  simp only [Option.bind_some, hd, ht]
  cases b <;> cases gb <;> rfl
theorem wpT_n {i : Nat} {held : List Nat} {o : Oper} {rest : List Stp} {a : Act} {w : World} (ho : ops.toList[i]? = some o) (hg : o.guard = none)
    (h : ∀ K : Act → World → Prop, (∀ a', WpT P ops Q rest a' w → K a' w) → o.wp P a w K (fun _ _ _ => False)) : WpT P ops Q (⟨i, true, held⟩ :: rest) a w :=
  wpT_q ho (by unfold Region.wanted; rw [hg]) h
theorem wpT_gq {i gi d : Nat} {gb : Bool} {held : List Nat} {o g : Oper} {rest : List Stp} {a : Act} {w : World} (ho : ops.toList[i]? = some o) (hg : o.guard = some (gi, gb)) (hgo : ops.toList[gi]? = some g) (hd : g.dst = some d) (ht : a.tmps.toList[d]? = some (.bool gb))
    (h : ∀ K : Act → World → Prop, (∀ a', WpT P ops Q rest a' w → K a' w) → o.wp P a w K (fun _ _ _ => False)) : WpT P ops Q (⟨i, true, held⟩ :: rest) a w :=
  wpT_q ho (by rw [wanted_g hg hgo hd ht]; simp) h
theorem wpT_gs {i : Nat} {q : Bool} {held : List Nat} {gi d : Nat} {gb b : Bool} {o g : Oper} {rest : List Stp} {a : Act} {w : World} (ho : ops.toList[i]? = some o) (hg : o.guard = some (gi, gb)) (hgo : ops.toList[gi]? = some g) (hd : g.dst = some d) (ht : a.tmps.toList[d]? = some (.bool b)) (hb : (b == gb) = false)
    (h : WpT P ops Q rest (a.put o.dst undef) w) : WpT P ops Q (⟨i, q, held⟩ :: rest) a w :=
  wpT_skip (s := ⟨i, q, held⟩) ho (by rw [wanted_g hg hgo hd ht]; exact hb) h
theorem wpT_gk {i : Nat} {q : Bool} {held : List Nat} {gi d : Nat} {gb b : Bool} {o g : Oper} {rest : List Stp} {a : Act} {w : World} (ho : ops.toList[i]? = some o) (hg : o.guard = some (gi, gb)) (hgo : ops.toList[gi]? = some g) (hd : g.dst = some d) (ht : a.tmps.toList[d]? = some (.bool b)) (hb : (b == gb) = false)
    (h : ∀ K : Act → World → Prop, (∀ a', WpT P ops Q rest a' w → K a' w) → K (a.put o.dst undef) w) : WpT P ops Q (⟨i, q, held⟩ :: rest) a w :=
  wpT_gs ho hg hgo hd ht hb (h (fun a' w' => w' = w → WpT P ops Q rest a' w) (fun _ h _ => h) rfl)
theorem wpT_gcallh {i j gi d' : Nat} {gb : Bool} {held : List Nat} {f : FuncId} {xs : Array Operand} {ts : Array TypeId} {dst : Option Tmp} {ty : TypeId} {ps : String} {af : Array Edge} {g : Oper} {rest : List Stp} {a : Act} {w : World}
    (ho : ops.toList[i]? = some { dst := dst, op := .call { callee := .value (.func f), args := xs, argTypes := ts }, type := ty, pos := ps, after := af, guard := some (gi, gb) })
    (hgo : ops.toList[gi]? = some g) (hd : g.dst = some d') (ht : a.tmps.toList[d']? = some (.bool gb))
    (h : ∀ K : Act → World → Prop, (∀ a' w', Agains P ops a w w' (j :: held) ∧ WpT P ops Q rest a' w' → K a' w') → Oper.wp P { dst := dst, op := .call { callee := .value (.func f), args := xs, argTypes := ts }, type := ty, pos := ps, after := af, guard := some (gi, gb) } a w K (NoPanic Q)) :
    WpT P ops Q (⟨i, false, j :: held⟩ :: rest) a w := wpT_callh ho (by rw [wanted_g rfl hgo hd ht]; simp) h
theorem again_const {P : Program} {o : Oper} {a : Act} {w w' : World} {v : Value} (h : ∀ w, (execOp a.eval o).run P w = .ok (.value v) w) : Again P o a w w' := by
  intro u hu
  rw [h] at hu ⊢
  cases hu
  rfl
theorem wpT_gcall {i gi d' : Nat} {gb : Bool} {f : FuncId} {xs : Array Operand} {ts : Array TypeId} {dst : Option Tmp} {ty : TypeId} {ps : String} {af : Array Edge} {g : Oper} {rest : List Stp} {a : Act} {w : World}
    (ho : ops.toList[i]? = some { dst := dst, op := .call { callee := .value (.func f), args := xs, argTypes := ts }, type := ty, pos := ps, after := af, guard := some (gi, gb) })
    (hgo : ops.toList[gi]? = some g) (hd : g.dst = some d') (ht : a.tmps.toList[d']? = some (.bool gb))
    (h : ∀ K : Act → World → Prop, (∀ a' w', WpT P ops Q rest a' w' → K a' w') → Oper.wp P { dst := dst, op := .call { callee := .value (.func f), args := xs, argTypes := ts }, type := ty, pos := ps, after := af, guard := some (gi, gb) } a w K (NoPanic Q)) :
    WpT P ops Q (⟨i, false, []⟩ :: rest) a w := wpT_call ho (by rw [wanted_g rfl hgo hd ht]; simp) h
end
end Go.Proofs.YtfepggdljhiemaaGreatDoor.Gw
