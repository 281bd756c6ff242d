import Derived.Test.YtfepggdljhiemaaGreatDoorGRi
import Derived.Test.YtfepggdljhiemaaGreatDoorGDs
/-! Regions: inner, flat. -/
set_option linter.unusedVariables false
set_option linter.unusedSimpArgs false
set_option maxRecDepth 100000
namespace Go.Proofs.YtfepggdljhiemaaGreatDoor
open Go.RowKit Gw

end Go.Proofs.YtfepggdljhiemaaGreatDoor

/-! 'copy' into a slice that begins anywhere in a block that is known whole. -/
namespace Go.Proofs.YtfepggdljhiemaaGreatDoor
open Go.RowKit Gw

section
variable {P : Program} {a : Act} {w : World} {K : Act → World → Prop} {Q : Exit → Act → World → Prop}
variable {d : Option Tmp} {ty : TypeId} {ps : String} {af : Array Edge} {gd : Option (Nat × Bool)}
end
end Go.Proofs.YtfepggdljhiemaaGreatDoor

/-! RegionBack: a round of its Writes. -/
namespace Go.Proofs.YtfepggdljhiemaaGreatDoor
open Go.RowKit Gw

/-- a region inside a device, and the bytes that it should hold -/
structure Bk (W w : World) (p q r : Nat) (m : Dm) (n : Nat) (L : List Nat) (F C g : Nat) : Prop where
  d : Ps W w p q (Lv m n) L
  r : Rs w r p F C 64 L
  gb : Blk w g 5 (bv (abs m 64 (F * 64) (C * 64)))
  gl : g ∉ p :: L
  gw : W.heap.size ≤ g
section
variable {W w w' : World} {p q r n F C g : Nat} {m : Dm} {L : List Nat}
theorem Bk.ext (h : Bk W w p q r m n L F C g) (hm : Mod [] w w') : Bk W w' p q r m n L F C g := ⟨h.d.ext hm, h.r.ext hm, h.gb.ext hm, h.gl, h.gw⟩
end
structure Bm (m : Dm) (n F C j : Nat) : Prop where
  ok : m.ok
  sz : m.sz = 64
  len : m.dur.length = 6
  n : n ≤ 16 * j
  row : m.row.length ≤ 16 * j
  z : ∀ i, i < F * 64 ∨ F * 64 + C * 64 ≤ i → ab m 64 i = 0
theorem Bm.zero (F C : Nat) : Bm (dev0 6 64) 0 F C 0 := ⟨dev0_ok 6 64 (by omega) (by omega) (.inl rfl), rfl, rfl, by omega, by simp [dev0], fun i _ => ab_dev0 6 64 i⟩
theorem Bm.put {m m' : Dm} {n n' F C j a : Nat} {b : List UInt8} (h : Bm m n F C j) (hw : WrL F 64 m n a (a + b.length) b m' n') (hab : a + b.length ≤ C * 64) (hC : C ≤ 6) : Bm m' n' F C (j + 1) := by
  have h1 := chK_le (a := a) (e := a + b.length)
  have h2 := hw.n2
  have h3 := hw.row
  have h4 := h.n
  have h5 := h.row
  refine ⟨hw.ok, hw.sz, by rw [hw.dur]; exact h.len, by omega, by omega, fun i hi => ?_⟩
  rw [hw.ab, if_neg (by omega)]
  exact h.z i hi
end Go.Proofs.YtfepggdljhiemaaGreatDoor

/-! Regions: behind a Sync what is read is what lies there. -/
namespace Go.Proofs.YtfepggdljhiemaaGreatDoor
open Go.RowKit Gw

theorem tearR_full {b old : List UInt8} {n : Nat} (hb : b.length = n) (ho : old.length = n) : tear n b old = b := by
  unfold tear
  rw [List.take_of_length_le (by omega), List.drop_eq_nil_of_le (by omega), List.append_nil]
theorem readR_snoc (s : Nat) (d : List (List UInt8)) (row : List (Nat × List UInt8)) (a : Nat) (b : List UInt8) (at_ : Nat) : (Dm.mk s d (row ++ [(a, b)])).read at_ = if a = at_ then b else (Dm.mk s d row).read at_ := by
  unfold Dm.read
  rw [List.reverse_append, List.reverse_singleton, List.singleton_append, List.find?_cons]
  by_cases h : a = at_
  · simp [h]
  · simp [h]
theorem settleR_keep (n : Nat) (row : List (Nat × List UInt8)) (d : List (List UInt8)) (hd : ∀ b ∈ d, b.length = n) (hr : ∀ x ∈ row, x.1 < d.length ∧ x.2.length = n) (g : Nat → Nat) (hg : ∀ i, i < row.length → g i = n) (at_ : Nat) (ha : at_ < d.length) :
    (settleD g row d)[at_]? = some ((Dm.mk n d row).read at_) := by
  have key : ∀ j, j ≤ row.length → (settleD g (row.take j) d)[at_]? = some ((Dm.mk n d (row.take j)).read at_) := by
    intro j
    induction j with
    | zero =>
      intro _
      simp only [List.take_zero]
      unfold settleD Dm.read
      simp [List.getElem?_eq_getElem ha]
    | succ j ih =>
      intro hj
      have hj' : j < row.length := by omega
      have ih := ih (by omega)
      have hall := settleD_all g hd (fun x hx => hr x (List.mem_of_mem_take (i := j) hx))
      have hlen : (settleD g (row.take j) d).length = d.length := settleD_len _ _ _
      have hx := hr _ (List.getElem_mem hj')
      rw [settleD_succ _ _ _ _ hj', List.take_add_one, List.getElem?_eq_getElem hj', Option.toList_some]
      generalize row[j] = ab at hx ⊢
      obtain ⟨a, b⟩ := ab
      rw [readR_snoc]
      unfold stepD
      dsimp only at hx ⊢
      rw [List.getElem?_set, hg j hj']
      by_cases h : a = at_
      · subst h
        rw [if_pos rfl, if_pos rfl, if_pos (by omega)]
        rw [tearR_full hx.2]
        refine hall _ ?_
        rw [List.getD_eq_getElem?_getD, List.getElem?_eq_getElem (by omega)]
        exact List.getElem_mem _
      · rw [if_neg h, if_neg h]
        exact ih
  have := key row.length (Nat.le_refl _)
  rwa [List.take_of_length_le (Nat.le_refl _)] at this
theorem sync_at {m : Dm} (hok : m.ok) {i : Nat} (hi : i < m.dur.length) : m.sync.dur[i]? = some (m.read i) := by
  have h := settleR_keep m.sz m.row m.dur hok.d hok.r (fun _ => m.sz) (fun _ _ => rfl) i hi
  exact h
theorem Bm.sync {m : Dm} {n F C j : Nat} (h : Bm m n F C j) : m.sync.dur.length = 6 := by
  unfold Dm.sync Dm.settle
  dsimp only
  rw [settleD_len]
  exact h.len
end Go.Proofs.YtfepggdljhiemaaGreatDoor
