import Derived.Test.YtfepggdljhiemaaGreatDoorFfC
import Derived.Test.YtfepggdljhiemaaGreatDoorFrP
/-! FrameKeeps: what is told is new memory. -/
set_option linter.unusedVariables false
set_option linter.unusedSimpArgs false
set_option maxRecDepth 100000
namespace Go.Proofs.YtfepggdljhiemaaGreatDoor
open Go.RowKit Gw

theorem Gw.StopOp.gw {P : Program} {ops : Array Oper} {Q : Exit → Act → World → Prop} {rest : List Oper} {a : Act} {w : World} {o : Oper} (hw : Region.wanted o (yielded ops a.tmps) = true) (h : ∀ K : Act → World → Prop, (∀ a w, wpList P ops Q rest a w → K a w) → o.wp P a w K Q) : StopOp P ops Q (o :: rest) a w :=
  wpList_step fun K hK => by rw [if_pos hw]; exact h K hK
def Fi.ce (x : Fi) : Ce := ⟨x.f.e, x.f.s, x.v⟩
theorem cv_ce (L : List Fi) : cv (L.map Fi.ce) = L.flatMap Fi.cells := by
  unfold cv
  rw [List.flatMap_map]
  rfl
theorem Frs.of {w : World} {base : Nat} {v : Value} {L : List Fi} (h : Frs w base v L) : Of w v (L.map Fi.ce) := by
  unfold Of
  rw [cv_ce, List.length_map]
  exact h.ow
theorem Fam.app {w : World} {base B2 : Nat} {A B : List (Value × List UInt8)} (h1 : Fam w base A) (h2 : Fam w B2 B) (hlt : ∀ p ∈ A, ∀ k ∈ blks p.1, k < B2) (hb : base ≤ B2) : Fam w base (A ++ B) := by
  refine ⟨fun p hp => ?_, ?_⟩
  · rcases List.mem_append.1 hp with hp | hp
    · exact h1.ob p hp
    · exact ⟨(h2.ob p hp).1, fun b hb2 => Nat.le_trans hb ((h2.ob p hp).2 b hb2)⟩
  · rw [List.pairwise_append]
    refine ⟨h1.dj, h2.dj, fun p hp q hq b hb1 hb2 => ?_⟩
    have := hlt p hp b hb1
    have := (h2.ob q hq).2 b hb2
    omega
theorem dd_f {A B : List Fi} (h : A.map Fi.d = B.map Fi.d) : A.map Fi.f = B.map Fi.f := by have := congrArg (List.map Prod.snd) h; simpa [Function.comp_def, Fi.d] using this
theorem row_ok {b : List UInt8} {e s : Nat} : ∀ x ∈ rowS b e s 0, x.2.ok := fun x hx => by
  obtain ⟨i, hi, rfl⟩ := List.getElem_of_mem hx
  exact (rowS_at (b := b) (e := e) b.length s 0 (by omega) i hi).2.2
theorem fi_ok {b : List UInt8} {e s : Nat} {L : List Fi} (h : L.map Fi.d = rowS b e s 0) : ∀ x ∈ L, x.f.l.length ≤ 32 := fun x hx => by
  have h1 : x.d ∈ rowS b e s 0 := by rw [← h]; exact List.mem_map.2 ⟨x, hx, rfl⟩
  have := (row_ok _ h1).l
  exact this
end Go.Proofs.YtfepggdljhiemaaGreatDoor
