import Derived.Test.YtkedbphdflhhlaaDkP
import Derived.Test.YtkedbphdflhhlaaGDk
/-! Two disks side by side, each beside the reference's: what DiskPlays plays on. -/
set_option linter.unusedVariables false
set_option linter.unusedSimpArgs false
set_option maxRecDepth 100000
namespace Go.Proofs.Ytkedbphdflhhlaa
open Go.RowKit Gw

/-- what New of two numbers tells -/
def mkD (s z : Nat) : Dm := ⟨z, List.replicate s (zeros z), []⟩
theorem mkD_ok {s z : Nat} (h : mayD s z = true) : (mkD s z).ok := by
  obtain ⟨h1, h2, h3, h4⟩ := mayD_parts h
  refine ⟨?_, ?_, ?_, ?_, ?_, ?_⟩ <;> simp [mkD, zeros] <;> omega
def updf {α : Type} (f : Nat → α) (k : Nat) (a : α) : Nat → α := fun i => if i = k then a else f i
theorem updf_same {α : Type} (f : Nat → α) (k : Nat) (a : α) : updf f k a k = a := if_pos rfl
theorem updf_ne {α : Type} (f : Nat → α) {k i : Nat} (a : α) (h : i ≠ k) : updf f k a i = f i := if_neg h
structure Brd (W w : World) (x y : Nat) (V U : Nat → Value) (M : Nat → Option Dm) (L K : Nat → List Nat) : Prop where
  m0 : Mod [] W w
  bx : Blk w x 57 [V 0, V 1]
  by_ : Blk w y 96 [U 0, U 1]
  two : ∀ i < 2, Two w (V i) (U i) (M i) (L i) (K i)
  ap : ∀ i < 2, ∀ j < 2, i ≠ j → ∀ b ∈ L i ++ K i, b ∉ L j ++ K j
  far : ∀ i < 2, x ∉ L i ++ K i ∧ y ∉ L i ++ K i
  xy : x ≠ y
  lox : W.heap.size ≤ x
  loy : W.heap.size ≤ y
  lo : ∀ i < 2, ∀ b ∈ L i ++ K i, W.heap.size ≤ b
section
variable {W w w' w1 w2 : World} {x y k : Nat} {V U : Nat → Value} {M : Nat → Option Dm} {L K : Nat → List Nat} {M' : Option Dm} {a u : Value} {La Ku : List Nat}
theorem Two.lt {v u : Value} {M : Option Dm} {L K : List Nat} (h : Two w v u M L K) : ∀ b ∈ L ++ K, b < w.heap.size := fun b hb => (List.mem_append.1 hb).elim (h.d.lt b) (h.r.lt b)
theorem Brd.ext (h : Brd W w x y V U M L K) (hm : Mod [] w w') : Brd W w' x y V U M L K :=
  ⟨h.m0.ext hm, h.bx.ext hm, h.by_.ext hm, fun i hi => (h.two i hi).ext hm, h.ap, h.far, h.xy, h.lox, h.loy, h.lo⟩
theorem Brd.turn (h : Brd W w x y V U M L K) (hk : k < 2) (ht : TwoP w (V k) (U k) M' (L k) (K k) w') : ∃ L' K', Brd W w' x y V U (updf M k M') L' K' := by
  obtain ⟨L', K', hT, hm, hL, hK⟩ := ht
  have hin : ∀ b ∈ L' ++ K', b ∈ L k ++ K k ∨ w.heap.size ≤ b := fun b hb => (List.mem_append.1 hb).elim (fun hb => (hL b hb).imp (List.mem_append_left _) id) (fun hb => (hK b hb).imp (List.mem_append_right _) id)
  refine ⟨updf L k L', updf K k K', h.m0.fresh hm (h.lo k hk), h.bx.mod hm (h.far k hk).1, h.by_.mod hm (h.far k hk).2, fun i hi => ?_, fun i hi j hj hij b hb => ?_, fun i hi => ?_, h.xy, h.lox, h.loy, fun i hi b hb => ?_⟩
  · by_cases hik : i = k
    · subst hik; simp only [updf_same]; exact hT
    · simp only [updf_ne _ _ hik]
      exact (h.two i hi).mod hm (fun b hb => h.ap i hi k hk hik b (List.mem_append_left _ hb)) (fun b hb => h.ap i hi k hk hik b (List.mem_append_right _ hb))
  · by_cases hik : i = k
    · subst hik
      simp only [updf_same] at hb
      have hji : j ≠ i := fun h => hij h.symm
      simp only [updf_ne _ _ hji]
      intro hj2
      rcases hin b hb with h1 | h1
      · exact h.ap i hi j hj hij b h1 hj2
      · have := (h.two j hj).lt b hj2; omega
    · simp only [updf_ne _ _ hik] at hb
      by_cases hjk : j = k
      · subst hjk
        simp only [updf_same]
        intro hj2
        rcases hin b hj2 with h1 | h1
        · exact h.ap i hi j hj hij b hb h1
        · have := (h.two i hi).lt b hb; omega
      · simp only [updf_ne _ _ hjk]; exact h.ap i hi j hj hij b hb
  · by_cases hik : i = k
    · subst hik
      simp only [updf_same]
      have := h.bx.lt
      have := h.by_.lt
      refine ⟨fun hh => (hin _ hh).elim (h.far i hi).1 (by omega), fun hh => (hin _ hh).elim (h.far i hi).2 (by omega)⟩
    · simp only [updf_ne _ _ hik]; exact h.far i hi
  · by_cases hik : i = k
    · subst hik
      simp only [updf_same] at hb
      exact (hin b hb).elim (h.lo i hi b) fun h1 => Nat.le_trans h.m0.size h1
    · simp only [updf_ne _ _ hik] at hb; exact h.lo i hi b hb
/-- the one becomes a copy of the other -/
theorem Brd.copy {m : Nat} (h : Brd W w x y V U M L K) (hk : k < 2) (hm2 : m < 2) (hd : Mod [] w w1) (hD : Ld w1 a (M k) La) (hnD : ∀ b ∈ La, w.heap.size ≤ b) (hr : Mod [] w1 w2) (hR : Lr w2 u (M k) Ku) (hnR : ∀ b ∈ Ku, w1.heap.size ≤ b) (hm : Mod [x, y] w2 w')
    (hx : Blk w' x 57 [updf V m a 0, updf V m a 1]) (hy : Blk w' y 96 [updf U m u 0, updf U m u 1]) : ∃ L' K', Brd W w' x y (updf V m a) (updf U m u) (updf M m (M k)) L' K' := by
  have sx := h.bx.lt
  have sy := h.by_.lt
  have s1 := hd.size
  have s0 := h.m0.size
  have hin : ∀ b ∈ La ++ Ku, w.heap.size ≤ b := fun b hb => (List.mem_append.1 hb).elim (hnD b) (fun h => Nat.le_trans s1 (hnR b h))
  have hout : ∀ b, w.heap.size ≤ b → b ∉ [x, y] := fun b hb hh => by simp at hh; omega
  refine ⟨updf L m La, updf K m Ku, (h.m0.ext (hd.ext hr)).fresh hm (fun g hg => ?_), hx, hy, fun i hi => ?_, fun i hi j hj hij b hb => ?_, fun i hi => ?_, h.xy, h.lox, h.loy, fun i hi b hb => ?_⟩
  · simp at hg
    rcases hg with rfl | rfl
    · exact h.lox
    · exact h.loy
  · by_cases hik : i = m
    · subst hik
      simp only [updf_same]
      refine ⟨(hD.ext hr).mod hm fun b hb => hout b (hnD b hb), hR.mod hm fun b hb => hout b (Nat.le_trans s1 (hnR b hb)), fun b hb hb2 => ?_⟩
      have := hD.lt b hb
      have := hnR b hb2
      omega
    · simp only [updf_ne _ _ hik]
      have hf := h.far i hi
      refine ((h.two i hi).ext (hd.ext hr)).mod hm (fun b hb hh => ?_) (fun b hb hh => ?_)
      · simp at hh
        rcases hh with rfl | rfl
        · exact hf.1 (List.mem_append_left _ hb)
        · exact hf.2 (List.mem_append_left _ hb)
      · simp at hh
        rcases hh with rfl | rfl
        · exact hf.1 (List.mem_append_right _ hb)
        · exact hf.2 (List.mem_append_right _ hb)
  · by_cases hik : i = m
    · subst hik
      simp only [updf_same] at hb
      have hji : j ≠ i := fun h => hij h.symm
      simp only [updf_ne _ _ hji]
      intro hj2
      have := (h.two j hj).lt b hj2
      have := hin b hb
      omega
    · simp only [updf_ne _ _ hik] at hb
      by_cases hjk : j = m
      · subst hjk
        simp only [updf_same]
        intro hj2
        have := (h.two i hi).lt b hb
        have := hin b hj2
        omega
      · simp only [updf_ne _ _ hjk]; exact h.ap i hi j hj hij b hb
  · by_cases hik : i = m
    · subst hik
      simp only [updf_same]
      exact ⟨fun hh => by have := hin _ hh; omega, fun hh => by have := hin _ hh; omega⟩
    · simp only [updf_ne _ _ hik]; exact h.far i hi
  · by_cases hik : i = m
    · subst hik
      simp only [updf_same] at hb
      exact Nat.le_trans s0 (hin b hb)
    · simp only [updf_ne _ _ hik] at hb; exact h.lo i hi b hb
end
end Go.Proofs.Ytkedbphdflhhlaa
