import Derived.Test.YtfepggdljhiemaaDoorWlN
import Derived.Test.YtfepggdljhiemaaDoorGDi
import Derived.Test.YtfepggdljhiemaaDoorGFl
/-! Wal: bodies that were appended, listed beside the log. -/
set_option linter.unusedVariables false
set_option linter.unusedSimpArgs false
set_option maxRecDepth 100000
namespace Go.Proofs.YtfepggdljhiemaaDoor
open Go.RowKit Gw

theorem RowsF.take {w : World} {ao : Option Addr} {n cap k : Nat} {L : List (Value × List UInt8)} (h : RowsF w (.slice ao n cap) L) (hn : n = L.length) (hk : k ≤ n) (hc : k ≤ cap) : RowsF w (.slice ao k cap) (L.take k) := by
  subst hn
  have h2 := Sl.cut (lo := 0) (hi := k) (m := cap) h.1 (Nat.zero_le _) hk hc (Nat.le_refl _)
  have hl : (L.take k).length = k := by rw [List.length_take]; omega
  refine ⟨?_, fun x hx => h.2 x (List.mem_of_mem_take hx)⟩
  rw [hl]
  have e : (L.take k).map (·.1) = ((L.map (·.1)).drop (0 * 1)).take ((k - 0) * 1) := by rw [Nat.zero_mul, List.drop_zero, Nat.sub_zero, Nat.mul_one, List.map_take]
  rw [e]
  have e2 : ao.map (·.add (0 * 1)) = ao := by cases ao <;> simp [Addr.add]
  rw [e2] at h2
  simpa using h2
theorem flG_sz (c : Nat) (v : Pv) (s : Ls) : (flG c v s).1.n ≤ v.n + (2 * (c * 64) + 1) ∧ (flG c v s).1.m.row.length ≤ v.m.row.length + c * 64 := by
  unfold flG
  split
  · exact ⟨by dsimp only; omega, by dsimp only; omega⟩
  · have h := putG_sz 1 c 64 v (s.g : Nat) s.b
    exact ⟨by have := h.n; dsimp only; omega, by have := h.row; dsimp only; omega⟩
/-- a log, a list of the bodies that it took -/
def KiP (W : World) (p q P Q : Nat) (dv : Pv) (M : List Nat) (l r h c e f : Nat) (iv : Value) (j : Nat) (w : World) : Prop :=
  ∃ (k : Nat) (s : Ls) (v : Pv) (L : List Nat) (bw : Value) (ls : List (Value × List UInt8)) (O : List (Nat × TypeId × List Value)),
    InsO iv (ls.map (·.1)) O ∧ Wg W w p q P Q v dv L M l r h c bw s O ∧ Kp c v s e f (ls.map (·.2)) k ∧ (∀ x ∈ ls, Bs W x.1 x.2) ∧ ls.length ≤ j ∧ v.n ≤ j * 2000 ∧ v.m.row.length ≤ j * 1000
section
variable {W w w' : World} {p q P Q : Nat} {v u v' u' : Pv} {L M L' M' G : List Nat} {l r h c : Nat} {bw bw' : Value} {s s' : Ls} {O : List (Nat × TypeId × List Value)} {iv iv' : Value} {ls : List (Value × List UInt8)}
theorem Wg.rows (H : Wg W w p q P Q v u L M l r h c bw s O) (hO : InsO iv (ls.map (·.1)) O) (hB : ∀ x ∈ ls, Bs W x.1 x.2) : RowsF w iv ls := by
  have h1 := (H.ins hO).sl
  rw [List.length_map] at h1
  exact ⟨h1, fun x hx => (hB x hx).ext H.B.m⟩
theorem Wg.insF (H : Wg W w p q P Q v u L M l r h c bw s O) (hO : InsO iv (ls.map (·.1)) O) : ∃ ao cap, iv = .slice ao ls.length cap ∧ ls.length ≤ cap ∧ Ow w 23 1 (.slice ao ls.length cap) ls.length (ls.map (·.1)) := by
  have h1 := H.ins hO
  rw [List.length_map] at h1
  obtain ⟨ao, cap, rfl, h2, _⟩ := Sl.form h1.sl
  exact ⟨ao, cap, rfl, h2, h1⟩
/-- one body more is listed -/
theorem Wg.insC {x : Value × List UInt8} (H : Wg W w p q P Q v u L M l r h c bw s O) (hO : InsO iv (ls.map (·.1)) O) (hm : Mod (blks iv) w w') (ho : Ow w' 23 1 iv' (ls.length + 1) (ls.map (·.1) ++ [x.1])) (hn : ∀ k ∈ blks iv', k ∈ blks iv ∨ w.heap.size ≤ k) : ∃ O', Wg W w' p q P Q v u L M l r h c bw s O' ∧ InsO iv' ((ls ++ [x]).map (·.1)) O' := by
  refine H.insT hO hm ?_ hn
  rw [List.map_append, List.map_singleton, List.length_append, List.length_map]
  exact ho
end
end Go.Proofs.YtfepggdljhiemaaDoor
