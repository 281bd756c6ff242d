import Derived.Test.YtfepggdljhiemaaGreatDoorSwD
import Derived.Test.YtfepggdljhiemaaGreatDoorLpN
import Derived.Deep.DeepCutAuto
/-! Slots: Load. -/
set_option linter.unusedVariables false
set_option linter.unusedSimpArgs false
set_option maxRecDepth 100000
namespace Go.Proofs.YtfepggdljhiemaaGreatDoor
open Go.RowKit Gw

theorem bodG_z {c z : Nat} {v : Pv} {f : Nat} {i : Int} {h : Hd} {rest : List (Nat × Int × Hd)} (hg : h.g = 0) : bodG c z v ((f, i, h) :: rest) = bodG c z v rest := by
  rw [bodG, if_pos hg]
theorem bodG_e {c z : Nat} {v : Pv} {f : Nat} {i : Int} {h : Hd} {rest : List (Nat × Int × Hd)} (hg : h.g ≠ 0) {V : Pv} {E : Int} {B : List UInt8} (hr : rdA f c z v z h.l = (V, E, B)) (he : E ≠ 0) : bodG c z v ((f, i, h) :: rest) = ⟨V, E, hd0, [], 0⟩ := by
  rw [bodG, if_neg hg, hr]
  exact if_neg he
theorem bodG_y {c z : Nat} {v : Pv} {f : Nat} {i : Int} {h : Hd} {rest : List (Nat × Int × Hd)} (hg : h.g ≠ 0) {V : Pv} {B : List UInt8} (hr : rdA f c z v z h.l = (V, 0, B)) (he : crcS B = h.s) : bodG c z v ((f, i, h) :: rest) = ⟨V, 0, h, B, i⟩ := by
  rw [bodG, if_neg hg, hr]
  dsimp only
  rw [if_pos rfl, if_pos he]
theorem bodG_n {c z : Nat} {v : Pv} {f : Nat} {i : Int} {h : Hd} {rest : List (Nat × Int × Hd)} (hg : h.g ≠ 0) {V : Pv} {B : List UInt8} (hr : rdA f c z v z h.l = (V, 0, B)) (he : crcS B ≠ h.s) : bodG c z v ((f, i, h) :: rest) = bodG c z V rest := by
  rw [bodG, if_neg hg, hr]
  dsimp only
  rw [if_pos rfl, if_neg he]
/-- what Load tells -/
def SLdP (w : World) (p q : Nat) (L : List Nat) (R : Ld5) (e : Ending) (w' : World) : Prop := ∃ bw, e = .returned (.tuple #[R.h.v, bw, .int .i64 R.i, .int .i64 R.e]) ∧ Ob w' bw R.b ∧ New w bw ∧ Pd w' p q R.v L ∧ Mod [p] w w'
section
variable {W w w' : World} {s a b p q f0 f1 c z t g : Nat} {V V' : Pv} {L D : List Nat} {hs hs' : List Value}
end
end Go.Proofs.YtfepggdljhiemaaGreatDoor
