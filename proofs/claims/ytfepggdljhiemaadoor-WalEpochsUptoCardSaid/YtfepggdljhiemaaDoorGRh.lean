import Derived.Test.YtfepggdljhiemaaDoorGRg
import Derived.Test.YtfepggdljhiemaaDoorGRs
/-! The document's region: Bytes, wrong, Sync, Read. -/
set_option linter.unusedVariables false
set_option linter.unusedSimpArgs false
set_option maxRecDepth 100000
namespace Go.Proofs.YtfepggdljhiemaaDoor
open Go.RowKit Gw

theorem Rgr.lt {w : World} {r p f c : Nat} (h : Rgr w r p f c) : r < w.heap.size := Blk.lt h
theorem Pr.lt0 {w : World} {p q : Nat} {v : Pv} {L : List Nat} (h : Pr w p q v L) : ∀ k ∈ p :: L, k < w.heap.size := fun k hk => (List.mem_cons.1 hk).elim (fun e => e ▸ h.b.lt) (h.d.lt k)
theorem Pr.keep0 {w w' : World} {p q : Nat} {v : Pv} {L G : List Nat} (h : Pr w p q v L) (hm : Mod G w w') (hG : ∀ k ∈ p :: L, k ∉ G) : Pr w' p q v L := h.mod hm (hG p List.mem_cons_self) (fun b hb => hG b (List.mem_cons_of_mem _ hb))
/-- where a round over the sectors stands -/
def posH (z a e s : Nat) : Nat := max a (min (s * z) e)
theorem posH_0 (z a e : Nat) : posH z a e 0 = a := by
  unfold posH
  rw [Nat.zero_mul]
  omega
theorem posH_end {z a e c : Nat} (h1 : a ≤ e) (h2 : e ≤ c * z) : posH z a e c = e := by
  unfold posH
  omega
theorem posH_skip {z a e s : Nat} (h1 : a ≤ e) (h : min (e - s * z) z ≤ a - s * z) : posH z a e (s + 1) = posH z a e s := by
  unfold posH
  rw [Nat.add_mul, Nat.one_mul]
  omega
theorem posH_go {z a e s : Nat} (h1 : a ≤ e) (h : a - s * z < min (e - s * z) z) :
    posH z a e s = s * z + (a - s * z) ∧ posH z a e s < e ∧ posH z a e s / z = s ∧ posH z a e s % z = a - s * z ∧ toC z (posH z a e s) e = min (e - s * z) z ∧ nxt z (posH z a e s) e = posH z a e (s + 1) := by
  have hz : 0 < z := by omega
  have hM : a - s * z < z := by omega
  have hp : posH z a e s = s * z + (a - s * z) := by unfold posH; omega
  have hd : posH z a e s / z = s := by
    rw [hp, Nat.mul_comm, Nat.mul_add_div hz, Nat.div_eq_of_lt (by rw [Nat.mul_comm]; exact hM)]
    rfl
  have hm : posH z a e s % z = a - s * z := by
    rw [hp, Nat.mul_comm s z, Nat.mul_add_mod, Nat.mod_eq_of_lt (by rw [Nat.mul_comm]; exact hM)]
  have ht : toC z (posH z a e s) e = min (e - s * z) z := by
    unfold toC
    rw [hm, hp]
    omega
  refine ⟨hp, by rw [hp]; omega, hd, hm, ht, ?_⟩
  unfold nxt
  rw [ht, hm, hp]
  unfold posH
  rw [Nat.add_mul, Nat.one_mul]
  omega
/-- what Read answers -/
def HRdP (w : World) (p q : Nat) (L : List Nat) (R : Pv × Int × List UInt8) (e : Ending) (w' : World) : Prop := ∃ rv, e = .returned (.tuple #[rv, .int .i64 R.2.1]) ∧ Ob w' rv R.2.2 ∧ New w rv ∧ Pr w' p q R.1 L ∧ Mod [p] w w'
end Go.Proofs.YtfepggdljhiemaaDoor

/-! The document's region: Write. -/
namespace Go.Proofs.YtfepggdljhiemaaDoor
open Go.RowKit Gw

theorem wrC_part {v : Pv} {S M T z : Nat} {x : List UInt8} (h : T - M < z) (hg : v.go = true) : wrC v S M T z x = (v.md.wr S ((v.m.read S).take M ++ x ++ (v.m.read S).drop T), v.md.e 0) := by
  unfold wrC
  rw [if_pos h, if_pos hg, wr_e]
theorem wrC_down {v : Pv} {S M T z : Nat} {x : List UInt8} (h : T - M < z) (hg : v.go = false) : wrC v S M T z x = (v.md, 60) := by
  unfold wrC
  rw [if_pos h, if_neg (by rw [hg]; decide)]
theorem wrC_whole {v : Pv} {S M T z : Nat} {x : List UInt8} (h : ¬ T - M < z) : wrC v S M T z x = (v.wr S x, v.e 0) := by
  unfold wrC
  rw [if_neg h, wr_e]
theorem ovl_all (P B : List UInt8) (A : Nat) : ovl P B A B.length = P.take A ++ B ++ P.drop (A + B.length) := by
  unfold ovl
  rw [List.take_length]
/-- what Write answers -/
def HWrP (w : World) (p q : Nat) (L : List Nat) (R : Pv × Int) (e : Ending) (w' : World) : Prop := e = .returned (.int .i64 R.2) ∧ PrP w p q R.1 L w'
end Go.Proofs.YtfepggdljhiemaaDoor
