import Derived.Test.YtfepggdljhiemaaGreatDoorGDs
import Derived.Test.YtfepggdljhiemaaGreatDoorGFl
import Derived.Test.YtfepggdljhiemaaGreatDoorRegT
/-! DiskTears. -/
set_option linter.unusedVariables false
set_option linter.unusedSimpArgs false
set_option maxRecDepth 100000
namespace Go.Proofs.YtfepggdljhiemaaGreatDoor
open Go.RowKit Gw

section
variable {w0 w w' : World} {v : Value} {l : List UInt8} {L L' : List Nat}
/-- bytes that lie apart from a disk keep through what turns it, and lie apart from it still -/
theorem Ob.far (h : Ob w v l) (hd : ∀ b ∈ blks v, b ∉ L) (hm : Mod L w w') (hL : ∀ k ∈ L', k ∈ L ∨ w.heap.size ≤ k) : Ob w' v l ∧ ∀ b ∈ blks v, b ∉ L' :=
  ⟨Ow.mod h hm hd, fun b hb hh => (hL b hh).elim (hd b hb) fun h2 => by have := Ow.lt h b hb; omega⟩
theorem own_step (h0 : Mod [] w0 w) (hO : ∀ k ∈ L, w0.heap.size ≤ k) (hm : Mod L w w') (hL : ∀ k ∈ L', k ∈ L ∨ w.heap.size ≤ k) : Mod [] w0 w' ∧ ∀ k ∈ L', w0.heap.size ≤ k :=
  ⟨h0.fresh hm hO, fun k hk => (hL k hk).elim (hO k) fun h => Nat.le_trans h0.size h⟩
end
theorem cell_eq {w w' : World} {b i : Nat} (hm : Mod [] w w') (hb : b < w.heap.size) : w'.cell? ⟨b, i, none⟩ = w.cell? ⟨b, i, none⟩ := by
  unfold World.cell?
  rw [hm.block b hb (by simp)]
theorem Blk.far {w w' : World} {L L' : List Nat} {g : Nat} {t : TypeId} {cs : List Value} (h : Blk w g t cs) (hd : g ∉ L) (hm : Mod L w w') (hL : ∀ k ∈ L', k ∈ L ∨ w.heap.size ≤ k) : Blk w' g t cs ∧ g ∉ L' :=
  ⟨h.mod hm hd, fun hh => (hL g hh).elim hd fun h2 => by have := h.lt; omega⟩
def tearN (k a : Int) : Nat := clampN (if k = 1 then 64 else if k = 2 then a else 0) 64
theorem tearN_le (k a : Int) : tearN k a ≤ 64 := clampN_le _ _
theorem tears_read (a b : List UInt8) (ha : a.length = 64) (hb : b.length = 64) (k t : Int) : (((((⟨64, List.replicate 1 (zeros 64), []⟩ : Dm).write 0 a).sync).write 0 b).crash [(k, t)]).read 0 = tear (tearN k t) b a := by
  have e1 : tear 64 a (zeros 64) = a := by unfold tear; rw [List.take_of_length_le (by omega), List.drop_eq_nil_of_le (by simp [zeros])]; simp
  simp [Dm.crash, Dm.sync, Dm.settle, settleD, Dm.write, stepD, Dm.read, fateK, List.zipIdx, List.replicate, e1, tearN]

def mixB (n : Nat) (a b : List UInt8) : List UInt8 := a.take n ++ b.drop n
theorem mixB_len {n : Nat} {a b : List UInt8} (ha : a.length = 64) (hb : b.length = 64) : (mixB n a b).length = 64 := tear_len ha hb
theorem mixB_at {n i : Nat} {a b : List UInt8} (ha : a.length = 64) (hb : b.length = 64) (hi : i < 64) : (mixB n a b)[i]? = if i < n then a[i]? else b[i]? := by
  unfold mixB
  split
  · rename_i h
    rw [List.getElem?_append_left (by rw [List.length_take]; omega), List.getElem?_take_of_lt h]
  · rename_i h
    by_cases hn : n ≤ 64
    · rw [List.getElem?_append_right (by rw [List.length_take]; omega), List.getElem?_drop, List.length_take]
      congr 1
      omega
    · omega
theorem mixB_succ {n : Nat} {a b : List UInt8} (ha : a.length = 64) (hb : b.length = 64) (hn : n < 64) : (mixB n a b).set n (a[n]'(by omega)) = mixB (n + 1) a b := by
  apply List.ext_getElem?
  intro i
  by_cases hi : i < 64
  · rw [mixB_at ha hb hi, List.getElem?_set]
    by_cases hin : n = i
    · subst hin
      rw [if_pos rfl, if_pos (by rw [mixB_len ha hb]; omega), if_pos (by omega), List.getElem?_eq_getElem]
    · rw [if_neg hin, mixB_at ha hb hi]
      by_cases h1 : i < n
      · rw [if_pos h1, if_pos (by omega)]
      · rw [if_neg h1, if_neg (by omega)]
  · rw [List.getElem?_eq_none (by rw [List.length_set, mixB_len ha hb]; omega), List.getElem?_eq_none (by rw [mixB_len ha hb]; omega)]
theorem cell_u8 {w : World} {g : Nat} {l : List UInt8} {rest : List Value} (h : Blk w g 5 (bv l ++ rest)) {i : Nat} (hi : i < l.length) : w.cell? ⟨g, i, none⟩ = some (.int .u8 (l[i].toNat : Nat)) := by
  refine h.cell' ?_
  rw [List.getElem?_append_left (by rw [bv_length]; omega)]
  simp [bv, hi]
theorem zero_fate' : (Tryz.prog.info? 186).map (·.zero) = some (some (.agg #[.int .i64 0, .int .i64 0])) := by kernel_rfl

end Go.Proofs.YtfepggdljhiemaaGreatDoor
