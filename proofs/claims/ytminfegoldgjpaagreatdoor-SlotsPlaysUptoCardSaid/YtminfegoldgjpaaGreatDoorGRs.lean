import Derived.Test.YtminfegoldgjpaaGreatDoorGRi
import Derived.Test.YtminfegoldgjpaaGreatDoorGRo
/-! Regions: the plain law of a Write in whose midst the power goes. -/
set_option linter.unusedVariables false
set_option linter.unusedSimpArgs false
set_option maxRecDepth 100000
namespace Go.Proofs.YtminfegoldgjpaaGreatDoor
open Go.RowKit Gw

/-- d chunks of a Write are done -/
structure WrD (f z : Nat) (m : Dm) (a e : Nat) (b : List UInt8) (m' : Dm) (d : Nat) : Prop where
  ok : m'.ok
  sz : m'.sz = z
  dur : m'.dur = m.dur
  row : m'.row.length = m.row.length + d
  ab : ∀ i, ab m' z i = if f * z + a ≤ i ∧ i < f * z + e ∧ i < (f + a / z + d) * z then b.getD (i - (f * z + a)) 0 else ab m z i
end Go.Proofs.YtminfegoldgjpaaGreatDoor

/-! RegionCut: the plain law of a Sync, and of a crash that keeps every write. -/
namespace Go.Proofs.YtminfegoldgjpaaGreatDoor
open Go.RowKit Gw

theorem sync_row (m : Dm) : m.sync.row = [] := rfl
theorem sync_len (m : Dm) : m.sync.dur.length = m.dur.length := by
  unfold Dm.sync Dm.settle
  dsimp only
  rw [settleD_len]
theorem sync_okR {m : Dm} (h : m.ok) : m.sync.ok := h.settle _
theorem sync_read {m : Dm} (hok : m.ok) {i : Nat} (hi : i < m.dur.length) : m.sync.read i = m.read i := by
  have h := sync_at hok hi
  have e : m.sync.read i = m.sync.dur.getD i [] := by
    unfold Dm.read
    rw [sync_row]
    rfl
  rw [e, List.getD_eq_getElem?_getD, h, Option.getD_some]
theorem sync_ab {m : Dm} (hok : m.ok) {z i : Nat} (hz : 0 < z) (hi : i < m.dur.length * z) : ab m.sync z i = ab m z i := by
  unfold ab
  rw [sync_read hok ((Nat.div_lt_iff_lt_mul hz).2 hi)]
theorem keep_len (m : Dm) (F : List (Int × Int)) : (m.crash F).dur.length = m.dur.length := by
  unfold Dm.crash Dm.settle
  dsimp only
  rw [settleD_len]
end Go.Proofs.YtminfegoldgjpaaGreatDoor

/-! RegionCut: what a Write that may be cut answers. -/
namespace Go.Proofs.YtminfegoldgjpaaGreatDoor
open Go.RowKit Gw

end Go.Proofs.YtminfegoldgjpaaGreatDoor

/-! RegionCut: the plain law of the bytes that are laid one by one. -/
namespace Go.Proofs.YtminfegoldgjpaaGreatDoor
open Go.RowKit Gw

theorem bvx_get? (l : List UInt8) (k : Nat) (x : UInt8) (h : l[k]? = some x) : (bv l)[k]? = some (.int .u8 x.toNat) := by
  unfold bv
  rw [List.getElem?_map, h]
  rfl
theorem bvx_get (l : List UInt8) (k : Nat) (x : UInt8) (h : l[k]? = some x) {hk : k < (bv l).length} : (bv l)[k] = .int .u8 x.toNat := by
  have := bvx_get? l k x h
  rw [List.getElem?_eq_getElem hk] at this
  exact Option.some.inj this
/-- P with the first k bytes of B laid at A -/
def ovl (P B : List UInt8) (A k : Nat) : List UInt8 := P.take A ++ B.take k ++ P.drop (A + k)
theorem ovl_0 (P B : List UInt8) (A : Nat) : ovl P B A 0 = P := by
  unfold ovl
  rw [List.take_zero, List.append_nil, Nat.add_zero, List.take_append_drop]
theorem ovl_len {P B : List UInt8} {A k : Nat} (hk : k ≤ B.length) (h : A + B.length ≤ P.length) : (ovl P B A k).length = P.length := by
  unfold ovl
  simp only [List.length_append, List.length_take, List.length_drop]
  omega
theorem ovl_get {P B : List UInt8} {A k : Nat} (hk : k ≤ B.length) (h : A + B.length ≤ P.length) (j : Nat) : (ovl P B A k)[j]? = if A ≤ j ∧ j < A + k then B[j - A]? else P[j]? := by
  have l1 : (P.take A).length = A := by rw [List.length_take]; omega
  have l2 : (B.take k).length = k := by rw [List.length_take]; omega
  unfold ovl
  by_cases c1 : j < A
  · rw [if_neg (by omega), List.getElem?_append_left (by rw [List.length_append]; omega), List.getElem?_append_left (by omega), List.getElem?_take_of_lt c1]
  · by_cases c2 : j < A + k
    · rw [if_pos (by omega), List.getElem?_append_left (by rw [List.length_append]; omega), List.getElem?_append_right (by omega), l1, List.getElem?_take_of_lt (by omega)]
    · rw [if_neg (by omega), List.getElem?_append_right (by rw [List.length_append]; omega), List.length_append, l1, l2, List.getElem?_drop]
      congr 1
      omega
theorem ovl_step {P B : List UInt8} {A k : Nat} (hk : k < B.length) (h : A + B.length ≤ P.length) : (ovl P B A k).set (A + k) B[k] = ovl P B A (k + 1) := by
  refine List.ext_getElem? fun j => ?_
  rw [ovl_get (by omega) h, List.getElem?_set, ovl_len (by omega) h, ovl_get (by omega) h]
  by_cases c : A + k = j
  · rw [if_pos c, if_pos (by omega), if_pos (by omega), List.getElem?_eq_getElem (by omega)]
    congr 2
    omega
  · rw [if_neg c]
    by_cases c2 : A ≤ j ∧ j < A + k
    · rw [if_pos c2, if_pos (by omega)]
    · rw [if_neg c2, if_neg (by omega)]
end Go.Proofs.YtminfegoldgjpaaGreatDoor
