import Derived.Test.YtfepggdljhiemaaGreatDoorGRi
import Derived.Test.YtfepggdljhiemaaGreatDoorGRo
/-! Regions: the plain law of a Write in whose midst the power goes. -/
set_option linter.unusedVariables false
set_option linter.unusedSimpArgs false
set_option maxRecDepth 100000
namespace Go.Proofs.YtfepggdljhiemaaGreatDoor
open Go.RowKit Gw

/-- a device whose power goes after ar operations more -/
def Av (m : Dm) (ar n : Nat) : Pv := ⟨m, false, (ar : Nat), n⟩
/-- one that is down -/
def Ov (m : Dm) (n : Nat) : Pv := ⟨m, true, -1, n⟩
theorem Av_go0 (m : Dm) (n : Nat) : (Av m 0 n).go = false := rfl
theorem Av_md0 (m : Dm) (n : Nat) : (Av m 0 n).md = Ov m n := rfl
theorem Av_go (m : Dm) (ar n : Nat) : (Av m (ar + 1) n).go = true := by
  unfold Av Pv.go
  have : (((ar + 1 : Nat) : Int) == 0) = false := by rw [beq_eq_false_iff_ne]; omega
  simp only [this]
  rfl
theorem Av_md (m : Dm) (ar n : Nat) : (Av m (ar + 1) n).md = Av m ar (n + 1) := by
  unfold Av Pv.md
  rw [if_neg (by simp), if_neg (by show ¬ ((ar + 1 : Nat) : Int) = 0; omega)]
  dsimp only
  rw [if_pos (by omega)]
  congr 1
  omega
theorem wrC_ar (m : Dm) (ar n S M T z : Nat) (x : List UInt8) (hok : m.ok) (hsz : m.sz = z) (hS : S < m.dur.length) (hM : M < T) (hT : T ≤ z) (hx : x.length = T - M) :
    (∃ n', wrC (Av m ar n) S M T z x = (Ov m n', 60) ∧ n' ≤ n + 1) ∨ (∃ ar' n', wrC (Av m ar n) S M T z x = (Av (m.write S (chN (m.read S) M T z x)) ar' n', 0) ∧ n' ≤ n + 2) := by
  have hr := hok.read hS
  rw [hsz] at hr
  have hl := chN_len hr hM hT hx
  have hw : ∀ y : List UInt8, y.length = z → wrM m S y = m.write S y := fun y hy => by unfold wrM; rw [if_pos (writeE_ok hS (by omega))]; rfl
  unfold wrC
  by_cases hp : T - M < z
  · rw [if_pos hp]
    cases ar with
    | zero => exact .inl ⟨n, by rw [if_neg (by rw [Av_go0]; decide), Av_md0], by omega⟩
    | succ ar =>
      rw [if_pos (Av_go m ar n), Av_md]
      cases ar with
      | zero => exact .inl ⟨n + 1, by rw [if_neg (by rw [Av_go0]; decide), Av_md0], by omega⟩
      | succ ar =>
        refine .inr ⟨ar, n + 2, ?_, by omega⟩
        rw [if_pos (Av_go m ar (n + 1))]
        have hl' := hl
        unfold chN at hl' ⊢
        rw [if_pos hp] at hl' ⊢
        unfold Pv.wr
        rw [if_pos (Av_go m ar (n + 1)), Av_md]
        show (Pv.at (Av m ar (n + 1 + 1)) (wrM m S ((m.read S).take M ++ x ++ (m.read S).drop T)), (0 : Int)) = _
        rw [hw _ hl']
        rfl
  · rw [if_neg hp]
    cases ar with
    | zero => exact .inl ⟨n, by rw [if_neg (by rw [Av_go0]; decide), Av_md0], by omega⟩
    | succ ar =>
      refine .inr ⟨ar, n + 1, ?_, by omega⟩
      rw [if_pos (Av_go m ar n)]
      unfold chN
      rw [if_neg hp]
      unfold Pv.wr
      rw [if_pos (Av_go m ar n), Av_md]
      show (Pv.at (Av m ar (n + 1)) (wrM m S x), (0 : Int)) = _
      rw [hw x (by omega)]
      rfl
/-- d chunks of a Write are done -/
structure WrD (f z : Nat) (m : Dm) (a e : Nat) (b : List UInt8) (m' : Dm) (d : Nat) : Prop where
  ok : m'.ok
  sz : m'.sz = z
  dur : m'.dur = m.dur
  row : m'.row.length = m.row.length + d
  ab : ∀ i, ab m' z i = if f * z + a ≤ i ∧ i < f * z + e ∧ i < (f + a / z + d) * z then b.getD (i - (f * z + a)) 0 else ab m z i
theorem wrG_ar (f c z : Nat) (e : Nat) (he : e ≤ c * z) : ∀ (k a ar n : Nat) (m : Dm) (b : List UInt8), k = e - a → a ≤ e → m.ok → m.sz = z → f + c ≤ m.dur.length → b.length = e - a →
    ∃ m' d, WrD f z m a e b m' d ∧ ((d = chK z a e ∧ ∃ ar' n', wrG f z (Av m ar n) a e b = (Av m' ar' n', 0) ∧ n' ≤ n + 2 * chK z a e) ∨ (d < chK z a e ∧ ∃ n', wrG f z (Av m ar n) a e b = (Ov m' n', 60) ∧ n' ≤ n + 2 * chK z a e)) := by
  intro k
  induction k using Nat.strongRecOn with
  | ind k ih =>
    intro a ar n m b hk hae hok hsz hfc hb
    have hz : 0 < z := by have := hok.s1; omega
    by_cases h : a < e
    · have h1 := toC_gt h hz
      have h2 := toC_le z a e
      have h3 := nxt_gt h hz
      have h4 := nxt_le (z := z) hae
      have h5 : nxt z a e = a + (toC z a e - a % z) := rfl
      have hac : a / z < c := (Nat.div_lt_iff_lt_mul hz).2 (by omega)
      have hxl : (b.take (toC z a e - a % z)).length = toC z a e - a % z := by rw [List.length_take]; omega
      have hr := hok.read (at_ := f + a / z) (by omega)
      rw [hsz] at hr
      have hcl := chN_len hr h1 h2 hxl
      have hA := fun i => ab_chunk m (f + a / z) (a % z) (toC z a e) z _ hok hsz (by omega) h1 h2 hxl i
      have hK := chK_step h hz
      rcases wrC_ar m ar n (f + a / z) (a % z) (toC z a e) z _ hok hsz (by omega) h1 h2 hxl with ⟨n', hC, hn⟩ | ⟨ar', n', hC, hn⟩
      · refine ⟨m, 0, ⟨hok, hsz, rfl, rfl, fun i => ?_⟩, .inr ⟨by omega, n', ?_, by omega⟩⟩
        · rw [if_neg]
          rintro ⟨g1, g2, g3⟩
          have h6 := place (f := f) (a := a) (z := z)
          rw [Nat.add_zero] at g3
          omega
        · rw [wrG_no h hz (by rw [hC]; exact (by decide : (60 : Int) ≠ 0)), hC]
      · obtain ⟨m1, hm1⟩ : ∃ x, x = m.write (f + a / z) (chN (m.read (f + a / z)) (a % z) (toC z a e) z (b.take (toC z a e - a % z))) := ⟨_, rfl⟩
        have o1 : m1.ok := by rw [hm1]; exact hok.write (by omega) (by omega)
        have d1 : m1.dur = m.dur := by rw [hm1]; rfl
        have z1 : m1.sz = z := by rw [hm1]; exact hsz
        have r1 : m1.row.length = m.row.length + 1 := by rw [hm1]; simp [Dm.write]
        rw [← hm1] at hC hA
        obtain ⟨m', d, g2, g3⟩ := ih (e - nxt z a e) (by omega) (nxt z a e) ar' n' m1 (b.drop (toC z a e - a % z)) rfl h4 o1 z1 (by rw [d1]; exact hfc) (by rw [List.length_drop]; omega)
        have hG : wrG f z (Av m ar n) a e b = wrG f z (Av m1 ar' n') (nxt z a e) e (b.drop (toC z a e - a % z)) := by rw [wrG_ok h hz (by rw [hC]), hC]
        have hdK : d ≤ chK z (nxt z a e) e := g3.elim (fun h => Nat.le_of_eq h.1) (fun h => Nat.le_of_lt h.1)
        have G3 := Lib.hid g3
        clear g3
        refine ⟨m', d + 1, ⟨g2.ok, g2.sz, by rw [g2.dur, d1], by rw [g2.row, r1]; omega, fun i => ?_⟩, ?_⟩
        · rw [g2.ab, hA, place]
          have e3 : (f + a / z) * z + toC z a e = f * z + nxt z a e := by have := place (f := f) (a := a) (z := z); omega
          rw [e3]
          have e4 : (f + a / z + (d + 1)) * z = (f + a / z) * z + z + d * z := by rw [Nat.add_mul (f + a / z) (d + 1) z, Nat.add_mul d 1 z, Nat.one_mul]; omega
          have h6 := place (f := f) (a := a) (z := z)
          have hml := Nat.mod_lt a hz
          rw [e4]
          have hN : (nxt z a e = e ∧ d = 0) ∨ (f + nxt z a e / z + d) * z = (f + a / z) * z + z + d * z := by
            rcases nxt_or h hz with ⟨q1, _⟩ | ⟨q1, q2, q3⟩
            · refine .inl ⟨q1, ?_⟩
              rw [q1, chK_end] at hdK
              omega
            · refine .inr ?_
              have e1 : (nxt z a e) / z = a / z + 1 := by rw [q2]; exact Nat.mul_div_cancel _ hz
              rw [e1, ← Nat.add_assoc f (a / z) 1, Nat.add_mul (f + a / z + 1) d z, Nat.add_mul (f + a / z) 1 z, Nat.one_mul]
          by_cases c1 : f * z + nxt z a e ≤ i ∧ i < f * z + e ∧ i < (f + nxt z a e / z + d) * z
          · rw [if_pos c1, if_pos (by rcases hN with ⟨q1, q2⟩ | q1 <;> omega)]
            simp only [List.getD_eq_getElem?_getD, List.getElem?_drop]
            congr 2
            omega
          · rw [if_neg c1]
            by_cases c2 : f * z + a ≤ i ∧ i < f * z + nxt z a e
            · rw [if_pos c2, if_pos (by omega)]
              simp only [List.getD_eq_getElem?_getD]
              rw [List.getElem?_take_of_lt (by omega)]
            · rw [if_neg c2, if_neg (by rcases hN with ⟨q1, q2⟩ | q1 <;> omega)]
        · rw [hG, hK]
          have g3 := G3.out
          clear G3
          rcases g3 with ⟨q1, ar2, n2, q2, q3⟩ | ⟨q1, n2, q2, q3⟩
          · exact .inl ⟨by omega, ar2, n2, q2, by omega⟩
          · exact .inr ⟨by omega, n2, q2, by omega⟩
    · obtain rfl : a = e := by omega
      refine ⟨m, 0, ⟨hok, hsz, rfl, rfl, fun i => by rw [if_neg (by omega)]⟩, .inl ⟨(chK_end z a).symm, ar, n, wrG_end, by omega⟩⟩
end Go.Proofs.YtfepggdljhiemaaGreatDoor

/-! RegionCut: the plain law of a Sync, and of a crash that keeps every write. -/
namespace Go.Proofs.YtfepggdljhiemaaGreatDoor
open Go.RowKit Gw

theorem sync_row (m : Dm) : m.sync.row = [] := rfl
theorem sync_len (m : Dm) : m.sync.dur.length = m.dur.length := by
  unfold Dm.sync Dm.settle
  dsimp only
  rw [settleD_len]
theorem sync_okR {m : Dm} (h : m.ok) : m.sync.ok := h.settle _
theorem sync_read {m : Dm} (hok : m.ok) {i : Nat} (hi : i < m.dur.length) : m.sync.read i = m.read i := by
  have h := sync_at hok hi
  have e : m.sync.read i = m.sync.dur.getD i [] := by
    unfold Dm.read
    rw [sync_row]
    rfl
  rw [e, List.getD_eq_getElem?_getD, h, Option.getD_some]
theorem sync_ab {m : Dm} (hok : m.ok) {z i : Nat} (hz : 0 < z) (hi : i < m.dur.length * z) : ab m.sync z i = ab m z i := by
  unfold ab
  rw [sync_read hok ((Nat.div_lt_iff_lt_mul hz).2 hi)]
theorem keep_len (m : Dm) (F : List (Int × Int)) : (m.crash F).dur.length = m.dur.length := by
  unfold Dm.crash Dm.settle
  dsimp only
  rw [settleD_len]
end Go.Proofs.YtfepggdljhiemaaGreatDoor

/-! RegionCut: what a Write that may be cut answers. -/
namespace Go.Proofs.YtfepggdljhiemaaGreatDoor
open Go.RowKit Gw

theorem wrA_ar (F C : Nat) (m : Dm) (ar n a : Nat) (b : List UInt8) (hok : m.ok) (hsz : m.sz = 64) (hfc : F + C ≤ m.dur.length) (h : a + b.length ≤ C * 64) :
    ∃ v3 E d, wrA F C 64 (Av m ar n) a b = (v3, E) ∧ WrD F 64 m a (a + b.length) b v3.m d ∧ v3.n ≤ n + 2 * chK 64 a (a + b.length) ∧ ((E = 0 ∧ v3.off = false ∧ d = chK 64 a (a + b.length)) ∨ (E = 60 ∧ v3.off = true ∧ d < chK 64 a (a + b.length))) := by
  obtain ⟨m3, d, hD, hR⟩ := wrG_ar F C 64 (a + b.length) h _ a ar n m b rfl (by omega) hok hsz hfc (by omega)
  have e : wrA F C 64 (Av m ar n) a b = wrG F 64 (Av m ar n) a (a + b.length) b := by
    unfold wrA hold
    rw [if_pos (by rw [decide_eq_true_eq]; omega), Int.toNat_natCast]
  rcases hR with ⟨h1, ar', n', h2, h3⟩ | ⟨h1, n', h2, h3⟩
  · exact ⟨Av m3 ar' n', 0, d, e.trans h2, hD, h3, .inl ⟨rfl, rfl, h1⟩⟩
  · exact ⟨Ov m3 n', 60, d, e.trans h2, hD, h3, .inr ⟨rfl, rfl, h1⟩⟩
end Go.Proofs.YtfepggdljhiemaaGreatDoor

/-! RegionCut: the plain law of the bytes that are laid one by one. -/
namespace Go.Proofs.YtfepggdljhiemaaGreatDoor
open Go.RowKit Gw

theorem bvx_get? (l : List UInt8) (k : Nat) (x : UInt8) (h : l[k]? = some x) : (bv l)[k]? = some (.int .u8 x.toNat) := by
  unfold bv
  rw [List.getElem?_map, h]
  rfl
theorem bvx_get (l : List UInt8) (k : Nat) (x : UInt8) (h : l[k]? = some x) {hk : k < (bv l).length} : (bv l)[k] = .int .u8 x.toNat := by
  have := bvx_get? l k x h
  rw [List.getElem?_eq_getElem hk] at this
  exact Option.some.inj this
/-- P with the first k bytes of B laid at A -/
def ovl (P B : List UInt8) (A k : Nat) : List UInt8 := P.take A ++ B.take k ++ P.drop (A + k)
theorem ovl_0 (P B : List UInt8) (A : Nat) : ovl P B A 0 = P := by
  unfold ovl
  rw [List.take_zero, List.append_nil, Nat.add_zero, List.take_append_drop]
theorem ovl_len {P B : List UInt8} {A k : Nat} (hk : k ≤ B.length) (h : A + B.length ≤ P.length) : (ovl P B A k).length = P.length := by
  unfold ovl
  simp only [List.length_append, List.length_take, List.length_drop]
  omega
theorem ovl_get {P B : List UInt8} {A k : Nat} (hk : k ≤ B.length) (h : A + B.length ≤ P.length) (j : Nat) : (ovl P B A k)[j]? = if A ≤ j ∧ j < A + k then B[j - A]? else P[j]? := by
  have l1 : (P.take A).length = A := by rw [List.length_take]; omega
  have l2 : (B.take k).length = k := by rw [List.length_take]; omega
  unfold ovl
  by_cases c1 : j < A
  · rw [if_neg (by omega), List.getElem?_append_left (by rw [List.length_append]; omega), List.getElem?_append_left (by omega), List.getElem?_take_of_lt c1]
  · by_cases c2 : j < A + k
    · rw [if_pos (by omega), List.getElem?_append_left (by rw [List.length_append]; omega), List.getElem?_append_right (by omega), l1, List.getElem?_take_of_lt (by omega)]
    · rw [if_neg (by omega), List.getElem?_append_right (by rw [List.length_append]; omega), List.length_append, l1, l2, List.getElem?_drop]
      congr 1
      omega
theorem ovl_step {P B : List UInt8} {A k : Nat} (hk : k < B.length) (h : A + B.length ≤ P.length) : (ovl P B A k).set (A + k) B[k] = ovl P B A (k + 1) := by
  refine List.ext_getElem? fun j => ?_
  rw [ovl_get (by omega) h, List.getElem?_set, ovl_len (by omega) h, ovl_get (by omega) h]
  by_cases c : A + k = j
  · rw [if_pos c, if_pos (by omega), if_pos (by omega), List.getElem?_eq_getElem (by omega)]
    congr 2
    omega
  · rw [if_neg c]
    by_cases c2 : A ≤ j ∧ j < A + k
    · rw [if_pos c2, if_pos (by omega)]
    · rw [if_neg c2, if_neg (by omega)]
/-- how many bytes of the write are laid -/
def laidN (a l d : Nat) : Nat := min l ((a / 64 + d) * 64 - a)
theorem laidN_all {a l d : Nat} (h : d = chK 64 a (a + l)) : laidN a l d = l := by
  unfold laidN
  unfold chK at h
  by_cases c : a < a + l
  · rw [if_pos c] at h
    omega
  · omega
end Go.Proofs.YtfepggdljhiemaaGreatDoor
