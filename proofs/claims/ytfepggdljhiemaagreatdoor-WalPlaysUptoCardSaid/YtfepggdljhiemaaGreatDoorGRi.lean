import Derived.Test.YtfepggdljhiemaaGreatDoorGRg
import Derived.Test.YtfepggdljhiemaaGreatDoorGFl
import Derived.Test.YtfepggdljhiemaaGreatDoorGPw
import Derived.Test.YtfepggdljhiemaaGreatDoorGRw
/-! Regions: the plain law of Read and Write on a device that goes on. -/
set_option linter.unusedVariables false
set_option linter.unusedSimpArgs false
set_option maxRecDepth 100000
namespace Go.Proofs.YtfepggdljhiemaaGreatDoor
open Go.RowKit Gw

/-- a device that goes on -/
def Lv (m : Dm) (n : Nat) : Pv := ⟨m, false, -1, n⟩
theorem Lv_go (m : Dm) (n : Nat) : (Lv m n).go = true := rfl
/-- the byte at place i of the disk -/
def ab (m : Dm) (z i : Nat) : UInt8 := (m.read (i / z)).getD (i % z) 0
/-- k bytes from place i on -/
def abs (m : Dm) (z i k : Nat) : List UInt8 := (List.range k).map fun j => ab m z (i + j)
theorem abs_len (m : Dm) (z i k : Nat) : (abs m z i k).length = k := by simp [abs]
theorem abs_get (m : Dm) (z i k j : Nat) (h : j < (abs m z i k).length) : (abs m z i k)[j] = ab m z (i + j) := by simp [abs]
theorem abs_add (m : Dm) (z i k l : Nat) : abs m z i (k + l) = abs m z i k ++ abs m z (i + k) l := by
  refine List.ext_getElem (by simp [abs_len]) fun j h1 h2 => ?_
  rw [abs_len] at h1
  rw [abs_get, List.getElem_append]
  split
  · rename_i h
    rw [abs_get]
  · rename_i h
    rw [abs_len] at h
    rw [abs_get, abs_len]
    congr 1
    omega
theorem sec_div {S z j : Nat} (hj : j < z) : (S * z + j) / z = S ∧ (S * z + j) % z = j := by
  have hz : 0 < z := by omega
  rw [Nat.add_comm]
  exact ⟨by rw [Nat.add_mul_div_right _ _ hz, Nat.div_eq_of_lt hj]; omega, by rw [Nat.add_mul_mod_self_right, Nat.mod_eq_of_lt hj]⟩
theorem abs_chunk {m : Dm} {S M T z : Nat} (hl : (m.read S).length = z) (hM : M < T) (hT : T ≤ z) : ((m.read S).drop M).take (T - M) = abs m z (S * z + M) (T - M) := by
  refine List.ext_getElem (by rw [abs_len, List.length_take, List.length_drop, hl]; omega) fun j h1 h2 => ?_
  rw [abs_len] at h2
  rw [List.getElem_take, List.getElem_drop, abs_get]
  unfold ab
  obtain ⟨e1, e2⟩ := sec_div (S := S) (z := z) (j := M + j) (by omega)
  rw [Nat.add_assoc, e1, e2, List.getD_eq_getElem?_getD, List.getElem?_eq_getElem (by omega), Option.getD_some]
theorem place {f a z : Nat} : (f + a / z) * z + a % z = f * z + a := by
  have := Nat.div_add_mod a z
  rw [Nat.add_mul, Nat.mul_comm (a / z) z]
  omega
/-- how many chunks -/
def chK (z a e : Nat) : Nat := if a < e then (e - 1) / z - a / z + 1 else 0
theorem chK_end (z a : Nat) : chK z a a = 0 := if_neg (by omega)
theorem nxt_or {z a e : Nat} (h : a < e) (hz : 0 < z) : (nxt z a e = e ∧ (e - 1) / z = a / z) ∨ (nxt z a e < e ∧ nxt z a e = (a / z + 1) * z ∧ toC z a e = z) := by
  have h1 := Nat.mod_lt a hz
  have h2 := Nat.div_add_mod a z
  by_cases hc : a % z + (e - a) ≤ z
  · refine .inl ⟨by unfold nxt toC; omega, ?_⟩
    obtain ⟨e1, _⟩ := sec_div (S := a / z) (z := z) (j := e - 1 - a / z * z) (by rw [Nat.mul_comm]; omega)
    rw [← e1]
    congr 1
    rw [Nat.mul_comm]
    omega
  · refine .inr ⟨by unfold nxt toC; omega, ?_, by unfold toC; omega⟩
    rw [Nat.add_mul, Nat.mul_comm]
    unfold nxt toC
    omega
theorem chK_step {z a e : Nat} (h : a < e) (hz : 0 < z) : chK z a e = 1 + chK z (nxt z a e) e := by
  unfold chK
  rw [if_pos h]
  rcases nxt_or h hz with ⟨h1, h2⟩ | ⟨h1, h2, _⟩
  · rw [h1, if_neg (by omega)]
    omega
  · rw [if_pos h1]
    have e1 : (nxt z a e) / z = a / z + 1 := by rw [h2]; exact Nat.mul_div_cancel _ hz
    have e2 : a / z + 1 ≤ (e - 1) / z := by
      rw [Nat.le_div_iff_mul_le hz, ← h2]
      omega
    rw [e1]
    omega
theorem chK_le {a e : Nat} : chK 64 a e ≤ (e - a) / 64 + 2 := by
  unfold chK
  split <;> omega
theorem rdG_lv (f c z : Nat) (m : Dm) (hok : m.ok) (hsz : m.sz = z) (hfc : f + c ≤ m.dur.length) (e : Nat) (he : e ≤ c * z) : ∀ (k a n : Nat) (acc : List UInt8), k = e - a → a ≤ e →
    rdG f z (Lv m n) a e acc = (Lv m (n + chK z a e), 0, acc ++ abs m z (f * z + a) (e - a)) := by
  have hz : 0 < z := by have := hok.s1; omega
  intro k
  induction k using Nat.strongRecOn with
  | ind k ih =>
    intro a n acc hk hae
    by_cases h : a < e
    · have h1 := toC_gt h hz
      have h2 := toC_le z a e
      have h3 := nxt_gt h hz
      have h4 := nxt_le (z := z) hae
      have h5 : nxt z a e = a + (toC z a e - a % z) := rfl
      have hac : a / z < c := (Nat.div_lt_iff_lt_mul hz).2 (by omega)
      rw [rdG_go h hz (Lv_go m n)]
      show rdG f z (Lv m (n + 1)) (nxt z a e) e (acc ++ ((m.read (f + a / z)).drop (a % z)).take (toC z a e - a % z)) = _
      rw [abs_chunk (by rw [hok.read (by omega), hsz]) h1 h2, place, ih (e - nxt z a e) (by omega) (nxt z a e) (n + 1) _ rfl h4]
      rw [chK_step h hz, List.append_assoc]
      have e1 : e - a = (toC z a e - a % z) + (e - nxt z a e) := by omega
      have e2 : f * z + nxt z a e = f * z + a + (toC z a e - a % z) := by omega
      rw [e2, e1, ← abs_add]
      congr 2
      omega
    · obtain rfl : a = e := by omega
      rw [rdG_end, chK_end, Nat.sub_self]
      simp [abs]
theorem read_wr (m : Dm) (S : Nat) (x : List UInt8) (at_ : Nat) : (m.write S x).read at_ = if S = at_ then x else m.read at_ := by
  unfold Dm.read Dm.write
  dsimp only
  rw [List.reverse_append, List.reverse_singleton, List.singleton_append, List.find?_cons]
  by_cases h : S = at_
  · simp [h]
  · simp [h]
theorem ab_wr (m : Dm) (S z : Nat) (x : List UInt8) (i : Nat) : ab (m.write S x) z i = if S = i / z then x.getD (i % z) 0 else ab m z i := by
  unfold ab
  rw [read_wr]
  split <;> rfl
/-- what a chunk makes of its sector -/
def chN (old : List UInt8) (M T z : Nat) (x : List UInt8) : List UInt8 := if T - M < z then old.take M ++ x ++ old.drop T else x
theorem chN_len {old x : List UInt8} {M T z : Nat} (ho : old.length = z) (hM : M < T) (hT : T ≤ z) (hx : x.length = T - M) : (chN old M T z x).length = z := by
  unfold chN
  split
  · rw [List.length_append, List.length_append, List.length_take, List.length_drop]; omega
  · omega
theorem chN_get {old x : List UInt8} {M T z : Nat} (ho : old.length = z) (hM : M < T) (hT : T ≤ z) (hx : x.length = T - M) (j : Nat) (hj : j < z) : (chN old M T z x).getD j 0 = if M ≤ j ∧ j < T then x.getD (j - M) 0 else old.getD j 0 := by
  have hm : min M old.length = M := by omega
  rw [List.getD_eq_getElem?_getD]
  unfold chN
  by_cases hp : T - M < z
  · rw [if_pos hp]
    by_cases c1 : j < M
    · rw [if_neg (by omega), List.getElem?_append_left (by rw [List.length_append, List.length_take]; omega), List.getElem?_append_left (by rw [List.length_take]; omega), List.getElem?_take_of_lt c1, List.getD_eq_getElem?_getD]
    · by_cases c2 : j < T
      · rw [if_pos (by omega), List.getElem?_append_left (by rw [List.length_append, List.length_take]; omega), List.getElem?_append_right (by rw [List.length_take]; omega), List.getD_eq_getElem?_getD, List.length_take, hm]
      · rw [if_neg (by omega), List.getElem?_append_right (by rw [List.length_append, List.length_take]; omega), List.getElem?_drop, List.getD_eq_getElem?_getD, List.length_append, List.length_take, hm]
        congr 2
        omega
  · rw [if_neg hp, if_pos (by omega), List.getD_eq_getElem?_getD]
    congr 2
    omega
theorem wrC_lv (m : Dm) (n S M T z : Nat) (x : List UInt8) (hok : m.ok) (hsz : m.sz = z) (hS : S < m.dur.length) (hM : M < T) (hT : T ≤ z) (hx : x.length = T - M) :
    wrC (Lv m n) S M T z x = (Lv (m.write S (chN (m.read S) M T z x)) (n + if T - M < z then 2 else 1), 0) := by
  have hr := hok.read hS
  rw [hsz] at hr
  have hl := chN_len hr hM hT hx
  have hw : ∀ y : List UInt8, y.length = z → wrM m S y = m.write S y := fun y hy => by unfold wrM; rw [if_pos (writeE_ok hS (by omega))]; rfl
  unfold wrC
  by_cases hp : T - M < z
  · rw [if_pos hp, if_pos (Lv_go m n), if_pos hp]
    rw [if_pos (show (Lv m n).md.go = true from rfl)]
    have hl' := hl
    unfold chN at hl' ⊢
    rw [if_pos hp] at hl' ⊢
    show ((Lv m (n + 1)).md.at (wrM m S ((m.read S).take M ++ x ++ (m.read S).drop T)), (0 : Int)) = _
    rw [hw _ hl']
    rfl
  · rw [if_neg hp, if_pos (Lv_go m n), if_neg hp]
    unfold chN
    rw [if_neg hp]
    show ((Lv m n).md.at (wrM m S x), (0 : Int)) = _
    rw [hw x (by omega)]
    rfl
theorem ab_chunk (m : Dm) (S M T z : Nat) (x : List UInt8) (hok : m.ok) (hsz : m.sz = z) (hS : S < m.dur.length) (hM : M < T) (hT : T ≤ z) (hx : x.length = T - M) (i : Nat) :
    ab (m.write S (chN (m.read S) M T z x)) z i = if S * z + M ≤ i ∧ i < S * z + T then x.getD (i - (S * z + M)) 0 else ab m z i := by
  have hr := hok.read hS
  rw [hsz] at hr
  have hz : 0 < z := by omega
  have h1 := Nat.mod_lt i hz
  have h2 := Nat.div_add_mod i z
  rw [ab_wr]
  by_cases h : S = i / z
  · rw [if_pos h, chN_get hr hM hT hx _ h1]
    have e : S * z = z * (i / z) := by rw [h, Nat.mul_comm]
    by_cases c : M ≤ i % z ∧ i % z < T
    · rw [if_pos c, if_pos (by omega)]
      congr 1
      omega
    · rw [if_neg c, if_neg (by omega)]
      unfold ab
      rw [← h]
  · rw [if_neg h, if_neg]
    rintro ⟨g1, g2⟩
    obtain ⟨e1, _⟩ := sec_div (S := S) (z := z) (j := i - S * z) (by omega)
    apply h
    rw [← e1]
    congr 1
    omega
structure WrL (f z : Nat) (m : Dm) (n a e : Nat) (b : List UInt8) (m' : Dm) (n' : Nat) : Prop where
  ok : m'.ok
  sz : m'.sz = z
  dur : m'.dur = m.dur
  row : m'.row.length = m.row.length + chK z a e
  n1 : n ≤ n'
  n2 : n' ≤ n + chK z a e + 2
  n3 : a % z = 0 → n' ≤ n + chK z a e + 1
  n4 : a = e → n' = n
  ab : ∀ i, ab m' z i = if f * z + a ≤ i ∧ i < f * z + e then b.getD (i - (f * z + a)) 0 else ab m z i
theorem wrG_lv (f c z : Nat) (e : Nat) (he : e ≤ c * z) : ∀ (k a n : Nat) (m : Dm) (b : List UInt8), k = e - a → a ≤ e → m.ok → m.sz = z → f + c ≤ m.dur.length → b.length = e - a →
    ∃ m' n', wrG f z (Lv m n) a e b = (Lv m' n', 0) ∧ WrL f z m n a e b m' n' := by
  intro k
  induction k using Nat.strongRecOn with
  | ind k ih =>
    intro a n m b hk hae hok hsz hfc hb
    have hz : 0 < z := by have := hok.s1; omega
    by_cases h : a < e
    · have h1 := toC_gt h hz
      have h2 := toC_le z a e
      have h3 := nxt_gt h hz
      have h4 := nxt_le (z := z) hae
      have h5 : nxt z a e = a + (toC z a e - a % z) := rfl
      have hac : a / z < c := (Nat.div_lt_iff_lt_mul hz).2 (by omega)
      have hxl : (b.take (toC z a e - a % z)).length = toC z a e - a % z := by rw [List.length_take]; omega
      have hr := hok.read (at_ := f + a / z) (by omega)
      rw [hsz] at hr
      have hC := wrC_lv m n (f + a / z) (a % z) (toC z a e) z _ hok hsz (by omega) h1 h2 hxl
      have hA := fun i => ab_chunk m (f + a / z) (a % z) (toC z a e) z _ hok hsz (by omega) h1 h2 hxl i
      have hcl := chN_len hr h1 h2 hxl
      obtain ⟨m1, hm1⟩ : ∃ x, x = m.write (f + a / z) (chN (m.read (f + a / z)) (a % z) (toC z a e) z (b.take (toC z a e - a % z))) := ⟨_, rfl⟩
      have o1 : m1.ok := by rw [hm1]; exact hok.write (by omega) (by omega)
      have d1 : m1.dur = m.dur := by rw [hm1]; rfl
      have z1 : m1.sz = z := by rw [hm1]; exact hsz
      have r1 : m1.row.length = m.row.length + 1 := by rw [hm1]; simp [Dm.write]
      rw [← hm1] at hC hA
      obtain ⟨m', n', g1, g2⟩ := ih (e - nxt z a e) (by omega) (nxt z a e) (n + if toC z a e - a % z < z then 2 else 1) m1 (b.drop (toC z a e - a % z)) rfl h4 o1 z1 (by rw [d1]; exact hfc) (by rw [List.length_drop]; omega)
      refine ⟨m', n', ?_, g2.ok, g2.sz, by rw [g2.dur, d1], by rw [g2.row, r1, chK_step h hz]; omega, ?_, ?_, ?_, fun hh => by omega, fun i => ?_⟩
      · rw [wrG_ok h hz (by rw [hC]), hC]
        exact g1
      · have := g2.n1; omega
      · rw [chK_step h hz]
        rcases nxt_or h hz with ⟨q1, _⟩ | ⟨q1, q2, q3⟩
        · have := g2.n4 q1
          split at this <;> omega
        · have := g2.n3 (by rw [q2]; exact Nat.mul_mod_left _ _)
          split at this <;> omega
      · intro ha
        rw [chK_step h hz]
        rcases nxt_or h hz with ⟨q1, _⟩ | ⟨q1, q2, q3⟩
        · have := g2.n4 q1
          split at this <;> omega
        · have := g2.n3 (by rw [q2]; exact Nat.mul_mod_left _ _)
          rw [if_neg (by omega)] at this
          omega
      · rw [g2.ab, hA, place]
        have e3 : (f + a / z) * z + toC z a e = f * z + nxt z a e := by have := place (f := f) (a := a) (z := z); omega
        rw [e3]
        by_cases c1 : f * z + nxt z a e ≤ i ∧ i < f * z + e
        · rw [if_pos c1, if_pos (by omega)]
          simp only [List.getD_eq_getElem?_getD, List.getElem?_drop]
          congr 2
          omega
        · rw [if_neg c1]
          by_cases c2 : f * z + a ≤ i ∧ i < f * z + nxt z a e
          · rw [if_pos c2, if_pos (by omega)]
            simp only [List.getD_eq_getElem?_getD]
            rw [List.getElem?_take_of_lt (by omega)]
          · rw [if_neg c2, if_neg (by omega)]
    · obtain rfl : a = e := by omega
      refine ⟨m, n, wrG_end, hok, hsz, rfl, by rw [chK_end]; rfl, Nat.le_refl _, by omega, fun _ => by omega, fun _ => rfl, fun i => ?_⟩
      rw [if_neg (by omega)]
end Go.Proofs.YtfepggdljhiemaaGreatDoor

/-! Regions: the law's devices; awake. -/
namespace Go.Proofs.YtfepggdljhiemaaGreatDoor
open Go.RowKit Gw

theorem may_s (s : Nat) (h1 : 1 ≤ s) (h2 : s ≤ 9) (z : Nat) (hz : z = 64 ∨ z = 128) : mayD s z = true := by
  have hs : s = 1 ∨ s = 2 ∨ s = 3 ∨ s = 4 ∨ s = 5 ∨ s = 6 ∨ s = 7 ∨ s = 8 ∨ s = 9 := by omega
  rcases hs with rfl | rfl | rfl | rfl | rfl | rfl | rfl | rfl | rfl <;> rcases hz with rfl | rfl <;> decide
/-- a disk just made -/
def dev0 (n z : Nat) : Dm := ⟨z, List.replicate n (zeros z), []⟩
theorem dev0_ok (n z : Nat) (h1 : 1 ≤ n) (h2 : n ≤ 9) (hz : z = 64 ∨ z = 128) : (dev0 n z).ok := by
  refine ⟨?_, ?_, ?_, ?_, ?_, ?_⟩ <;> simp [dev0, zeros] <;> omega
end Go.Proofs.YtfepggdljhiemaaGreatDoor

/-! Regions: awake. -/
namespace Go.Proofs.YtfepggdljhiemaaGreatDoor
open Go.RowKit Gw

theorem gnew_ok (p q : Nat) (v : Pv) (L : List Nat) (f c : Int) (F C z : Nat) (w : World) (hP : Pd w p q v L) (hF : f = F) (hC : c = C) (hz : v.m.sz = z) (hcs : C ≤ 65536) (h : nErr v.m.dur.length f c = 0) :
    Calls Tryz.prog 29 #[.pointer (some ⟨p, 0, none⟩), .agg #[.int .i64 f, .int .i64 c]] w fun e w' => ∃ r, e = .returned (.tuple #[.pointer (some ⟨r, 0, none⟩), .int .i64 0]) ∧ Rgn w' r p F C z ∧ w.heap.size ≤ r ∧ Mod [] w w' := by
  subst hF hC hz
  have hN := hP.ok.m.n2
  have hF : F ≤ 65536 := by
    unfold nErr at h
    split at h
    · exact absurd h (by decide)
    · omega
  refine (gnew_any p q v L F C w hP ⟨by omega, by omega⟩ ⟨by omega, by omega⟩).mono fun e w' hh => ?_
  rcases hh with ⟨_, r, h1, h2, h3, h4⟩ | ⟨h1, _⟩
  · exact ⟨r, h1, h2, h3, h4⟩
  · exact absurd h h1
/-- a region that lies apart from the device's blocks -/
def Rs (W : World) (r p f c z : Nat) (L : List Nat) : Prop := Rgn W r p f c z ∧ r ∉ p :: L
theorem Rs.turn {W W' : World} {r p f c z : Nat} {L L' : List Nat} (h : Rs W r p f c z L) (hm : Mod (p :: L) W W') (hL : ∀ x ∈ L', x ∈ L ∨ W.heap.size ≤ x) : Rs W' r p f c z L' :=
  ⟨h.1.mod hm h.2, fun hh => (List.mem_cons.1 hh).elim (fun e => h.2 (by simp [e])) (fun hx => (hL r hx).elim (fun hx => h.2 (by simp [hx])) (fun hx => by have := Rgn.lt h.1; omega))⟩
theorem Rs.ext {W W' : World} {r p f c z : Nat} {L : List Nat} (h : Rs W r p f c z L) (hm : Mod [] W W') : Rs W' r p f c z L := ⟨h.1.ext hm, h.2⟩
theorem Rs.new {W : World} {r p q f c z : Nat} {v : Pv} {L : List Nat} {w : World} (h : Rgn W r p f c z) (hP : Pd w p q v L) (hr : w.heap.size ≤ r) : Rs W r p f c z L := ⟨h, fun hh => by have := hP.lt0 r hh; omega⟩
theorem Ob.new4 {w : World} {g : Nat} {l : List UInt8} {n : Nat} (h : Blk w g 5 (bv l)) (hn : n = l.length) (hl : n ≤ 1000000) : Ob w (.slice (some ⟨g, 0, none⟩) n n) l := by
  subst hn
  exact Ow.of_blk (rest := []) (by rw [List.append_nil]; exact h) (Nat.le_refl _) (by omega) (by rw [List.append_nil, bv_length]; simp) (by rw [bv_length]; simp)
end Go.Proofs.YtfepggdljhiemaaGreatDoor

/-! What the laws of regions take: a Put. -/
namespace Go.Proofs.YtfepggdljhiemaaGreatDoor
open Go.RowKit Gw

/-- a Put: where, and what -/
structure Pt where
  p : Int
  u : Value
  l : List UInt8
def Pt.cells (o : Pt) : List Value := [.int .i64 o.p, o.u]
def OkPt (w : World) (o : Pt) : Prop := Bs w o.u o.l ∧ i64 o.p ∧ o.l.length ≤ 1048576
theorem OkPt.ext {w w' : World} {o : Pt} (h : OkPt w o) (hm : Mod [] w w') : OkPt w' o := ⟨h.1.ext hm, h.2.1, h.2.2⟩
/-- where it goes, and what of it, in a region of n bytes -/
def Pt.at (o : Pt) (n : Nat) : Nat := (pick o.p ((n : Int) + 1)).toNat
def Pt.by (o : Pt) (n : Nat) : List UInt8 := o.l.take (n - o.at n)
end Go.Proofs.YtfepggdljhiemaaGreatDoor

/-! What the laws of regions take, opened: rows of Puts. -/
namespace Go.Proofs.YtfepggdljhiemaaGreatDoor
open Go.ChangeShapes Go.WideShapes Go.ChangeAt Go.RowKit Gw Go.Deep

/-- a row of Puts -/
def Pts (w : World) (v : Value) (os : List Pt) : Prop := Sl w 2 v os.length (os.flatMap Pt.cells) ∧ ∀ o ∈ os, OkPt w o
theorem ptflat2 : ∀ (os : List Pt) (i j : Nat) (hi : i < os.length) (hj : j < 2), (os.flatMap Pt.cells)[i * 2 + j]? = (os[i].cells)[j]?
  | o :: os, 0, j, _, hj => by
    rw [List.flatMap_cons, Nat.zero_mul, Nat.zero_add, List.getElem?_append_left (show j < o.cells.length from hj)]
    rfl
  | o :: os, i + 1, j, hi, hj => by
    have := ptflat2 os i j (by simpa using hi) hj
    rw [List.flatMap_cons, List.getElem?_append_right (by show 2 ≤ _; omega)]
    simp only [List.getElem_cons_succ]
    rw [← this]
    congr 1
    show (i + 1) * 2 + j - 2 = _
    omega
theorem Pts.elem {w : World} {ao : Option Addr} {n cap : Nat} {os : List Pt} (h : Sl w 2 (.slice ao n cap) os.length (os.flatMap Pt.cells)) {i : Nat} (hi : i < os.length) :
    ∃ b o, ao = some ⟨b, o, none⟩ ∧ w.rangeAt b (o + i * 2) os[i].cells := by
  obtain ⟨b, o, c, hv, _, _, hc⟩ := h.at (fun h0 => by
    have := ptflat2 os i 0 hi (by omega)
    rw [h0] at this
    simp [Pt.cells] at this)
  injection hv with e1
  refine ⟨b, o, e1, fun j u hu => ?_⟩
  have hj : j < 2 := by have := (List.getElem?_eq_some_iff.1 hu).1; simpa [Pt.cells] using this
  have := hc (i * 2 + j) u (by rw [ptflat2 os i j hi hj]; exact hu)
  rwa [← Nat.add_assoc] at this
end Go.Proofs.YtfepggdljhiemaaGreatDoor

/-! RegionSpares. -/
namespace Go.Proofs.YtfepggdljhiemaaGreatDoor
open Go.RowKit Gw

theorem ab_dev0 (n z i : Nat) : ab (dev0 n z) z i = 0 := by
  unfold ab dev0 Dm.read
  simp only [List.reverse_nil, List.find?_nil]
  rw [List.getD_eq_getElem?_getD, List.getD_eq_getElem?_getD, List.getElem?_replicate]
  split
  · unfold zeros
    rw [Option.getD_some, List.getElem?_replicate]
    split <;> rfl
  · rfl
theorem rdA_lv (f c z : Nat) (m : Dm) (n a k g : Nat) (hok : m.ok) (hsz : m.sz = z) (hfc : f + c ≤ m.dur.length) (h : a + k ≤ c * z) (hg : f * z + a = g) :
    rdA f c z (Lv m n) a k = (Lv m (n + chK z a (a + k)), 0, abs m z g k) := by
  unfold rdA hold
  rw [if_pos (by rw [decide_eq_true_eq]; omega), Int.toNat_natCast, Int.toNat_natCast, rdG_lv f c z m hok hsz hfc (a + k) h _ a n [] rfl (by omega), hg, Nat.add_sub_cancel_left]
  rfl
theorem wrA_lv (f c z : Nat) (m : Dm) (n a : Nat) (b : List UInt8) (hok : m.ok) (hsz : m.sz = z) (hfc : f + c ≤ m.dur.length) (h : a + b.length ≤ c * z) :
    ∃ m' n', wrA f c z (Lv m n) a b = (Lv m' n', 0) ∧ WrL f z m n a (a + b.length) b m' n' := by
  unfold wrA hold
  rw [if_pos (by rw [decide_eq_true_eq]; omega), Int.toNat_natCast]
  exact wrG_lv f c z (a + b.length) h _ a n m b rfl (by omega) hok hsz hfc (by omega)
/-- two regions that are one, and one behind them -/
structure Sp (W w : World) (p q r s o : Nat) (m : Dm) (n : Nat) (L : List Nat) : Prop where
  d : Ps W w p q (Lv m n) L
  r : Rs w r p 1 3 64 L
  s : Rs w s p 1 3 64 L
  o : Rs w o p 4 2 64 L
section
variable {W w w' : World} {p q r s o : Nat} {m m' : Dm} {n n' : Nat} {L L' G : List Nat}
theorem Sp.ext (h : Sp W w p q r s o m n L) (hm : Mod [] w w') : Sp W w' p q r s o m n L := ⟨h.d.ext hm, h.r.ext hm, h.s.ext hm, h.o.ext hm⟩
theorem Sp.turn (h : Sp W w p q r s o m n L) (hd : Pd w' p q (Lv m' n') L') (hm : Mod (p :: L) w w') (hL : ∀ k ∈ L', k ∈ L ∨ w.heap.size ≤ k) : Sp W w' p q r s o m' n' L' :=
  ⟨h.d.turn hd hm hL, h.r.turn hm hL, h.s.turn hm hL, h.o.turn hm hL⟩
theorem Sp.keep (h : Sp W w p q r s o m n L) (hm : Mod G w w') (hG : ∀ g ∈ G, W.heap.size ≤ g ∧ g ∉ p :: L ∧ g ≠ r ∧ g ≠ s ∧ g ≠ o) : Sp W w' p q r s o m n L :=
  ⟨⟨h.d.d.keep0 hm (fun k hk hh => (hG k hh).2.1 hk), h.d.m.fresh hm (fun g hg => (hG g hg).1), h.d.p1, h.d.l1⟩,
    ⟨h.r.1.mod hm (fun hh => (hG r hh).2.2.1 rfl), h.r.2⟩, ⟨h.s.1.mod hm (fun hh => (hG s hh).2.2.2.1 rfl), h.s.2⟩, ⟨h.o.1.mod hm (fun hh => (hG o hh).2.2.2.2 rfl), h.o.2⟩⟩
end
structure Sm (m : Dm) (n j : Nat) : Prop where
  ok : m.ok
  sz : m.sz = 64
  len : m.dur.length = 6
  n : n ≤ 8 * j
  row : m.row.length ≤ 8 * j
  z : ∀ i, 256 ≤ i → ab m 64 i = 0
theorem Sm.zero : Sm (dev0 6 64) 0 0 := ⟨dev0_ok 6 64 (by omega) (by omega) (.inl rfl), rfl, rfl, by omega, by simp [dev0], fun i _ => ab_dev0 6 64 i⟩
theorem Sm.put {m m' : Dm} {n n' j a : Nat} {b : List UInt8} (h : Sm m n j) (hw : WrL 1 64 m n a (a + b.length) b m' n') (hab : a + b.length ≤ 192) : Sm m' n' (j + 1) := by
  have h1 := chK_le (a := a) (e := a + b.length)
  have h2 := hw.n2
  have h3 := hw.row
  have h4 := h.n
  have h5 := h.row
  refine ⟨hw.ok, hw.sz, by rw [hw.dur]; exact h.len, by omega, by omega, fun i hi => ?_⟩
  rw [hw.ab, if_neg (by omega)]
  exact h.z i hi
theorem abs_zero {m : Dm} {g k : Nat} (h : ∀ i, g ≤ i → ab m 64 i = 0) : abs m 64 g k = zeros k := by
  refine List.ext_getElem (by simp [abs_len, zeros]) fun j h1 h2 => ?_
  rw [abs_get, h _ (by omega)]
  simp [zeros]
end Go.Proofs.YtfepggdljhiemaaGreatDoor
