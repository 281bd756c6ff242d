import Derived.Test.YtfepggdljhiemaaGreatDoorGCr
import Derived.Test.YtfepggdljhiemaaGreatDoorGRs
import Derived.Test.YtfepggdljhiemaaGreatDoorGRo
import Derived.Test.YtfepggdljhiemaaGreatDoorGRh
import Derived.Test.YtfepggdljhiemaaGreatDoorGRi
/-! Slots: what header, Load and Save answer, and leave of the device. -/
set_option linter.unusedVariables false
set_option linter.unusedSimpArgs false
set_option maxRecDepth 100000
namespace Go.Proofs.YtfepggdljhiemaaGreatDoor
open Go.RowKit Gw

/-- a header that is read of a slot's first sector; a zero one, if it is none or its body has no room -/
def seeH (lim : Int) (b : List UInt8) : Hd := if errH b = 0 ∧ (getH b).l ≤ lim then getH b else hd0
/-- what Load tells: the device, the error, the header, the body, the place -/
structure Ld5 where
  v : Pv
  e : Int
  h : Hd
  b : List UInt8
  i : Int
/-- a write, and a Sync behind it -/
def putG (f c z : Nat) (v : Pv) (a : Int) (b : List UInt8) : Pv × Int :=
  if (wrA f c z v a b).2 = 0 then ((wrA f c z v a b).1.sy, (wrA f c z v a b).1.e 0) else wrA f c z v a b
/-- the sector of a header -/
def secH (z : Nat) (h : Hd) : List UInt8 := hdr h ++ zeros (z - 32)
/-- on a device that is alive: what stands in the slot's first sector -/
def hdM (m : Dm) (f c : Nat) : Hd := seeH ((c : Int) * 64 - 64) (abs m 64 (f * 64) 64)
theorem hold_in {B : Nat} {a n : Nat} (h : a + n ≤ B) : hold B (a : Int) (n : Int) = true := decide_eq_true ⟨by omega, by omega, by omega, by omega⟩
/-- the body of a slot -/
def bodM (m : Dm) (f c : Nat) : List UInt8 := abs m 64 (f * 64 + 64) (hdM m f c).l.toNat
/-- is it whole? -/
def goodM (m : Dm) (f c : Nat) : Bool := decide ((hdM m f c).g ≠ 0 ∧ crcS (bodM m f c) = (hdM m f c).s)
/-- what the slots tell, in their order -/
def tellM (m : Dm) (c : Nat) : List (Nat × Int) → Hd × List UInt8 × Int
  | [] => (hd0, [], -1)
  | (f, i) :: rest => if goodM m f c = true then (hdM m f c, bodM m f c, i) else tellM m c rest
/-- the order of the slots -/
def ordM (m : Dm) (f0 f1 c : Nat) : List (Nat × Int) := if (hdM m f0 c).g < (hdM m f1 c).g then [(f1, 1), (f0, 0)] else [(f0, 0), (f1, 1)]
end Go.Proofs.YtfepggdljhiemaaGreatDoor

/-! Slots: Save on a live device. -/
namespace Go.Proofs.YtfepggdljhiemaaGreatDoor
open Go.RowKit Gw

/-- a write and a Sync are behind it -/
structure PutL (f : Nat) (m : Dm) (n a : Nat) (b : List UInt8) (m2 : Dm) (n2 : Nat) : Prop where
  ok : m2.ok
  sz : m2.sz = 64
  dur : m2.dur.length = m.dur.length
  row : m2.row = []
  n1 : n ≤ n2
  n2 : n2 ≤ n + chK 64 a (a + b.length) + 3
  ab : ∀ i, i < m.dur.length * 64 → ab m2 64 i = if f * 64 + a ≤ i ∧ i < f * 64 + (a + b.length) then b.getD (i - (f * 64 + a)) 0 else ab m 64 i
theorem putG_lv (f c : Nat) (m : Dm) (n a : Nat) (b : List UInt8) (hok : m.ok) (hz : m.sz = 64) (hfc : f + c ≤ m.dur.length) (h : a + b.length ≤ c * 64) :
    ∃ m2 n2, putG f c 64 (Lv m n) a b = (Lv m2 n2, 0) ∧ PutL f m n a b m2 n2 := by
  obtain ⟨m', n', e, hL⟩ := wrA_lv f c 64 m n a b hok hz hfc h
  have hd : m'.dur.length = m.dur.length := by rw [hL.dur]
  refine ⟨m'.sync, n' + 1, ?_, sync_okR hL.ok, by show m'.sz = 64; exact hL.sz, by rw [sync_len]; exact hd, sync_row m', by have := hL.n1; omega, by have := hL.n2; omega, fun i hi => ?_⟩
  · unfold putG
    rw [e]
    dsimp only
    rw [if_pos rfl]
    rfl
  · rw [sync_ab hL.ok (by omega) (by rw [hd]; exact hi)]
    exact hL.ab i
theorem PutL.abs_out {f : Nat} {m m2 : Dm} {n a n2 : Nat} {b : List UInt8} (h : PutL f m n a b m2 n2) {p k : Nat} (hi : p + k ≤ m.dur.length * 64) (ho : p + k ≤ f * 64 + a ∨ f * 64 + (a + b.length) ≤ p) : abs m2 64 p k = abs m 64 p k := by
  refine List.ext_getElem (by rw [abs_len, abs_len]) fun j j1 j2 => ?_
  rw [abs_len] at j1
  rw [abs_get, abs_get, h.ab _ (by omega), if_neg (by omega)]
theorem secH_len {h : Hd} : (secH 64 h).length = 64 := by
  unfold secH
  rw [List.length_append, hdr_len]
  simp [zeros]
theorem seeH_sec {h : Hd} {lim : Int} (hw : h.wf) (hm : mayH h = true) (hl : h.l ≤ lim) : seeH lim (secH 64 h) = h := by
  obtain ⟨e1, e2⟩ := getH_of hw hm (zeros (64 - 32))
  unfold seeH secH
  rw [e1, e2, if_pos ⟨rfl, hl⟩]
/-- a slot that holds a header and its body -/
structure Hold (m : Dm) (f c : Nat) (h : Hd) (b : List UInt8) : Prop where
  w : h.wf
  may : mayH h = true
  len : h.l = (b.length : Nat)
  sum : h.s = crcS b
  lim : b.length + 64 ≤ c * 64
  sec : abs m 64 (f * 64) 64 = secH 64 h
  bod : abs m 64 (f * 64 + 64) b.length = b
theorem Hold.hd {m : Dm} {f c : Nat} {h : Hd} {b : List UInt8} (H : Hold m f c h b) : hdM m f c = h ∧ bodM m f c = b ∧ goodM m f c = true := by
  have e1 : hdM m f c = h := by
    unfold hdM
    rw [H.sec]
    exact seeH_sec H.w H.may (by have := H.len; have := H.lim; omega)
  have e2 : bodM m f c = b := by
    unfold bodM
    rw [e1, H.len, Int.toNat_natCast]
    exact H.bod
  obtain ⟨m1, _⟩ := of_decide_eq_true H.may
  exact ⟨e1, e2, by unfold goodM; rw [e1, e2]; exact decide_eq_true ⟨by omega, H.sum.symm⟩⟩
/-- what Save finds -/
def foundM (m : Dm) (f0 f1 c : Nat) : Hd × List UInt8 × Int := tellM m c (ordM m f0 f1 c)
end Go.Proofs.YtfepggdljhiemaaGreatDoor

/-! Slots: saves in turns. -/
namespace Go.Proofs.YtfepggdljhiemaaGreatDoor
open Go.RowKit Gw

/-- the slot of a number -/
def slotN (f0 f1 k : Nat) : Nat := if k % 2 = 0 then f0 else f1
/-- so many saves were made, the last one this -/
structure Turn (m : Dm) (f0 f1 c i : Nat) (h : Hd) (b : List UInt8) : Prop where
  ok : m.ok
  sz : m.sz = 64
  row : m.row = []
  st : (i = 0 ∧ hdM m f0 c = hd0 ∧ hdM m f1 c = hd0) ∨ (0 < i ∧ h.g = i ∧ Hold m (slotN f0 f1 (i - 1)) c h b ∧ (hdM m (slotN f0 f1 i) c).g < i)
theorem tellM_1 {m : Dm} {c f : Nat} {i : Int} {rest : List (Nat × Int)} (h : goodM m f c = true) : tellM m c ((f, i) :: rest) = (hdM m f c, bodM m f c, i) := by
  unfold tellM
  rw [if_pos h]
theorem tellM_0 {m : Dm} {c f : Nat} {i : Int} {rest : List (Nat × Int)} (h : hdM m f c = hd0) : tellM m c ((f, i) :: rest) = tellM m c rest := by
  have hg : goodM m f c = false := by unfold goodM; rw [h]; simp [hd0]
  conv => lhs; unfold tellM
  rw [hg, if_neg (by decide)]
theorem Turn.found {m : Dm} {f0 f1 c i : Nat} {h : Hd} {b : List UInt8} (T : Turn m f0 f1 c i h b) : (i = 0 → foundM m f0 f1 c = (hd0, [], -1)) ∧ (0 < i → foundM m f0 f1 c = (h, b, (((i - 1) % 2 : Nat) : Int))) := by
  rcases T.st with ⟨hi, h0, h1⟩ | ⟨hi, hg, H, ho⟩
  · refine ⟨fun _ => ?_, fun h => by omega⟩
    unfold foundM ordM
    rw [h0, h1, if_neg (by decide), tellM_0 h0, tellM_0 h1]
    rfl
  · refine ⟨fun h => by omega, fun _ => ?_⟩
    obtain ⟨e1, e2, e3⟩ := H.hd
    unfold foundM ordM
    by_cases c2 : (i - 1) % 2 = 0
    · have s1 : slotN f0 f1 (i - 1) = f0 := if_pos c2
      have s2 : slotN f0 f1 i = f1 := if_neg (by omega)
      rw [s1] at e1 e2 e3
      rw [s2] at ho
      rw [if_neg (by rw [e1, hg]; omega), tellM_1 e3, e1, e2, c2]
      rfl
    · have s1 : slotN f0 f1 (i - 1) = f1 := if_neg c2
      have s2 : slotN f0 f1 i = f0 := if_pos (by omega)
      rw [s1] at e1 e2 e3
      rw [s2] at ho
      rw [if_pos (by rw [e1, hg]; exact ho), tellM_1 e3, e1, e2, show (i - 1) % 2 = 1 by omega]
      rfl
theorem seeH_zeros (lim : Int) : seeH lim (zeros 64) = hd0 := by
  have hs : sumH (zeros 64) = false := decide_eq_false fun h => absurd h.2 (by decide)
  have he : errH (zeros 64) = 81 := by
    unfold errH
    rw [if_neg (by simp [zeros]), hs, if_neg (by decide)]
  unfold seeH
  rw [he, if_neg (by simp)]
/-- fresh slots -/
theorem Turn.zero (N f0 f1 c : Nat) (h1 : 1 ≤ N) (h2 : N ≤ 20) : Turn (dev0 N 64) f0 f1 c 0 hd0 [] := by
  have e : ∀ f, hdM (dev0 N 64) f c = hd0 := fun f => by
    unfold hdM
    rw [abs_zero fun i _ => ab_dev0 N 64 i]
    exact seeH_zeros _
  refine ⟨?_, rfl, rfl, .inl ⟨rfl, e _, e _⟩⟩
  refine ⟨?_, ?_, ?_, ?_, ?_, ?_⟩ <;> simp [dev0, zeros] <;> omega
end Go.Proofs.YtfepggdljhiemaaGreatDoor

/-! RegionPlays: a step; the law's world: two devices, two regions of each. -/
namespace Go.Proofs.YtfepggdljhiemaaGreatDoor
open Go.RowKit Gw

/-- a step -/
structure Gop where
  k : Int
  ot : Bool
  a : Int
  n : Int
  bw : Value
  l : List UInt8
  sf : Int
  sc : Int
  fv : Value
  F : List (Int × Int)
def Gop.cells (o : Gop) : List Value := [.int .i64 o.k, .bool o.ot, .int .i64 o.a, .int .i64 o.n, o.bw, .int .i64 o.sf, .int .i64 o.sc, o.fv]
def Gop.val (o : Gop) : Value := .agg #[.int .i64 o.k, .bool o.ot, .int .i64 o.a, .int .i64 o.n, o.bw, .int .i64 o.sf, .int .i64 o.sc, o.fv]
structure OkGop (w : World) (o : Gop) : Prop where
  b : Bs w o.bw o.l
  fs : Fs w o.fv o.F
  old : o.F ≠ [] → ∀ b ∈ blks o.fv, b < w.heap.size
  k : i64 o.k
  a : i64 o.a
  n : i64 o.n
  sf : i64 o.sf
  sc : i64 o.sc
  l : o.l.length ≤ 1048576
  f : o.F.length ≤ 1048576
theorem OkGop.ext {w w' : World} {o : Gop} (h : OkGop w o) (hm : Mod [] w w') : OkGop w' o :=
  ⟨Sl.ext h.b hm, h.fs.far hm (by simp), fun h0 b hb => Nat.lt_of_lt_of_le (h.old h0 b hb) hm.size, h.k, h.a, h.n, h.sf, h.sc, h.l, h.f⟩
/-- a script -/
def Gops (w : World) (v : Value) (os : List Gop) : Prop := Sl w 8 v os.length (os.flatMap Gop.cells) ∧ ∀ o ∈ os, OkGop w o
theorem gflat_at8 : ∀ (os : List Gop) (i j : Nat) (hi : i < os.length) (hj : j < 8), (os.flatMap Gop.cells)[i * 8 + j]? = (os[i].cells)[j]?
  | o :: os, 0, j, _, hj => by
    rw [List.flatMap_cons, Nat.zero_mul, Nat.zero_add, List.getElem?_append_left (show j < o.cells.length from hj)]
    rfl
  | o :: os, i + 1, j, hi, hj => by
    have := gflat_at8 os i j (by simpa using hi) hj
    rw [List.flatMap_cons, List.getElem?_append_right (by show 8 ≤ _; omega)]
    simp only [List.getElem_cons_succ]
    rw [← this]
    congr 1
    show (i + 1) * 8 + j - 8 = _
    omega
theorem Gops.elem {w : World} {ao : Option Addr} {n cap : Nat} {os : List Gop} (h : Sl w 8 (.slice ao n cap) os.length (os.flatMap Gop.cells)) {i : Nat} (hi : i < os.length) :
    ∃ b o, ao = some ⟨b, o, none⟩ ∧ w.rangeAt b (o + i * 8) os[i].cells := by
  obtain ⟨b, o, c, hv, _, _, hc⟩ := h.at (fun h0 => by
    have := gflat_at8 os i 0 hi (by omega)
    rw [h0] at this
    simp [Gop.cells] at this)
  injection hv with e1
  refine ⟨b, o, e1, fun j u hu => ?_⟩
  have hj : j < 8 := by have := (List.getElem?_eq_some_iff.1 hu).1; simpa [Gop.cells] using this
  have := hc (i * 8 + j) u (by rw [gflat_at8 os i j hi hj]; exact hu)
  rwa [← Nat.add_assoc] at this
/-- a region, both ways -/
structure Reg2 where
  r : Nat
  h : Nat
  f : Nat
  c : Nat
structure RegOk (W w : World) (p P z N : Nat) (D : List Nat) (g : Reg2) : Prop where
  a : Rgn w g.r p g.f g.c z
  b : Rgr w g.h P g.f g.c
  fc : g.f + g.c ≤ N
  rD : g.r ∉ D
  hD : g.h ∉ D
  r1 : W.heap.size ≤ g.r
  h1 : W.heap.size ≤ g.h
section
variable {W w w' : World} {x p q P Q z N : Nat} {v u v' u' : Pv} {L M L' M' G : List Nat} {o0 o1 : Option Reg2} {g : Reg2}
theorem RegOk.mod {D : List Nat} (h : RegOk W w p P z N D g) (hm : Mod G w w') (h1 : g.r ∉ G) (h2 : g.h ∉ G) : RegOk W w' p P z N D g := ⟨h.a.mod hm h1, h.b.mod hm h2, h.fc, h.rD, h.hD, h.r1, h.h1⟩
theorem RegOk.to {D D' : List Nat} (h : RegOk W w p P z N D g) (hD : ∀ k ∈ D', k ∈ D ∨ w.heap.size ≤ k) : RegOk W w p P z N D' g :=
  ⟨h.a, h.b, h.fc, fun hh => (hD _ hh).elim h.rD (fun h1 => by have := Rgn.lt h.a; omega), fun hh => (hD _ hh).elim h.hD (fun h1 => by have := Rgr.lt h.b; omega), h.r1, h.h1⟩
end
end Go.Proofs.YtfepggdljhiemaaGreatDoor

/-! RegionPlays: what a call leaves of a device's sizes. -/
namespace Go.Proofs.YtfepggdljhiemaaGreatDoor
open Go.RowKit Gw

theorem rdG_sz (f z : Nat) : ∀ (k a e : Nat) (v : Pv) (acc : List UInt8), k = e - a → (rdG f z v a e acc).1.m = v.m ∧ (rdG f z v a e acc).1.n ≤ v.n + (e - a) := by
  intro k
  induction k using Nat.strongRecOn with
  | ind k ih =>
    intro a e v acc hk
    by_cases h : a < e ∧ 0 < z
    · have hm := md_n2 v
      cases hg : v.go with
      | true =>
        rw [rdG_go h.1 h.2 hg]
        have h3 := nxt_gt h.1 h.2
        have h4 := nxt_le (z := z) (Nat.le_of_lt h.1)
        obtain ⟨i1, i2⟩ := ih (e - nxt z a e) (by omega) (nxt z a e) e v.md _ rfl
        exact ⟨i1.trans v.md_m, by omega⟩
      | false =>
        rw [rdG_no h.1 h.2 hg]
        exact ⟨v.md_m, by dsimp only; omega⟩
    · rw [rdG, dif_neg h]
      exact ⟨rfl, by dsimp only; omega⟩
theorem wrG_sz (f z : Nat) : ∀ (k a e : Nat) (v : Pv) (b : List UInt8), k = e - a → (wrG f z v a e b).1.m.sz = v.m.sz ∧ (wrG f z v a e b).1.m.dur.length = v.m.dur.length ∧ (wrG f z v a e b).1.m.row.length ≤ v.m.row.length + (e - a) ∧ (wrG f z v a e b).1.n ≤ v.n + 2 * (e - a) := by
  intro k
  induction k using Nat.strongRecOn with
  | ind k ih =>
    intro a e v b hk
    by_cases h : a < e ∧ 0 < z
    · obtain ⟨g1, g2, g3, g4⟩ := wrC_sz v (f + a / z) (a % z) (toC z a e) z (b.take (toC z a e - a % z))
      by_cases h0 : (wrC v (f + a / z) (a % z) (toC z a e) z (b.take (toC z a e - a % z))).2 = 0
      · rw [wrG_ok h.1 h.2 h0]
        have h3 := nxt_gt h.1 h.2
        have h4 := nxt_le (z := z) (Nat.le_of_lt h.1)
        obtain ⟨i1, i2, i3, i4⟩ := ih (e - nxt z a e) (by omega) (nxt z a e) e (wrC v (f + a / z) (a % z) (toC z a e) z (b.take (toC z a e - a % z))).1 (b.drop (toC z a e - a % z)) rfl
        exact ⟨i1.trans g1, i2.trans g2, by omega, by omega⟩
      · rw [wrG_no h.1 h.2 h0]
        exact ⟨g1, g2, by omega, by omega⟩
    · rw [wrG, dif_neg h]
      exact ⟨rfl, rfl, by dsimp only; omega, by dsimp only; omega⟩
theorem hold_le {B : Nat} {a n : Int} (h : hold B a n = true) : a.toNat + n.toNat ≤ B := by
  obtain ⟨g1, g2, g3, g4⟩ := of_decide_eq_true h
  omega
theorem rdA_sz (f c z : Nat) (v : Pv) (a n : Int) : (rdA f c z v a n).1.m = v.m ∧ (rdA f c z v a n).1.n ≤ v.n + c * z := by
  unfold rdA
  split
  · rename_i h
    have := hold_le h
    obtain ⟨h1, h2⟩ := rdG_sz f z _ a.toNat (a.toNat + n.toNat) v [] rfl
    exact ⟨h1, by omega⟩
  · exact ⟨rfl, by dsimp only; omega⟩
theorem wrA_sz (f c z : Nat) (v : Pv) (a : Int) (b : List UInt8) : (wrA f c z v a b).1.m.sz = v.m.sz ∧ (wrA f c z v a b).1.m.dur.length = v.m.dur.length ∧ (wrA f c z v a b).1.m.row.length ≤ v.m.row.length + c * z ∧ (wrA f c z v a b).1.n ≤ v.n + 2 * (c * z) := by
  unfold wrA
  split
  · rename_i h
    have := hold_le h
    rw [Int.toNat_natCast] at this
    obtain ⟨h1, h2, h3, h4⟩ := wrG_sz f z _ a.toNat (a.toNat + b.length) v b rfl
    exact ⟨h1, h2, by omega, by omega⟩
  · exact ⟨rfl, rfl, by dsimp only; omega, by dsimp only; omega⟩
theorem sy_sz (v : Pv) : v.sy.m.sz = v.m.sz ∧ v.sy.m.dur.length = v.m.dur.length ∧ v.sy.m.row.length ≤ v.m.row.length ∧ v.sy.n ≤ v.n + 1 := by
  have h := md_n2 v
  unfold Pv.sy
  split
  · exact ⟨rfl, sync_len v.m, Nat.zero_le _, h⟩
  · rw [v.md_m]
    exact ⟨rfl, rfl, Nat.le_refl _, h⟩
theorem arm_sz (v : Pv) (n : Int) : (v.arm n).m = v.m ∧ (v.arm n).n = v.n := by
  unfold Pv.arm
  split <;> exact ⟨rfl, rfl⟩
theorem re_sz (v : Pv) (F : List (Int × Int)) : (v.re F).m.sz = v.m.sz ∧ (v.re F).m.dur.length = v.m.dur.length ∧ (v.re F).m.row = [] ∧ (v.re F).n = 0 := ⟨rfl, keep_len v.m F, rfl, rfl⟩
end Go.Proofs.YtfepggdljhiemaaGreatDoor

/-! Slots: what Load and Save tell where they tell OK, on a device that is armed or not. -/
namespace Go.Proofs.YtfepggdljhiemaaGreatDoor
open Go.RowKit Gw

/-- a write that tells OK on a device that is off is of nothing -/
theorem wrG_off {f z : Nat} {v : Pv} {a e : Nat} {b : List UInt8} (hv : v.off = true) (h0 : (wrG f z v a e b).2 = 0) : (wrG f z v a e b).1 = v := by
  by_cases h : a < e ∧ 0 < z
  · have hg : v.go = false := by unfold Pv.go; rw [hv]; rfl
    have hc : (wrC v (f + a / z) (a % z) (toC z a e) z (b.take (toC z a e - a % z))).2 = 60 := by
      unfold wrC
      split
      · rw [if_neg (by rw [hg]; decide)]
      · rw [if_neg (by rw [hg]; decide)]
    rw [wrG_no h.1 h.2 (by rw [hc]; decide), hc] at h0
    exact absurd h0 (by decide)
  · rw [wrG, dif_neg h]
theorem e_zero {v : Pv} (h : v.e 0 = 0) : v.go = true := by
  unfold Pv.e at h
  split at h
  · assumption
  · exact absurd h (by decide)
theorem sy_go {v : Pv} (h : v.go = true) : v.sy.m = v.m.sync := by
  unfold Pv.sy
  rw [if_pos h]
  rfl
/-- a write and a Sync that tell OK -/
theorem putG_ok (f c : Nat) (v : Pv) (a : Nat) (b : List UInt8) (hv : v.ok) (hz : v.m.sz = 64) (hfc : f + c ≤ v.m.dur.length) (h : a + b.length ≤ c * 64) (h0 : (putG f c 64 v a b).2 = 0) :
    ∃ n n2, PutL f v.m n a b (putG f c 64 v a b).1.m n2 := by
  have hp : (wrA f c 64 v a b).2 = 0 ∧ (wrA f c 64 v a b).1.go = true ∧ (putG f c 64 v a b).1.m = (wrA f c 64 v a b).1.m.sync := by
    unfold putG at h0 ⊢
    by_cases c1 : (wrA f c 64 v a b).2 = 0
    · rw [if_pos c1] at h0 ⊢
      exact ⟨c1, e_zero h0, sy_go (e_zero h0)⟩
    · rw [if_neg c1] at h0
      exact absurd h0 c1
  obtain ⟨p1, p2, p3⟩ := hp
  rw [p3]
  have key : ∃ M, (wrA f c 64 v a b).1.m = M ∧ M.ok ∧ M.sz = 64 ∧ M.dur = v.m.dur ∧ ∀ i, ab M 64 i = if f * 64 + a ≤ i ∧ i < f * 64 + (a + b.length) then b.getD (i - (f * 64 + a)) 0 else ab v.m 64 i := by
    obtain ⟨m, off, ar, n⟩ := v
    have h1 := hv.a1
    dsimp only at h1 hz hfc
    cases off with
    | true =>
      have e1 : (wrA f c 64 ⟨m, true, ar, n⟩ a b).1 = ⟨m, true, ar, n⟩ := by
        have p1' := p1
        unfold wrA at p1' ⊢
        rw [if_pos (hold_in h)] at p1' ⊢
        exact wrG_off rfl p1'
      rw [e1] at p2
      exact absurd p2 (by unfold Pv.go; simp)
    | false =>
      by_cases ha : ar = -1
      · subst ha
        obtain ⟨m', n', q, hL⟩ := wrA_lv f c 64 m n a b hv.m hz hfc h
        have q' : wrA f c 64 ⟨m, false, -1, n⟩ a b = (Lv m' n', 0) := q
        rw [q']
        exact ⟨m', rfl, hL.ok, hL.sz, hL.dur, hL.ab⟩
      · obtain ⟨k, rfl⟩ := Int.eq_ofNat_of_zero_le (show 0 ≤ ar by omega)
        obtain ⟨v3, E, d, q, hD, _, hE⟩ := wrA_ar f c m k n a b hv.m hz hfc h
        have q' : wrA f c 64 ⟨m, false, (k : Nat), n⟩ a b = (v3, E) := q
        rw [q'] at p1 ⊢
        dsimp only at p1
        rcases hE with ⟨_, _, hd⟩ | ⟨hE, _, _⟩
        · refine ⟨v3.m, rfl, hD.ok, hD.sz, hD.dur, fun i => ?_⟩
          rw [hD.ab i]
          have hl := laidN_all hd
          unfold laidN at hl
          by_cases c1 : f * 64 + a ≤ i ∧ i < f * 64 + (a + b.length)
          · rw [if_pos c1, if_pos ⟨c1.1, c1.2, by omega⟩]
          · rw [if_neg c1, if_neg (fun h => c1 ⟨h.1, h.2.1⟩)]
        · rw [hE] at p1
          exact absurd p1 (by decide)
  obtain ⟨M, k1, k2, k3, k4, k5⟩ := key
  rw [k1]
  refine ⟨0, 0, sync_okR k2, k3, by rw [sync_len, k4], sync_row M, Nat.le_refl _, by omega, fun i hi => ?_⟩
  rw [sync_ab k2 (by omega) (by rw [k4]; exact hi)]
  exact k5 i
end Go.Proofs.YtfepggdljhiemaaGreatDoor

/-! Slots: behind a Save that told OK, Load finds what was saved. -/
namespace Go.Proofs.YtfepggdljhiemaaGreatDoor
open Go.RowKit Gw

end Go.Proofs.YtfepggdljhiemaaGreatDoor

/-! Slots: the generations in the first sectors stay small, whatever crashes do. -/
namespace Go.Proofs.YtfepggdljhiemaaGreatDoor
open Go.RowKit Gw

/-- all that a sector holds, or may come to hold, is such -/
structure InvS (Q : List UInt8 → Prop) (m : Dm) (s : Nat) : Prop where
  d : Q (m.dur.getD s [])
  r : ∀ x ∈ m.row, x.1 = s → Q x.2
section
variable {Q : List UInt8 → Prop} {m : Dm} {s : Nat}
theorem foldD_inv {g : Nat → Nat} (hQ : ∀ k a b, Q a → Q b → Q (tear k a b)) : ∀ (l : List ((Nat × List UInt8) × Nat)) (d : List (List UInt8)), Q (d.getD s []) → (∀ x ∈ l, x.1.1 = s → Q x.1.2) → Q ((l.foldl (stepD g) d).getD s [])
  | [], d, h, _ => h
  | x :: l, d, h, hx => by
    rw [List.foldl_cons]
    refine foldD_inv hQ l _ ?_ (fun y hy => hx y (List.mem_cons_of_mem _ hy))
    unfold stepD
    rw [List.getD_eq_getElem?_getD, List.getElem?_set]
    by_cases e : x.1.1 = s
    · rw [if_pos e]
      split
      · exact hQ _ _ _ (hx x List.mem_cons_self e) (by rw [e]; exact h)
      · rw [List.getD_eq_getElem?_getD, List.getElem?_eq_none (by omega)] at h
        exact h
    · rw [if_neg e, ← List.getD_eq_getElem?_getD]
      exact h
theorem InvS.settle (h : InvS Q m s) (hQ : ∀ k a b, Q a → Q b → Q (tear k a b)) (g : Nat → Nat) : InvS Q (m.settle g) s :=
  ⟨foldD_inv hQ _ _ h.d (fun x hx e => h.r x.1 (List.fst_mem_of_mem_zipIdx hx) e), fun x hx => by cases hx⟩
theorem InvS.write (h : InvS Q m s) {S : Nat} {b : List UInt8} (hb : S = s → Q b) : InvS Q (m.write S b) s :=
  ⟨h.d, fun x hx e => (List.mem_append.1 hx).elim (fun h1 => h.r x h1 e) fun h1 => by
    have e1 : x = (S, b) := by simpa using h1
    subst e1
    exact hb e⟩
theorem InvS.read (h : InvS Q m s) : Q (m.read s) := by
  unfold Dm.read
  split
  · rename_i x hx
    refine h.r x (List.mem_reverse.1 (List.mem_of_find?_eq_some hx)) ?_
    have := List.find?_some hx
    simpa using this
  · exact h.d
theorem InvS.wrm (h : InvS Q m s) {S : Nat} {b : List UInt8} (hb : S = s → Q b) : InvS Q (wrM m S b) s := by
  unfold wrM
  split
  · exact h.write hb
  · exact h
end
section
variable {Q : List UInt8 → Prop} {v : Pv} {s f c : Nat}
theorem inv_wr (h : InvS Q v.m s) {S : Nat} {b : List UInt8} (hb : S = s → Q b) : InvS Q (v.wr (S : Nat) b).m s := by
  unfold Pv.wr
  split
  · exact h.wrm hb
  · rw [v.md_m]
    exact h
theorem inv_sy (h : InvS Q v.m s) (hQ : ∀ k a b, Q a → Q b → Q (tear k a b)) : InvS Q v.sy.m s := by
  unfold Pv.sy
  split
  · exact h.settle hQ _
  · rw [v.md_m]
    exact h
theorem inv_re (h : InvS Q v.m s) (hQ : ∀ k a b, Q a → Q b → Q (tear k a b)) (F : List (Int × Int)) : InvS Q (v.re F).m s := h.settle hQ _
end
/-- what stands in a sector as a header: a small generation -/
def SmS (B : Nat) (l : List UInt8) : Prop := (l.getD 4 0).toNat ≤ B ∧ ∀ j, 5 ≤ j → j < 12 → l.getD j 0 = 0
theorem tear_get (k : Nat) (a b : List UInt8) (j : Nat) (ha : a.length = 64) (hb : b.length = 64) : (tear k a b).getD j 0 = a.getD j 0 ∨ (tear k a b).getD j 0 = b.getD j 0 := by
  unfold tear
  simp only [List.getD_eq_getElem?_getD]
  by_cases c1 : j < (a.take k).length
  · left
    rw [List.getElem?_append_left c1, List.getElem?_take_of_lt (by rw [List.length_take] at c1; omega)]
  · right
    rw [List.getElem?_append_right (by omega), List.getElem?_drop]
    rw [List.length_take, ha] at c1 ⊢
    by_cases c2 : k ≤ 64
    · rw [Nat.min_eq_left c2, show k + (j - k) = j by omega]
    · rw [List.getElem?_eq_none (by omega), List.getElem?_eq_none (by omega)]
/-- a sector of 64 bytes that is such -/
def SmQ (B : Nat) (l : List UInt8) : Prop := l.length = 64 ∧ SmS B l
theorem SmQ.tear {B : Nat} (k : Nat) (a b : List UInt8) (ha : SmQ B a) (hb : SmQ B b) : SmQ B (tear k a b) := by
  refine ⟨tear_len ha.1 hb.1, ?_, fun j h1 h2 => ?_⟩
  · rcases tear_get k a b 4 ha.1 hb.1 with h | h
    · rw [h]; exact ha.2.1
    · rw [h]; exact hb.2.1
  · rcases tear_get k a b j ha.1 hb.1 with h | h
    · rw [h]; exact ha.2.2 j h1 h2
    · rw [h]; exact hb.2.2 j h1 h2
theorem SmQ.mono {B C : Nat} {l : List UInt8} (h : SmQ B l) (hBC : B ≤ C) : SmQ C l := ⟨h.1, Nat.le_trans h.2.1 hBC, h.2.2⟩
theorem InvS.mono {B C : Nat} {m : Dm} {s : Nat} (h : InvS (SmQ B) m s) (hBC : B ≤ C) : InvS (SmQ C) m s := ⟨h.d.mono hBC, fun x hx e => (h.r x hx e).mono hBC⟩
theorem SmQ.zeros (B : Nat) : SmQ B (Go.Proofs.YtfepggdljhiemaaGreatDoor.zeros 64) := by
  have hz : ∀ j, j < 64 → (Go.Proofs.YtfepggdljhiemaaGreatDoor.zeros 64).getD j 0 = 0 := fun j hj => by
    unfold Go.Proofs.YtfepggdljhiemaaGreatDoor.zeros
    rw [List.getD_eq_getElem?_getD, List.getElem?_replicate, if_pos hj]
    rfl
  exact ⟨by simp [Go.Proofs.YtfepggdljhiemaaGreatDoor.zeros], by rw [hz 4 (by omega)]; exact Nat.zero_le _, fun j _ h2 => hz j (by omega)⟩
theorem SmQ.sec {B : Nat} {h : Hd} (hg : h.g ≤ B) (hB : B < 256) : SmQ B (secH 64 h) := by
  have hl : ∀ j, j < 8 → (secH 64 h).getD (4 + j) 0 = UInt8.ofNat (h.g / 256 ^ j) := fun j hj => by
    unfold secH hdr hdB
    rw [List.getD_eq_getElem?_getD]
    simp only [List.append_assoc]
    rw [List.getElem?_append_right (by show 4 ≤ 4 + j; omega), show 4 + j - gang.length = j from by show 4 + j - 4 = j; omega, List.getElem?_append_left (by rw [low_length]; exact hj)]
    unfold low
    rw [List.getElem?_map, List.getElem?_range hj]
    rfl
  refine ⟨secH_len, ?_, fun j h1 h2 => ?_⟩
  · have e := hl 0 (by omega)
    rw [Nat.add_zero] at e
    rw [e, Nat.pow_zero, Nat.div_one, UInt8.toNat_ofNat']
    omega
  · have e := hl (j - 4) (by omega)
    rw [show 4 + (j - 4) = j by omega] at e
    rw [e]
    have h256 : 256 ^ 1 ≤ 256 ^ (j - 4) := Nat.pow_le_pow_right (by omega) (by omega)
    rw [Nat.div_eq_of_lt (by omega)]
    rfl
end Go.Proofs.YtfepggdljhiemaaGreatDoor

/-! Slots: which errors Save tells; the device stays one. -/
namespace Go.Proofs.YtfepggdljhiemaaGreatDoor
open Go.RowKit Gw

theorem e_or (v : Pv) : v.e 0 = 0 ∨ v.e 0 = 60 := by
  unfold Pv.e
  split
  · exact .inl rfl
  · exact .inr rfl
theorem wr_okv {v : Pv} (h : v.ok) (a : Int) (l : List UInt8) : (v.wr a l).ok := by
  unfold Pv.wr
  split
  · exact Pv.at_ok (Pv.md_ok h) (wrM_ok h.m a l)
  · exact Pv.md_ok h
theorem sy_okv {v : Pv} (h : v.ok) : v.sy.ok := by
  unfold Pv.sy
  split
  · exact Pv.at_ok (Pv.md_ok h) (sync_okR h.m)
  · exact Pv.md_ok h
theorem wrC_st {v : Pv} (hv : v.ok) (S M T z : Nat) (x : List UInt8) : (wrC v S M T z x).1.ok ∧ ((wrC v S M T z x).2 = 0 ∨ (wrC v S M T z x).2 = 60) := by
  unfold wrC
  split
  · split
    · split
      · exact ⟨wr_okv (Pv.md_ok hv) _ _, .inl rfl⟩
      · exact ⟨Pv.md_ok (Pv.md_ok hv), .inr rfl⟩
    · exact ⟨Pv.md_ok hv, .inr rfl⟩
  · split
    · exact ⟨wr_okv hv _ _, .inl rfl⟩
    · exact ⟨Pv.md_ok hv, .inr rfl⟩
theorem wrG_st (f z : Nat) : ∀ (k a e : Nat) (v : Pv) (b : List UInt8), k = e - a → v.ok → (wrG f z v a e b).1.ok ∧ ((wrG f z v a e b).2 = 0 ∨ (wrG f z v a e b).2 = 60) := by
  intro k
  induction k using Nat.strongRecOn with
  | ind k ih =>
    intro a e v b hk hv
    by_cases h : a < e ∧ 0 < z
    · have hC := wrC_st hv (f + a / z) (a % z) (toC z a e) z (b.take (toC z a e - a % z))
      by_cases h0 : (wrC v (f + a / z) (a % z) (toC z a e) z (b.take (toC z a e - a % z))).2 = 0
      · rw [wrG_ok h.1 h.2 h0]
        have h3 := nxt_gt h.1 h.2
        exact ih (e - nxt z a e) (by omega) (nxt z a e) e _ _ rfl hC.1
      · rw [wrG_no h.1 h.2 h0]
        exact hC
    · rw [wrG, dif_neg h]
      exact ⟨hv, .inl rfl⟩
theorem putG_st (f c z : Nat) (v : Pv) (a : Int) (b : List UInt8) (hv : v.ok) (hh : hold (c * z) a b.length = true) : (putG f c z v a b).1.ok ∧ ((putG f c z v a b).2 = 0 ∨ (putG f c z v a b).2 = 60) := by
  have hw : (wrA f c z v a b).1.ok ∧ ((wrA f c z v a b).2 = 0 ∨ (wrA f c z v a b).2 = 60) := by
    unfold wrA
    rw [if_pos hh]
    exact wrG_st f z _ _ _ v b rfl hv
  unfold putG
  split
  · exact ⟨sy_okv hw.1, e_or _⟩
  · exact hw
end Go.Proofs.YtfepggdljhiemaaGreatDoor

/-! Slots: what Load and Save leave of a device's sizes. -/
namespace Go.Proofs.YtfepggdljhiemaaGreatDoor
open Go.RowKit Gw

theorem rdG_len (f z : Nat) : ∀ (k a e : Nat) (v : Pv) (acc : List UInt8), k = e - a → (rdG f z v a e acc).2.2.length ≤ acc.length + (e - a) := by
  intro k
  induction k using Nat.strongRecOn with
  | ind k ih =>
    intro a e v acc hk
    by_cases h : a < e ∧ 0 < z
    · cases hg : v.go with
      | true =>
        rw [rdG_go h.1 h.2 hg]
        have h3 := nxt_gt h.1 h.2
        have h4 := nxt_le (z := z) (Nat.le_of_lt h.1)
        have h5 : nxt z a e = a + (toC z a e - a % z) := rfl
        have i1 := ih (e - nxt z a e) (by omega) (nxt z a e) e v.md (acc ++ ((v.m.read (f + a / z)).drop (a % z)).take (toC z a e - a % z)) rfl
        rw [List.length_append, List.length_take] at i1
        omega
      | false =>
        rw [rdG_no h.1 h.2 hg]
        simp
    · rw [rdG, dif_neg h]
      dsimp only
      omega
theorem rdA_len (f c z : Nat) (v : Pv) (a n : Int) : (rdA f c z v a n).2.2.length ≤ c * z := by
  unfold rdA
  split
  · rename_i h
    have := hold_le h
    have h2 := rdG_len f z _ a.toNat (a.toNat + n.toNat) v [] rfl
    simp only [List.length_nil] at h2
    omega
  · simp
/-- a header that is told: none, or one that may be and has room -/
def HdOk (c z : Nat) (h : Hd) : Prop := h.wf ∧ (h.g ≠ 0 → 0 ≤ h.l ∧ h.l ≤ (c : Int) * z - z)
structure LdOk (c z : Nat) (v : Pv) (k : Nat) (R : Ld5) : Prop where
  m : R.v.m = v.m
  n : R.v.n ≤ v.n + k * (c * z)
  h : HdOk c z R.h
  b : R.b.length ≤ c * z
  i : R.i = -1 ∨ R.i = 0 ∨ R.i = 1
structure SzOk (c z : Nat) (v : Pv) (k : Nat) (V : Pv) : Prop where
  sz : V.m.sz = v.m.sz
  dur : V.m.dur.length = v.m.dur.length
  row : V.m.row.length ≤ v.m.row.length + k * (c * z)
  n : V.n ≤ v.n + k * (2 * (c * z) + 1)
theorem putG_sz (f c z : Nat) (v : Pv) (a : Int) (b : List UInt8) : SzOk c z v 1 (putG f c z v a b).1 := by
  obtain ⟨h1, h2, h3, h4⟩ := wrA_sz f c z v a b
  obtain ⟨g1, g2, g3, g4⟩ := sy_sz (wrA f c z v a b).1
  unfold putG
  split
  · exact ⟨g1.trans h1, g2.trans h2, by dsimp only; omega, by dsimp only; omega⟩
  · exact ⟨h1, h2, by omega, by omega⟩
end Go.Proofs.YtfepggdljhiemaaGreatDoor
