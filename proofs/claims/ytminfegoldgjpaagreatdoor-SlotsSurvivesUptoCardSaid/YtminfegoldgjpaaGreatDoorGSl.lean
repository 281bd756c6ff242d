import Derived.Test.YtminfegoldgjpaaGreatDoorGCr
import Derived.Test.YtminfegoldgjpaaGreatDoorGRs
import Derived.Test.YtminfegoldgjpaaGreatDoorGRo
import Derived.Test.YtminfegoldgjpaaGreatDoorGRh
import Derived.Test.YtminfegoldgjpaaGreatDoorGRi
set_option linter.unusedVariables false
set_option linter.unusedSimpArgs false
set_option maxRecDepth 100000
namespace Go.Proofs.YtminfegoldgjpaaGreatDoor
open Go.RowKit Gw
def seeH (lim : Int) (b : List UInt8) : Hd := if errH b = 0 ∧ (getH b).l ≤ lim then getH b else hd0
def headG (f c z : Nat) (v : Pv) : Pv × Int × Hd :=
 if (rdA f c z v 0 z).2.1 = 0 then ((rdA f c z v 0 z).1, 0, seeH ((c : Int) * z - z) (rdA f c z v 0 z).2.2) else ((rdA f c z v 0 z).1, (rdA f c z v 0 z).2.1, hd0)
structure Ld5 where
 v : Pv
 e : Int
 h : Hd
 b : List UInt8
 i : Int
def bodG (c z : Nat) (v : Pv) : List (Nat × Int × Hd) → Ld5
 | [] => ⟨v, 0, hd0, [], -1⟩
 | (f, i, h) :: rest =>
   if h.g = 0 then bodG c z v rest
   else if (rdA f c z v z h.l).2.1 = 0 then
     if crcS (rdA f c z v z h.l).2.2 = h.s then ⟨(rdA f c z v z h.l).1, 0, h, (rdA f c z v z h.l).2.2, i⟩ else bodG c z (rdA f c z v z h.l).1 rest
   else ⟨(rdA f c z v z h.l).1, (rdA f c z v z h.l).2.1, hd0, [], 0⟩
def loadG (f0 f1 c z : Nat) (v : Pv) : Ld5 :=
 if (headG f0 c z v).2.1 = 0 then
   if (headG f1 c z (headG f0 c z v).1).2.1 = 0 then
     if (headG f0 c z v).2.2.g < (headG f1 c z (headG f0 c z v).1).2.2.g then
       bodG c z (headG f1 c z (headG f0 c z v).1).1 [(f1, 1, (headG f1 c z (headG f0 c z v).1).2.2), (f0, 0, (headG f0 c z v).2.2)]
     else bodG c z (headG f1 c z (headG f0 c z v).1).1 [(f0, 0, (headG f0 c z v).2.2), (f1, 1, (headG f1 c z (headG f0 c z v).1).2.2)]
   else ⟨(headG f1 c z (headG f0 c z v).1).1, (headG f1 c z (headG f0 c z v).1).2.1, hd0, [], 0⟩
 else ⟨(headG f0 c z v).1, (headG f0 c z v).2.1, hd0, [], 0⟩
def putG (f c z : Nat) (v : Pv) (a : Int) (b : List UInt8) : Pv × Int :=
 if (wrA f c z v a b).2 = 0 then ((wrA f c z v a b).1.sy, (wrA f c z v a b).1.e 0) else wrA f c z v a b
def nextH (h : Hd) (cov : Nat) (b : List UInt8) : Hd := ⟨(h.g + 1) % 18446744073709551616, cov, b.length, crcS b⟩
def secH (z : Nat) (h : Hd) : List UInt8 := hdr h ++ zeros (z - 32)
def saveQ (x c z : Nat) (v : Pv) (N : Hd) : Pv × Int × Hd := if (putG x c z v 0 (secH z N)).2 ≠ 0 then ((putG x c z v 0 (secH z N)).1, (putG x c z v 0 (secH z N)).2, hd0) else ((putG x c z v 0 (secH z N)).1, 0, N)
def saveP (x c z : Nat) (v : Pv) (N : Hd) (b : List UInt8) : Pv × Int × Hd := if (putG x c z v z b).2 ≠ 0 then ((putG x c z v z b).1, (putG x c z v z b).2, hd0) else saveQ x c z (putG x c z v z b).1 N
def saveL (f0 f1 c z : Nat) (l : Ld5) (b : List UInt8) (cov : Nat) : Pv × Int × Hd :=
 if l.e ≠ 0 then (l.v, l.e, hd0) else if mayH (nextH l.h cov b) = false then (l.v, 6, hd0) else saveP (if l.i = 0 then f1 else f0) c z l.v (nextH l.h cov b) b
def saveG (f0 f1 c z : Nat) (v : Pv) (b : List UInt8) (cov : Nat) : Pv × Int × Hd :=
 if (c : Int) * z - z < b.length then (v, 3, hd0) else saveL f0 f1 c z (loadG f0 f1 c z v) b cov
def hdM (m : Dm) (f c : Nat) : Hd := seeH ((c : Int) * 64 - 64) (abs m 64 (f * 64) 64)
theorem hold_in {B : Nat} {a n : Nat} (h : a + n ≤ B) : hold B (a : Int) (n : Int) = true := decide_eq_true ⟨by omega, by omega, by omega, by omega⟩
theorem rdA_live (f c : Nat) (m : Dm) (n a k : Nat) (hok : m.ok) (hz : m.sz = 64) (hfc : f + c ≤ m.dur.length) (h : a + k ≤ c * 64) : rdA f c 64 (Lv m n) a k = (Lv m (n + chK 64 a (a + k)), 0, abs m 64 (f * 64 + a) k) := rdA_lv f c 64 m n a k (f * 64 + a) hok hz hfc h rfl
theorem headG_lv (f c : Nat) (m : Dm) (n : Nat) (hok : m.ok) (hz : m.sz = 64) (hfc : f + c ≤ m.dur.length) (hc : 1 ≤ c) : headG f c 64 (Lv m n) = (Lv m (n + 1), 0, hdM m f c) := by
 have e := rdA_live f c m n 0 64 hok hz hfc (by omega)
 have k1 : chK 64 0 (0 + 64) = 1 := rfl
 rw [k1, Nat.add_zero] at e
 unfold headG hdM
 rw [show ((64 : Nat) : Int) = 64 from rfl, show ((0 : Nat) : Int) = 0 from rfl] at e
 rw [show ((64 : Nat) : Int) = 64 from rfl, e, if_pos rfl]
 rfl
theorem seeH_or (lim : Int) (b : List UInt8) : seeH lim b = hd0 ∨ (mayH (seeH lim b) = true ∧ (seeH lim b).l ≤ lim) := by
 unfold seeH
 split
 · rename_i h
   refine .inr ⟨?_, h.2⟩
   have he := h.1
   unfold getH
   rw [if_pos he]
   unfold errH at he
   split at he
   · exact absurd he (by decide)
   · split at he
     · split at he
       · assumption
       · exact absurd he (by decide)
     · exact absurd he (by decide)
 · exact .inl rfl
def bodM (m : Dm) (f c : Nat) : List UInt8 := abs m 64 (f * 64 + 64) (hdM m f c).l.toNat
def goodM (m : Dm) (f c : Nat) : Bool := decide ((hdM m f c).g ≠ 0 ∧ crcS (bodM m f c) = (hdM m f c).s)
def tellM (m : Dm) (c : Nat) : List (Nat × Int) → Hd × List UInt8 × Int
 | [] => (hd0, [], -1)
 | (f, i) :: rest => if goodM m f c = true then (hdM m f c, bodM m f c, i) else tellM m c rest
theorem bodG_lv (c : Nat) (m : Dm) (hok : m.ok) (hz : m.sz = 64) (hc : 1 ≤ c) : ∀ (l : List (Nat × Int)) (n : Nat), (∀ x ∈ l, x.1 + c ≤ m.dur.length) →
   ∃ n', bodG c 64 (Lv m n) (l.map fun x => (x.1, x.2, hdM m x.1 c)) = ⟨Lv m n', 0, (tellM m c l).1, (tellM m c l).2.1, (tellM m c l).2.2⟩ ∧ n ≤ n' ∧ n' ≤ n + l.length * (c + 2)
 | [], n, _ => ⟨n, rfl, Nat.le_refl _, by omega⟩
 | (f, i) :: rest, n, hf => by
   have hfc : f + c ≤ m.dur.length := hf (f, i) List.mem_cons_self
   have hr := fun n => bodG_lv c m hok hz hc rest n (fun x hx => hf x (List.mem_cons_of_mem _ hx))
   have ho := seeH_or ((c : Int) * 64 - 64) (abs m 64 (f * 64) 64)
   rw [List.map_cons]
   unfold bodG tellM
   dsimp only
   by_cases hg : (hdM m f c).g = 0
   · have hG : goodM m f c = false := by unfold goodM; simp [hg]
     obtain ⟨n', e1, e2, e3⟩ := hr n
     rw [if_pos hg, hG, if_neg (by decide)]
     refine ⟨n', e1, e2, ?_⟩
     rw [List.length_cons, Nat.add_mul]
     omega
   · have hm : mayH (hdM m f c) = true ∧ (hdM m f c).l ≤ (c : Int) * 64 - 64 := by
       rcases ho with h | h
       · exact absurd (show (hdM m f c).g = 0 by unfold hdM; rw [h]; rfl) hg
       · exact h
     obtain ⟨m1, m2, m3⟩ := of_decide_eq_true hm.1
     have e := rdA_live f c m n 64 (hdM m f c).l.toNat hok hz hfc (by omega)
     rw [Int.toNat_of_nonneg m2, show ((64 : Nat) : Int) = 64 from rfl] at e
     have hk := chK_le (a := 64) (e := 64 + (hdM m f c).l.toNat)
     have hk2 : chK 64 64 (64 + (hdM m f c).l.toNat) ≤ c + 1 := by omega
     rw [if_neg hg, show ((64 : Nat) : Int) = 64 from rfl, e]
     dsimp only
     rw [if_pos rfl]
     by_cases hs : crcS (abs m 64 (f * 64 + 64) (hdM m f c).l.toNat) = (hdM m f c).s
     · have hG : goodM m f c = true := decide_eq_true ⟨hg, hs⟩
       rw [if_pos hs, hG, if_pos rfl]
       refine ⟨n + chK 64 64 (64 + (hdM m f c).l.toNat), rfl, by omega, ?_⟩
       rw [List.length_cons, Nat.add_mul]
       omega
     · have hG : goodM m f c = false := decide_eq_false fun h => hs h.2
       obtain ⟨n', e1, e2, e3⟩ := hr (n + chK 64 64 (64 + (hdM m f c).l.toNat))
       rw [if_neg hs, hG, if_neg (by decide)]
       refine ⟨n', e1, by omega, ?_⟩
       rw [List.length_cons, Nat.add_mul]
       omega
def ordM (m : Dm) (f0 f1 c : Nat) : List (Nat × Int) := if (hdM m f0 c).g < (hdM m f1 c).g then [(f1, 1), (f0, 0)] else [(f0, 0), (f1, 1)]
theorem loadG_lv (f0 f1 c : Nat) (m : Dm) (n : Nat) (hok : m.ok) (hz : m.sz = 64) (hc : 1 ≤ c) (h0 : f0 + c ≤ m.dur.length) (h1 : f1 + c ≤ m.dur.length) :
   ∃ n', loadG f0 f1 c 64 (Lv m n) = ⟨Lv m n', 0, (tellM m c (ordM m f0 f1 c)).1, (tellM m c (ordM m f0 f1 c)).2.1, (tellM m c (ordM m f0 f1 c)).2.2⟩ ∧ n ≤ n' ∧ n' ≤ n + 2 * c + 6 := by
 have a0 := headG_lv f0 c m n hok hz h0 hc
 have a1 := headG_lv f1 c m (n + 1) hok hz h1 hc
 unfold loadG ordM
 rw [a0]
 dsimp only
 rw [if_pos rfl, a1]
 dsimp only
 rw [if_pos rfl]
 by_cases h : (hdM m f0 c).g < (hdM m f1 c).g
 · rw [if_pos h, if_pos h]
   obtain ⟨n', e1, e2, e3⟩ := bodG_lv c m hok hz hc [(f1, 1), (f0, 0)] (n + 1 + 1) (by simp; omega)
   exact ⟨n', e1, by omega, by simp only [List.length_cons, List.length_nil] at e3; omega⟩
 · rw [if_neg h, if_neg h]
   obtain ⟨n', e1, e2, e3⟩ := bodG_lv c m hok hz hc [(f0, 0), (f1, 1)] (n + 1 + 1) (by simp; omega)
   exact ⟨n', e1, by omega, by simp only [List.length_cons, List.length_nil] at e3; omega⟩
end Go.Proofs.YtminfegoldgjpaaGreatDoor
namespace Go.Proofs.YtminfegoldgjpaaGreatDoor
open Go.RowKit Gw
structure PutL (f : Nat) (m : Dm) (n a : Nat) (b : List UInt8) (m2 : Dm) (n2 : Nat) : Prop where
 ok : m2.ok
 sz : m2.sz = 64
 dur : m2.dur.length = m.dur.length
 row : m2.row = []
 n1 : n ≤ n2
 n2 : n2 ≤ n + chK 64 a (a + b.length) + 3
 ab : ∀ i, i < m.dur.length * 64 → ab m2 64 i = if f * 64 + a ≤ i ∧ i < f * 64 + (a + b.length) then b.getD (i - (f * 64 + a)) 0 else ab m 64 i
theorem putG_lv (f c : Nat) (m : Dm) (n a : Nat) (b : List UInt8) (hok : m.ok) (hz : m.sz = 64) (hfc : f + c ≤ m.dur.length) (h : a + b.length ≤ c * 64) :
   ∃ m2 n2, putG f c 64 (Lv m n) a b = (Lv m2 n2, 0) ∧ PutL f m n a b m2 n2 := by
 obtain ⟨m', n', e, hL⟩ := wrA_lv f c 64 m n a b hok hz hfc h
 have hd : m'.dur.length = m.dur.length := by rw [hL.dur]
 refine ⟨m'.sync, n' + 1, ?_, sync_okR hL.ok, by show m'.sz = 64; exact hL.sz, by rw [sync_len]; exact hd, sync_row m', by have := hL.n1; omega, by have := hL.n2; omega, fun i hi => ?_⟩
 · unfold putG
   rw [e]
   dsimp only
   rw [if_pos rfl]
   rfl
 · rw [sync_ab hL.ok (by omega) (by rw [hd]; exact hi)]
   exact hL.ab i
theorem PutL.abs_in {f : Nat} {m m2 : Dm} {n a n2 : Nat} {b : List UInt8} (h : PutL f m n a b m2 n2) (hi : f * 64 + (a + b.length) ≤ m.dur.length * 64) : abs m2 64 (f * 64 + a) b.length = b := by
 refine List.ext_getElem (by rw [abs_len]) fun j j1 j2 => ?_
 rw [abs_get, h.ab _ (by omega), if_pos (by omega), show f * 64 + a + j - (f * 64 + a) = j by omega, List.getD_eq_getElem?_getD, List.getElem?_eq_getElem j2, Option.getD_some]
theorem PutL.abs_out {f : Nat} {m m2 : Dm} {n a n2 : Nat} {b : List UInt8} (h : PutL f m n a b m2 n2) {p k : Nat} (hi : p + k ≤ m.dur.length * 64) (ho : p + k ≤ f * 64 + a ∨ f * 64 + (a + b.length) ≤ p) : abs m2 64 p k = abs m 64 p k := by
 refine List.ext_getElem (by rw [abs_len, abs_len]) fun j j1 j2 => ?_
 rw [abs_len] at j1
 rw [abs_get, abs_get, h.ab _ (by omega), if_neg (by omega)]
theorem secH_len {h : Hd} : (secH 64 h).length = 64 := by
 unfold secH
 rw [List.length_append, hdr_len]
 simp [zeros]
theorem seeH_sec {h : Hd} {lim : Int} (hw : h.wf) (hm : mayH h = true) (hl : h.l ≤ lim) : seeH lim (secH 64 h) = h := by
 obtain ⟨e1, e2⟩ := getH_of hw hm (zeros (64 - 32))
 unfold seeH secH
 rw [e1, e2, if_pos ⟨rfl, hl⟩]
structure Hold (m : Dm) (f c : Nat) (h : Hd) (b : List UInt8) : Prop where
 w : h.wf
 may : mayH h = true
 len : h.l = (b.length : Nat)
 sum : h.s = crcS b
 lim : b.length + 64 ≤ c * 64
 sec : abs m 64 (f * 64) 64 = secH 64 h
 bod : abs m 64 (f * 64 + 64) b.length = b
theorem Hold.hd {m : Dm} {f c : Nat} {h : Hd} {b : List UInt8} (H : Hold m f c h b) : hdM m f c = h ∧ bodM m f c = b ∧ goodM m f c = true := by
 have e1 : hdM m f c = h := by
   unfold hdM
   rw [H.sec]
   exact seeH_sec H.w H.may (by have := H.len; have := H.lim; omega)
 have e2 : bodM m f c = b := by
   unfold bodM
   rw [e1, H.len, Int.toNat_natCast]
   exact H.bod
 obtain ⟨m1, _⟩ := of_decide_eq_true H.may
 exact ⟨e1, e2, by unfold goodM; rw [e1, e2]; exact decide_eq_true ⟨by omega, H.sum.symm⟩⟩
theorem same_slot {m m2 : Dm} {f c : Nat} (h1 : ∀ p k, f * 64 ≤ p → p + k ≤ (f + c) * 64 → abs m2 64 p k = abs m 64 p k) (hc : 1 ≤ c) : hdM m2 f c = hdM m f c ∧ bodM m2 f c = bodM m f c ∧ goodM m2 f c = goodM m f c := by
 have e1 : hdM m2 f c = hdM m f c := by
   unfold hdM
   rw [h1 _ _ (Nat.le_refl _) (by omega)]
 have e2 : bodM m2 f c = bodM m f c := by
   unfold bodM
   rw [e1]
   rcases seeH_or ((c : Int) * 64 - 64) (abs m 64 (f * 64) 64) with h | ⟨_, h⟩
   · have h0 : (hdM m f c).l = 0 := by unfold hdM; rw [h]; rfl
     rw [h0]
     rfl
   · have h0 : (hdM m f c).l ≤ (c : Int) * 64 - 64 := h
     exact h1 _ _ (by omega) (by omega)
 exact ⟨e1, e2, by unfold goodM; rw [e1, e2]⟩
def foundM (m : Dm) (f0 f1 c : Nat) : Hd × List UInt8 × Int := tellM m c (ordM m f0 f1 c)
set_option maxHeartbeats 2000000 in
theorem saveG_lv (f0 f1 c : Nat) (m : Dm) (n : Nat) (b : List UInt8) (cov : Nat) (hok : m.ok) (hz : m.sz = 64) (hc : 2 ≤ c) (h0 : f0 + c ≤ m.dur.length) (h1 : f1 + c ≤ m.dur.length) (hap : f0 + c ≤ f1 ∨ f1 + c ≤ f0)
   (hb : b.length + 64 ≤ c * 64) (hb2 : b.length ≤ 67108864) (hcov : cov < 18446744073709551616) (hg : (foundM m f0 f1 c).1.g + 1 < 18446744073709551616) :
   ∃ m2 n2, saveG f0 f1 c 64 (Lv m n) b cov = (Lv m2 n2, 0, nextH (foundM m f0 f1 c).1 cov b) ∧ m2.ok ∧ m2.sz = 64 ∧ m2.dur.length = m.dur.length ∧ m2.row = [] ∧ n ≤ n2 ∧ n2 ≤ n + 4 * c + 20 ∧
     Hold m2 (if (foundM m f0 f1 c).2.2 = 0 then f1 else f0) c (nextH (foundM m f0 f1 c).1 cov b) b ∧
     (∀ p k, (if (foundM m f0 f1 c).2.2 = 0 then f0 else f1) * 64 ≤ p → p + k ≤ ((if (foundM m f0 f1 c).2.2 = 0 then f0 else f1) + c) * 64 → abs m2 64 p k = abs m 64 p k) := by
 obtain ⟨n1, e1, e2, e3⟩ := loadG_lv f0 f1 c m n hok hz (by omega) h0 h1
 have e1' : loadG f0 f1 c 64 (Lv m n) = ⟨Lv m n1, 0, (foundM m f0 f1 c).1, (foundM m f0 f1 c).2.1, (foundM m f0 f1 c).2.2⟩ := e1
 obtain ⟨H, hH⟩ : ∃ H, H = foundM m f0 f1 c := ⟨_, rfl⟩
 rw [← hH] at hg e1' ⊢
 obtain ⟨x, hx⟩ : ∃ x, x = if H.2.2 = 0 then f1 else f0 := ⟨_, rfl⟩
 obtain ⟨y, hy⟩ : ∃ y, y = if H.2.2 = 0 then f0 else f1 := ⟨_, rfl⟩
 have hxy : x + c ≤ m.dur.length ∧ y + c ≤ m.dur.length ∧ (x + c ≤ y ∨ y + c ≤ x) := by
   rw [hx, hy]
   split
   · exact ⟨h1, h0, hap.symm⟩
   · exact ⟨h0, h1, hap⟩
 obtain ⟨hx1, hy1, hxy⟩ := hxy
 obtain ⟨N, hN⟩ : ∃ N, N = nextH H.1 cov b := ⟨_, rfl⟩
 have hcr := crcS_lt b
 have hNw : N.wf := by
   rw [hN]
   unfold nextH
   exact ⟨by dsimp only; omega, hcov, hcr, by dsimp only; omega⟩
 have hNm : mayH N = true := by
   rw [hN]
   unfold nextH mayH
   exact decide_eq_true ⟨by dsimp only; omega, by dsimp only; omega, by dsimp only; omega⟩
 obtain ⟨m3, n3, q1, P1⟩ := putG_lv x c m n1 64 b hok hz hx1 (by omega)
 obtain ⟨m4, n4, q2, P2⟩ := putG_lv x c m3 n3 0 (secH 64 N) P1.ok P1.sz (by rw [P1.dur]; exact hx1) (by rw [secH_len]; omega)
 have hk1 := chK_le (a := 64) (e := 64 + b.length)
 have hk2 : chK 64 0 (0 + (secH 64 N).length) = 1 := by rw [secH_len]; rfl
 rw [← hx, ← hy, ← hN]
 refine ⟨m4, n4, ?_, P2.ok, P2.sz, by rw [P2.dur, P1.dur], P2.row, by have := P1.n1; have := P2.n1; omega, by have := P1.n2; have := P2.n2; omega, ⟨hNw, hNm, by rw [hN]; rfl, by rw [hN]; rfl, hb, ?_, ?_⟩, fun p k hp hk => ?_⟩
 · have s1 : saveQ x c 64 (Lv m3 n3) N = (Lv m4 n4, 0, N) := by
     unfold saveQ
     have q2' : putG x c 64 (Lv m3 n3) 0 (secH 64 N) = (Lv m4 n4, 0) := q2
     rw [q2']
     exact if_neg (by simp)
   have s2 : saveP x c 64 (Lv m n1) N b = (Lv m4 n4, 0, N) := by
     unfold saveP
     have q1' : putG x c 64 (Lv m n1) (64 : Nat) b = (Lv m3 n3, 0) := q1
     rw [q1', if_neg (by simp)]
     exact s1
   have s3 : saveL f0 f1 c 64 ⟨Lv m n1, 0, H.1, H.2.1, H.2.2⟩ b cov = (Lv m4 n4, 0, N) := by
     unfold saveL
     dsimp only
     rw [← hx, ← hN, if_neg (by simp), if_neg (by rw [hNm]; decide)]
     exact s2
   unfold saveG
   rw [e1', if_neg (by omega)]
   exact s3
 · have := P2.abs_in (by rw [secH_len, P1.dur]; omega)
   rw [secH_len] at this
   exact this
 · rw [P2.abs_out (by rw [P1.dur]; omega) (.inr (by rw [secH_len]; omega))]
   exact P1.abs_in (by omega)
 · rw [P2.abs_out (by rw [P1.dur]; omega) (by rw [secH_len]; omega), P1.abs_out (by omega) (by omega)]
end Go.Proofs.YtminfegoldgjpaaGreatDoor
namespace Go.Proofs.YtminfegoldgjpaaGreatDoor
open Go.RowKit Gw
def slotN (f0 f1 k : Nat) : Nat := if k % 2 = 0 then f0 else f1
structure Turn (m : Dm) (f0 f1 c i : Nat) (h : Hd) (b : List UInt8) : Prop where
 ok : m.ok
 sz : m.sz = 64
 row : m.row = []
 st : (i = 0 ∧ hdM m f0 c = hd0 ∧ hdM m f1 c = hd0) ∨ (0 < i ∧ h.g = i ∧ Hold m (slotN f0 f1 (i - 1)) c h b ∧ (hdM m (slotN f0 f1 i) c).g < i)
theorem tellM_1 {m : Dm} {c f : Nat} {i : Int} {rest : List (Nat × Int)} (h : goodM m f c = true) : tellM m c ((f, i) :: rest) = (hdM m f c, bodM m f c, i) := by
 unfold tellM
 rw [if_pos h]
theorem tellM_0 {m : Dm} {c f : Nat} {i : Int} {rest : List (Nat × Int)} (h : hdM m f c = hd0) : tellM m c ((f, i) :: rest) = tellM m c rest := by
 have hg : goodM m f c = false := by unfold goodM; rw [h]; simp [hd0]
 conv => lhs; unfold tellM
 rw [hg, if_neg (by decide)]
theorem Turn.found {m : Dm} {f0 f1 c i : Nat} {h : Hd} {b : List UInt8} (T : Turn m f0 f1 c i h b) : (i = 0 → foundM m f0 f1 c = (hd0, [], -1)) ∧ (0 < i → foundM m f0 f1 c = (h, b, (((i - 1) % 2 : Nat) : Int))) := by
 rcases T.st with ⟨hi, h0, h1⟩ | ⟨hi, hg, H, ho⟩
 · refine ⟨fun _ => ?_, fun h => by omega⟩
   unfold foundM ordM
   rw [h0, h1, if_neg (by decide), tellM_0 h0, tellM_0 h1]
   rfl
 · refine ⟨fun h => by omega, fun _ => ?_⟩
   obtain ⟨e1, e2, e3⟩ := H.hd
   unfold foundM ordM
   by_cases c2 : (i - 1) % 2 = 0
   · have s1 : slotN f0 f1 (i - 1) = f0 := if_pos c2
     have s2 : slotN f0 f1 i = f1 := if_neg (by omega)
     rw [s1] at e1 e2 e3
     rw [s2] at ho
     rw [if_neg (by rw [e1, hg]; omega), tellM_1 e3, e1, e2, c2]
     rfl
   · have s1 : slotN f0 f1 (i - 1) = f1 := if_neg c2
     have s2 : slotN f0 f1 i = f0 := if_pos (by omega)
     rw [s1] at e1 e2 e3
     rw [s2] at ho
     rw [if_pos (by rw [e1, hg]; exact ho), tellM_1 e3, e1, e2, show (i - 1) % 2 = 1 by omega]
     rfl
theorem Turn.save {m : Dm} {f0 f1 c i : Nat} {h : Hd} {b : List UInt8} (T : Turn m f0 f1 c i h b) (n : Nat) (b2 : List UInt8) (cov : Nat) (hc : 2 ≤ c) (h0 : f0 + c ≤ m.dur.length) (h1 : f1 + c ≤ m.dur.length) (hap : f0 + c ≤ f1 ∨ f1 + c ≤ f0)
   (hb : b2.length + 64 ≤ c * 64) (hb2 : b2.length ≤ 67108864) (hcov : cov < 18446744073709551616) (hi : i + 1 < 18446744073709551616) :
   ∃ m2 n2 N, saveG f0 f1 c 64 (Lv m n) b2 cov = (Lv m2 n2, 0, N) ∧ N = ⟨i + 1, cov, b2.length, crcS b2⟩ ∧ Turn m2 f0 f1 c (i + 1) N b2 ∧ m2.dur.length = m.dur.length ∧ n ≤ n2 ∧ n2 ≤ n + 4 * c + 20 := by
 obtain ⟨F0, F1⟩ := T.found
 have hfg : (foundM m f0 f1 c).1.g = i ∧ (if (foundM m f0 f1 c).2.2 = 0 then f1 else f0) = slotN f0 f1 i ∧ (if (foundM m f0 f1 c).2.2 = 0 then f0 else f1) = slotN f0 f1 (i + 1) := by
   by_cases hi0 : i = 0
   · rw [F0 hi0, hi0]
     exact ⟨rfl, rfl, rfl⟩
   · rw [F1 (by omega)]
     rcases T.st with ⟨hi, _⟩ | ⟨_, hg, _⟩
     · exact absurd hi hi0
     · refine ⟨hg, ?_, ?_⟩
       · show (if (((i - 1) % 2 : Nat) : Int) = 0 then f1 else f0) = if i % 2 = 0 then f0 else f1
         by_cases c2 : (i - 1) % 2 = 0
         · rw [if_pos (by omega), if_neg (by omega)]
         · rw [if_neg (by omega), if_pos (by omega)]
       · show (if (((i - 1) % 2 : Nat) : Int) = 0 then f0 else f1) = if (i + 1) % 2 = 0 then f0 else f1
         by_cases c2 : (i - 1) % 2 = 0
         · rw [if_pos (by omega), if_pos (by omega)]
         · rw [if_neg (by omega), if_neg (by omega)]
 obtain ⟨g1, g2, g3⟩ := hfg
 obtain ⟨m2, n2, q1, q2, q3, q4, q5, q6, q7, q8, q9⟩ := saveG_lv f0 f1 c m n b2 cov T.ok T.sz hc h0 h1 hap hb hb2 hcov (by rw [g1]; exact hi)
 rw [g2] at q8
 rw [g3] at q9
 have hN : nextH (foundM m f0 f1 c).1 cov b2 = ⟨i + 1, cov, b2.length, crcS b2⟩ := by
   unfold nextH
   rw [g1, Nat.mod_eq_of_lt hi]
 rw [hN] at q1 q8
 obtain ⟨r1, _, _⟩ := same_slot (m := m) (m2 := m2) (f := slotN f0 f1 (i + 1)) (c := c) q9 (by omega)
 refine ⟨m2, n2, _, q1, rfl, ⟨q2, q3, q5, .inr ⟨by omega, rfl, ?_, ?_⟩⟩, q4, q6, q7⟩
 · rw [Nat.add_sub_cancel]
   exact q8
 · rw [r1]
   rcases T.st with ⟨hi0, a0, a1⟩ | ⟨hi0, hg, H, ho⟩
   · have : hdM m (slotN f0 f1 (i + 1)) c = hd0 := by unfold slotN; split <;> assumption
     rw [this]
     exact Nat.succ_pos _
   · have e : slotN f0 f1 (i + 1) = slotN f0 f1 (i - 1) := by unfold slotN; rw [show (i + 1) % 2 = (i - 1) % 2 by omega]
     rw [e, (H.hd).1, hg]
     exact Nat.lt_succ_self _
theorem crash_none {m : Dm} (h : m.row = []) (F : List (Int × Int)) : m.crash F = m := by
 obtain ⟨sz, dur, row⟩ := m
 dsimp only at h
 subst h
 rfl
theorem seeH_zeros (lim : Int) : seeH lim (zeros 64) = hd0 := by
 have hs : sumH (zeros 64) = false := decide_eq_false fun h => absurd h.2 (by decide)
 have he : errH (zeros 64) = 81 := by
   unfold errH
   rw [if_neg (by simp [zeros]), hs, if_neg (by decide)]
 unfold seeH
 rw [he, if_neg (by simp)]
theorem Turn.zero (N f0 f1 c : Nat) (h1 : 1 ≤ N) (h2 : N ≤ 20) : Turn (dev0 N 64) f0 f1 c 0 hd0 [] := by
 have e : ∀ f, hdM (dev0 N 64) f c = hd0 := fun f => by
   unfold hdM
   rw [abs_zero fun i _ => ab_dev0 N 64 i]
   exact seeH_zeros _
 refine ⟨?_, rfl, rfl, .inl ⟨rfl, e _, e _⟩⟩
 refine ⟨?_, ?_, ?_, ?_, ?_, ?_⟩ <;> simp [dev0, zeros] <;> omega
end Go.Proofs.YtminfegoldgjpaaGreatDoor
namespace Go.Proofs.YtminfegoldgjpaaGreatDoor
open Go.RowKit Gw
structure Gop where
 k : Int
 ot : Bool
 a : Int
 n : Int
 bw : Value
 l : List UInt8
 sf : Int
 sc : Int
 fv : Value
 F : List (Int × Int)
def Gop.cells (o : Gop) : List Value := [.int .i64 o.k, .bool o.ot, .int .i64 o.a, .int .i64 o.n, o.bw, .int .i64 o.sf, .int .i64 o.sc, o.fv]
def Gop.val (o : Gop) : Value := .agg #[.int .i64 o.k, .bool o.ot, .int .i64 o.a, .int .i64 o.n, o.bw, .int .i64 o.sf, .int .i64 o.sc, o.fv]
structure OkGop (w : World) (o : Gop) : Prop where
 b : Bs w o.bw o.l
 fs : Fs w o.fv o.F
 old : o.F ≠ [] → ∀ b ∈ blks o.fv, b < w.heap.size
 k : i64 o.k
 a : i64 o.a
 n : i64 o.n
 sf : i64 o.sf
 sc : i64 o.sc
 l : o.l.length ≤ 1048576
 f : o.F.length ≤ 1048576
theorem OkGop.ext {w w' : World} {o : Gop} (h : OkGop w o) (hm : Mod [] w w') : OkGop w' o :=
 ⟨Sl.ext h.b hm, h.fs.far hm (by simp), fun h0 b hb => Nat.lt_of_lt_of_le (h.old h0 b hb) hm.size, h.k, h.a, h.n, h.sf, h.sc, h.l, h.f⟩
structure Reg2 where
 r : Nat
 h : Nat
 f : Nat
 c : Nat
structure RegOk (W w : World) (p P z N : Nat) (D : List Nat) (g : Reg2) : Prop where
 a : Rgn w g.r p g.f g.c z
 b : Rgr w g.h P g.f g.c
 fc : g.f + g.c ≤ N
 rD : g.r ∉ D
 hD : g.h ∉ D
 r1 : W.heap.size ≤ g.r
 h1 : W.heap.size ≤ g.h
section
variable {W w w' : World} {x p q P Q z N : Nat} {v u v' u' : Pv} {L M L' M' G : List Nat} {o0 o1 : Option Reg2} {g : Reg2}
theorem RegOk.mod {D : List Nat} (h : RegOk W w p P z N D g) (hm : Mod G w w') (h1 : g.r ∉ G) (h2 : g.h ∉ G) : RegOk W w' p P z N D g := ⟨h.a.mod hm h1, h.b.mod hm h2, h.fc, h.rD, h.hD, h.r1, h.h1⟩
end
end Go.Proofs.YtminfegoldgjpaaGreatDoor
namespace Go.Proofs.YtminfegoldgjpaaGreatDoor
open Go.RowKit Gw
theorem rdG_sz (f z : Nat) : ∀ (k a e : Nat) (v : Pv) (acc : List UInt8), k = e - a → (rdG f z v a e acc).1.m = v.m ∧ (rdG f z v a e acc).1.n ≤ v.n + (e - a) := by
 intro k
 induction k using Nat.strongRecOn with
 | ind k ih =>
   intro a e v acc hk
   by_cases h : a < e ∧ 0 < z
   · have hm := md_n2 v
     cases hg : v.go with
     | true =>
       rw [rdG_go h.1 h.2 hg]
       have h3 := nxt_gt h.1 h.2
       have h4 := nxt_le (z := z) (Nat.le_of_lt h.1)
       obtain ⟨i1, i2⟩ := ih (e - nxt z a e) (by omega) (nxt z a e) e v.md _ rfl
       exact ⟨i1.trans v.md_m, by omega⟩
     | false =>
       rw [rdG_no h.1 h.2 hg]
       exact ⟨v.md_m, by dsimp only; omega⟩
   · rw [rdG, dif_neg h]
     exact ⟨rfl, by dsimp only; omega⟩
theorem wrG_sz (f z : Nat) : ∀ (k a e : Nat) (v : Pv) (b : List UInt8), k = e - a → (wrG f z v a e b).1.m.sz = v.m.sz ∧ (wrG f z v a e b).1.m.dur.length = v.m.dur.length ∧ (wrG f z v a e b).1.m.row.length ≤ v.m.row.length + (e - a) ∧ (wrG f z v a e b).1.n ≤ v.n + 2 * (e - a) := by
 intro k
 induction k using Nat.strongRecOn with
 | ind k ih =>
   intro a e v b hk
   by_cases h : a < e ∧ 0 < z
   · obtain ⟨g1, g2, g3, g4⟩ := wrC_sz v (f + a / z) (a % z) (toC z a e) z (b.take (toC z a e - a % z))
     by_cases h0 : (wrC v (f + a / z) (a % z) (toC z a e) z (b.take (toC z a e - a % z))).2 = 0
     · rw [wrG_ok h.1 h.2 h0]
       have h3 := nxt_gt h.1 h.2
       have h4 := nxt_le (z := z) (Nat.le_of_lt h.1)
       obtain ⟨i1, i2, i3, i4⟩ := ih (e - nxt z a e) (by omega) (nxt z a e) e (wrC v (f + a / z) (a % z) (toC z a e) z (b.take (toC z a e - a % z))).1 (b.drop (toC z a e - a % z)) rfl
       exact ⟨i1.trans g1, i2.trans g2, by omega, by omega⟩
     · rw [wrG_no h.1 h.2 h0]
       exact ⟨g1, g2, by omega, by omega⟩
   · rw [wrG, dif_neg h]
     exact ⟨rfl, rfl, by dsimp only; omega, by dsimp only; omega⟩
theorem hold_le {B : Nat} {a n : Int} (h : hold B a n = true) : a.toNat + n.toNat ≤ B := by
 obtain ⟨g1, g2, g3, g4⟩ := of_decide_eq_true h
 omega
theorem rdA_sz (f c z : Nat) (v : Pv) (a n : Int) : (rdA f c z v a n).1.m = v.m ∧ (rdA f c z v a n).1.n ≤ v.n + c * z := by
 unfold rdA
 split
 · rename_i h
   have := hold_le h
   obtain ⟨h1, h2⟩ := rdG_sz f z _ a.toNat (a.toNat + n.toNat) v [] rfl
   exact ⟨h1, by omega⟩
 · exact ⟨rfl, by dsimp only; omega⟩
theorem wrA_sz (f c z : Nat) (v : Pv) (a : Int) (b : List UInt8) : (wrA f c z v a b).1.m.sz = v.m.sz ∧ (wrA f c z v a b).1.m.dur.length = v.m.dur.length ∧ (wrA f c z v a b).1.m.row.length ≤ v.m.row.length + c * z ∧ (wrA f c z v a b).1.n ≤ v.n + 2 * (c * z) := by
 unfold wrA
 split
 · rename_i h
   have := hold_le h
   rw [Int.toNat_natCast] at this
   obtain ⟨h1, h2, h3, h4⟩ := wrG_sz f z _ a.toNat (a.toNat + b.length) v b rfl
   exact ⟨h1, h2, by omega, by omega⟩
 · exact ⟨rfl, rfl, by dsimp only; omega, by dsimp only; omega⟩
theorem sy_sz (v : Pv) : v.sy.m.sz = v.m.sz ∧ v.sy.m.dur.length = v.m.dur.length ∧ v.sy.m.row.length ≤ v.m.row.length ∧ v.sy.n ≤ v.n + 1 := by
 have h := md_n2 v
 unfold Pv.sy
 split
 · exact ⟨rfl, sync_len v.m, Nat.zero_le _, h⟩
 · rw [v.md_m]
   exact ⟨rfl, rfl, Nat.le_refl _, h⟩
theorem arm_sz (v : Pv) (n : Int) : (v.arm n).m = v.m ∧ (v.arm n).n = v.n := by
 unfold Pv.arm
 split <;> exact ⟨rfl, rfl⟩
theorem re_sz (v : Pv) (F : List (Int × Int)) : (v.re F).m.sz = v.m.sz ∧ (v.re F).m.dur.length = v.m.dur.length ∧ (v.re F).m.row = [] ∧ (v.re F).n = 0 := ⟨rfl, keep_len v.m F, rfl, rfl⟩
end Go.Proofs.YtminfegoldgjpaaGreatDoor
namespace Go.Proofs.YtminfegoldgjpaaGreatDoor
open Go.RowKit Gw
theorem rdG_ok (f c z : Nat) (m : Dm) (hok : m.ok) (hsz : m.sz = z) (hfc : f + c ≤ m.dur.length) (e : Nat) (he : e ≤ c * z) : ∀ (k a : Nat) (v : Pv) (acc : List UInt8), v.m = m → k = e - a → a ≤ e →
   (rdG f z v a e acc).2.1 = 0 → (rdG f z v a e acc).2.2 = acc ++ abs m z (f * z + a) (e - a) := by
 have hz : 0 < z := by have := hok.s1; omega
 intro k
 induction k using Nat.strongRecOn with
 | ind k ih =>
   intro a v acc hv hk hae h0
   by_cases h : a < e
   · have h1 := toC_gt h hz
     have h2 := toC_le z a e
     have h3 := nxt_gt h hz
     have h4 := nxt_le (z := z) hae
     have h5 : nxt z a e = a + (toC z a e - a % z) := rfl
     have hac : a / z < c := (Nat.div_lt_iff_lt_mul hz).2 (by omega)
     cases hg : v.go with
     | false =>
       rw [rdG_no h hz hg] at h0
       exact absurd h0 (by exact (by decide : (60 : Int) ≠ 0))
     | true =>
       rw [rdG_go h hz hg] at h0 ⊢
       have e0 := ih (e - nxt z a e) (by omega) (nxt z a e) v.md _ (by rw [v.md_m]; exact hv) rfl h4 h0
       rw [e0, hv, abs_chunk (by rw [hok.read (by omega), hsz]) h1 h2, place, List.append_assoc]
       have e1 : e - a = (toC z a e - a % z) + (e - nxt z a e) := by omega
       have e2 : f * z + nxt z a e = f * z + a + (toC z a e - a % z) := by omega
       rw [e2, e1, ← abs_add]
   · obtain rfl : a = e := by omega
     rw [rdG_end, Nat.sub_self]
     simp [abs]
theorem rdA_ok (f c : Nat) (v : Pv) (a k : Nat) (hok : v.m.ok) (hz : v.m.sz = 64) (hfc : f + c ≤ v.m.dur.length) (h : a + k ≤ c * 64) (h0 : (rdA f c 64 v a k).2.1 = 0) : (rdA f c 64 v a k).2.2 = abs v.m 64 (f * 64 + a) k := by
 unfold rdA at h0 ⊢
 rw [if_pos (hold_in h), Int.toNat_natCast, Int.toNat_natCast] at h0 ⊢
 have e := rdG_ok f c 64 v.m hok hz hfc (a + k) h _ a v [] rfl rfl (by omega) h0
 rw [e, List.nil_append, Nat.add_sub_cancel_left]
theorem rdA_m (f c z : Nat) (v : Pv) (a n : Int) : (rdA f c z v a n).1.m = v.m := (rdA_sz f c z v a n).1
theorem headG_ok (f c : Nat) (v : Pv) (hok : v.m.ok) (hz : v.m.sz = 64) (hfc : f + c ≤ v.m.dur.length) (hc : 1 ≤ c) : (headG f c 64 v).1.m = v.m ∧ ((headG f c 64 v).2.1 = 0 → (headG f c 64 v).2.2 = hdM v.m f c) := by
 have hm := rdA_m f c 64 v (0 : Nat) (64 : Nat)
 have hr := rdA_ok f c v 0 64 hok hz hfc (by omega)
 unfold headG
 by_cases h : (rdA f c 64 v 0 (64 : Nat)).2.1 = 0
 · have h' : (rdA f c 64 v 0 ((64 : Nat) : Int)).2.1 = 0 := h
   rw [if_pos h']
   exact ⟨hm, fun _ => by
     dsimp only
     have e := hr h
     rw [show rdA f c 64 v 0 ((64 : Nat) : Int) = rdA f c 64 v ((0 : Nat) : Int) ((64 : Nat) : Int) from rfl, e]
     rfl⟩
 · rw [if_neg h]
   exact ⟨hm, fun h2 => absurd h2 h⟩
theorem bodG_ok (c : Nat) (m : Dm) (hok : m.ok) (hz : m.sz = 64) (hc : 1 ≤ c) : ∀ (l : List (Nat × Int)) (v : Pv), v.m = m → (∀ x ∈ l, x.1 + c ≤ m.dur.length) →
   (bodG c 64 v (l.map fun x => (x.1, x.2, hdM m x.1 c))).v.m = m ∧ ((bodG c 64 v (l.map fun x => (x.1, x.2, hdM m x.1 c))).e = 0 →
     (bodG c 64 v (l.map fun x => (x.1, x.2, hdM m x.1 c))).h = (tellM m c l).1 ∧ (bodG c 64 v (l.map fun x => (x.1, x.2, hdM m x.1 c))).b = (tellM m c l).2.1 ∧ (bodG c 64 v (l.map fun x => (x.1, x.2, hdM m x.1 c))).i = (tellM m c l).2.2)
 | [], v, hv, _ => ⟨hv, fun _ => ⟨rfl, rfl, rfl⟩⟩
 | (f, i) :: rest, v, hv, hf => by
   have hfc : f + c ≤ m.dur.length := hf (f, i) List.mem_cons_self
   have hr := fun v hv => bodG_ok c m hok hz hc rest v hv (fun x hx => hf x (List.mem_cons_of_mem _ hx))
   have ho := seeH_or ((c : Int) * 64 - 64) (abs m 64 (f * 64) 64)
   rw [List.map_cons]
   unfold bodG tellM
   dsimp only
   by_cases hg : (hdM m f c).g = 0
   · have hG : goodM m f c = false := by unfold goodM; simp [hg]
     rw [if_pos hg, hG, if_neg (by decide)]
     exact hr v hv
   · have hm : mayH (hdM m f c) = true ∧ (hdM m f c).l ≤ (c : Int) * 64 - 64 := by
       rcases ho with h | h
       · exact absurd (show (hdM m f c).g = 0 by unfold hdM; rw [h]; rfl) hg
       · exact h
     obtain ⟨m1, m2, m3⟩ := of_decide_eq_true hm.1
     have hm2 := rdA_m f c 64 v ((64 : Nat) : Int) (hdM m f c).l
     have e := rdA_ok f c v 64 (hdM m f c).l.toNat (by rw [hv]; exact hok) (by rw [hv]; exact hz) (by rw [hv]; exact hfc) (by omega)
     rw [Int.toNat_of_nonneg m2, hv] at e
     rw [if_neg hg]
     by_cases h0 : (rdA f c 64 v ((64 : Nat) : Int) (hdM m f c).l).2.1 = 0
     · rw [if_pos h0, e h0]
       by_cases hs : crcS (abs m 64 (f * 64 + 64) (hdM m f c).l.toNat) = (hdM m f c).s
       · have hG : goodM m f c = true := decide_eq_true ⟨hg, hs⟩
         rw [if_pos hs, hG, if_pos rfl]
         exact ⟨hm2.trans hv, fun _ => ⟨rfl, rfl, rfl⟩⟩
       · have hG : goodM m f c = false := decide_eq_false fun h => hs h.2
         rw [if_neg hs, hG, if_neg (by decide)]
         exact hr _ (hm2.trans hv)
     · rw [if_neg h0]
       exact ⟨hm2.trans hv, fun h => absurd h h0⟩
theorem loadG_ok (f0 f1 c : Nat) (v : Pv) (hok : v.m.ok) (hz : v.m.sz = 64) (hc : 1 ≤ c) (h0 : f0 + c ≤ v.m.dur.length) (h1 : f1 + c ≤ v.m.dur.length) :
   (loadG f0 f1 c 64 v).v.m = v.m ∧ ((loadG f0 f1 c 64 v).e = 0 → (loadG f0 f1 c 64 v).h = (foundM v.m f0 f1 c).1 ∧ (loadG f0 f1 c 64 v).b = (foundM v.m f0 f1 c).2.1 ∧ (loadG f0 f1 c 64 v).i = (foundM v.m f0 f1 c).2.2) := by
 obtain ⟨a1, a2⟩ := headG_ok f0 c v hok hz h0 hc
 obtain ⟨b1, b2⟩ := headG_ok f1 c (headG f0 c 64 v).1 (by rw [a1]; exact hok) (by rw [a1]; exact hz) (by rw [a1]; exact h1) hc
 rw [a1] at b1 b2
 unfold loadG foundM ordM
 by_cases c0 : (headG f0 c 64 v).2.1 = 0
 · rw [if_pos c0]
   by_cases c1 : (headG f1 c 64 (headG f0 c 64 v).1).2.1 = 0
   · rw [if_pos c1, a2 c0, b2 c1]
     by_cases h : (hdM v.m f0 c).g < (hdM v.m f1 c).g
     · rw [if_pos h, if_pos h]
       exact bodG_ok c v.m hok hz hc [(f1, 1), (f0, 0)] _ b1 (by simp; omega)
     · rw [if_neg h, if_neg h]
       exact bodG_ok c v.m hok hz hc [(f0, 0), (f1, 1)] _ b1 (by simp; omega)
   · rw [if_neg c1]
     exact ⟨b1, fun h => absurd h c1⟩
 · rw [if_neg c0]
   exact ⟨a1, fun h => absurd h c0⟩
theorem wrG_off {f z : Nat} {v : Pv} {a e : Nat} {b : List UInt8} (hv : v.off = true) (h0 : (wrG f z v a e b).2 = 0) : (wrG f z v a e b).1 = v := by
 by_cases h : a < e ∧ 0 < z
 · have hg : v.go = false := by unfold Pv.go; rw [hv]; rfl
   have hc : (wrC v (f + a / z) (a % z) (toC z a e) z (b.take (toC z a e - a % z))).2 = 60 := by
     unfold wrC
     split
     · rw [if_neg (by rw [hg]; decide)]
     · rw [if_neg (by rw [hg]; decide)]
   rw [wrG_no h.1 h.2 (by rw [hc]; decide), hc] at h0
   exact absurd h0 (by decide)
 · rw [wrG, dif_neg h]
theorem e_zero {v : Pv} (h : v.e 0 = 0) : v.go = true := by
 unfold Pv.e at h
 split at h
 · assumption
 · exact absurd h (by decide)
theorem sy_go {v : Pv} (h : v.go = true) : v.sy.m = v.m.sync := by
 unfold Pv.sy
 rw [if_pos h]
 rfl
theorem putG_ok (f c : Nat) (v : Pv) (a : Nat) (b : List UInt8) (hv : v.ok) (hz : v.m.sz = 64) (hfc : f + c ≤ v.m.dur.length) (h : a + b.length ≤ c * 64) (h0 : (putG f c 64 v a b).2 = 0) :
   ∃ n n2, PutL f v.m n a b (putG f c 64 v a b).1.m n2 := by
 have hp : (wrA f c 64 v a b).2 = 0 ∧ (wrA f c 64 v a b).1.go = true ∧ (putG f c 64 v a b).1.m = (wrA f c 64 v a b).1.m.sync := by
   unfold putG at h0 ⊢
   by_cases c1 : (wrA f c 64 v a b).2 = 0
   · rw [if_pos c1] at h0 ⊢
     exact ⟨c1, e_zero h0, sy_go (e_zero h0)⟩
   · rw [if_neg c1] at h0
     exact absurd h0 c1
 obtain ⟨p1, p2, p3⟩ := hp
 rw [p3]
 have key : ∃ M, (wrA f c 64 v a b).1.m = M ∧ M.ok ∧ M.sz = 64 ∧ M.dur = v.m.dur ∧ ∀ i, ab M 64 i = if f * 64 + a ≤ i ∧ i < f * 64 + (a + b.length) then b.getD (i - (f * 64 + a)) 0 else ab v.m 64 i := by
   obtain ⟨m, off, ar, n⟩ := v
   have h1 := hv.a1
   dsimp only at h1 hz hfc
   cases off with
   | true =>
     have e1 : (wrA f c 64 ⟨m, true, ar, n⟩ a b).1 = ⟨m, true, ar, n⟩ := by
       have p1' := p1
       unfold wrA at p1' ⊢
       rw [if_pos (hold_in h)] at p1' ⊢
       exact wrG_off rfl p1'
     rw [e1] at p2
     exact absurd p2 (by unfold Pv.go; simp)
   | false =>
     by_cases ha : ar = -1
     · subst ha
       obtain ⟨m', n', q, hL⟩ := wrA_lv f c 64 m n a b hv.m hz hfc h
       have q' : wrA f c 64 ⟨m, false, -1, n⟩ a b = (Lv m' n', 0) := q
       rw [q']
       exact ⟨m', rfl, hL.ok, hL.sz, hL.dur, hL.ab⟩
     · obtain ⟨k, rfl⟩ := Int.eq_ofNat_of_zero_le (show 0 ≤ ar by omega)
       obtain ⟨v3, E, d, q, hD, _, hE⟩ := wrA_ar f c m k n a b hv.m hz hfc h
       have q' : wrA f c 64 ⟨m, false, (k : Nat), n⟩ a b = (v3, E) := q
       rw [q'] at p1 ⊢
       dsimp only at p1
       rcases hE with ⟨_, _, hd⟩ | ⟨hE, _, _⟩
       · refine ⟨v3.m, rfl, hD.ok, hD.sz, hD.dur, fun i => ?_⟩
         rw [hD.ab i]
         have hl := laidN_all hd
         unfold laidN at hl
         by_cases c1 : f * 64 + a ≤ i ∧ i < f * 64 + (a + b.length)
         · rw [if_pos c1, if_pos ⟨c1.1, c1.2, by omega⟩]
         · rw [if_neg c1, if_neg (fun h => c1 ⟨h.1, h.2.1⟩)]
       · rw [hE] at p1
         exact absurd p1 (by decide)
 obtain ⟨M, k1, k2, k3, k4, k5⟩ := key
 rw [k1]
 refine ⟨0, 0, sync_okR k2, k3, by rw [sync_len, k4], sync_row M, Nat.le_refl _, by omega, fun i hi => ?_⟩
 rw [sync_ab k2 (by omega) (by rw [k4]; exact hi)]
 exact k5 i
set_option maxHeartbeats 2000000 in
theorem saveG_ok (f0 f1 c : Nat) (v : Pv) (b : List UInt8) (cov : Nat) (hv : v.ok) (hz : v.m.sz = 64) (hc : 2 ≤ c) (h0 : f0 + c ≤ v.m.dur.length) (h1 : f1 + c ≤ v.m.dur.length) (hap : f0 + c ≤ f1 ∨ f1 + c ≤ f0)
   (hb : b.length + 64 ≤ c * 64) (hb2 : b.length ≤ 67108864) (hcov : cov < 18446744073709551616) (hg : (foundM v.m f0 f1 c).1.g + 1 < 18446744073709551616) (hlv : (loadG f0 f1 c 64 v).v.ok) (hpv : ∀ x, (putG x c 64 (loadG f0 f1 c 64 v).v (64 : Nat) b).1.ok)
   (he : (saveG f0 f1 c 64 v b cov).2.1 = 0) :
   (saveG f0 f1 c 64 v b cov).2.2 = nextH (foundM v.m f0 f1 c).1 cov b ∧ (saveG f0 f1 c 64 v b cov).1.m.ok ∧ (saveG f0 f1 c 64 v b cov).1.m.sz = 64 ∧ (saveG f0 f1 c 64 v b cov).1.m.dur.length = v.m.dur.length ∧ (saveG f0 f1 c 64 v b cov).1.m.row = [] ∧
     Hold (saveG f0 f1 c 64 v b cov).1.m (if (foundM v.m f0 f1 c).2.2 = 0 then f1 else f0) c (nextH (foundM v.m f0 f1 c).1 cov b) b ∧
     (∀ p k, (if (foundM v.m f0 f1 c).2.2 = 0 then f0 else f1) * 64 ≤ p → p + k ≤ ((if (foundM v.m f0 f1 c).2.2 = 0 then f0 else f1) + c) * 64 → abs (saveG f0 f1 c 64 v b cov).1.m 64 p k = abs v.m 64 p k) := by
 obtain ⟨l1, l2⟩ := loadG_ok f0 f1 c v hv.m hz (by omega) h0 h1
 have hs : saveG f0 f1 c 64 v b cov = saveL f0 f1 c 64 (loadG f0 f1 c 64 v) b cov := if_neg (by omega)
 rw [hs] at he ⊢
 obtain ⟨lo, hlo⟩ : ∃ l, l = loadG f0 f1 c 64 v := ⟨_, rfl⟩
 rw [← hlo] at l1 l2 hlv hpv he ⊢
 have le0 : lo.e = 0 := by
   by_cases h : lo.e = 0
   · exact h
   · unfold saveL at he
     rw [if_pos h] at he
     exact absurd he h
 obtain ⟨g1, g2, g3⟩ := l2 le0
 obtain ⟨H, hH⟩ : ∃ H, H = foundM v.m f0 f1 c := ⟨_, rfl⟩
 rw [← hH] at g1 g2 g3 hg ⊢
 obtain ⟨x, hx⟩ : ∃ x, x = if H.2.2 = 0 then f1 else f0 := ⟨_, rfl⟩
 obtain ⟨y, hy⟩ : ∃ y, y = if H.2.2 = 0 then f0 else f1 := ⟨_, rfl⟩
 have hxy : x + c ≤ v.m.dur.length ∧ y + c ≤ v.m.dur.length ∧ (x + c ≤ y ∨ y + c ≤ x) := by
   rw [hx, hy]
   split
   · exact ⟨h1, h0, hap.symm⟩
   · exact ⟨h0, h1, hap⟩
 obtain ⟨hx1, hy1, hxy⟩ := hxy
 obtain ⟨N, hN⟩ : ∃ N, N = nextH H.1 cov b := ⟨_, rfl⟩
 have hcr := crcS_lt b
 have hNw : N.wf := by
   rw [hN]
   unfold nextH
   exact ⟨by dsimp only; omega, hcov, hcr, by dsimp only; omega⟩
 have hNm : mayH N = true := by
   rw [hN]
   unfold nextH mayH
   exact decide_eq_true ⟨by dsimp only; omega, by dsimp only; omega, by dsimp only; omega⟩
 have hs2 : saveL f0 f1 c 64 lo b cov = saveP x c 64 lo.v N b := by
   unfold saveL
   rw [if_neg (by rw [le0]; simp), g1, g3, ← hN, if_neg (by rw [hNm]; decide), ← hx]
 rw [hs2] at he ⊢
 have p1 : (putG x c 64 lo.v (64 : Nat) b).2 = 0 := by
   by_cases h : (putG x c 64 lo.v (64 : Nat) b).2 = 0
   · exact h
   · unfold saveP at he
     rw [if_pos h] at he
     exact absurd he h
 have hs3 : saveP x c 64 lo.v N b = saveQ x c 64 (putG x c 64 lo.v (64 : Nat) b).1 N := by
   unfold saveP
   exact if_neg (by rw [p1]; simp)
 rw [hs3] at he ⊢
 obtain ⟨n, n2, P1⟩ := putG_ok x c lo.v 64 b hlv (by rw [l1]; exact hz) (by rw [l1]; exact hx1) (by omega) p1
 obtain ⟨v3, hv3⟩ : ∃ v3, v3 = (putG x c 64 lo.v (64 : Nat) b).1 := ⟨_, rfl⟩
 have hv3k : v3.ok := by rw [hv3]; exact hpv x
 rw [← hv3] at he P1 ⊢
 rw [l1] at P1
 have p2 : (putG x c 64 v3 0 (secH 64 N)).2 = 0 := by
   by_cases h : (putG x c 64 v3 0 (secH 64 N)).2 = 0
   · exact h
   · unfold saveQ at he
     rw [if_pos h] at he
     exact absurd he h
 have hs4 : saveQ x c 64 v3 N = ((putG x c 64 v3 0 (secH 64 N)).1, 0, N) := by
   unfold saveQ
   exact if_neg (by rw [p2]; simp)
 rw [hs4]
 obtain ⟨n3, n4, P2'⟩ := putG_ok x c v3 0 (secH 64 N) hv3k P1.sz (by rw [P1.dur]; exact hx1) (by rw [secH_len]; omega) p2
 have P2 : PutL x v3.m n3 0 (secH 64 N) (putG x c 64 v3 0 (secH 64 N)).1.m n4 := P2'
 clear P2'
 dsimp only
 rw [← hx, ← hy, ← hN]
 refine ⟨rfl, P2.ok, P2.sz, by rw [P2.dur, P1.dur], P2.row, ⟨hNw, hNm, by rw [hN]; rfl, by rw [hN]; rfl, hb, ?_, ?_⟩, fun p k hp hk => ?_⟩
 · have := P2.abs_in (by rw [secH_len, P1.dur]; omega)
   rw [secH_len] at this
   exact this
 · rw [P2.abs_out (by rw [P1.dur]; omega) (.inr (by rw [secH_len]; omega))]
   exact P1.abs_in (by omega)
 · rw [P2.abs_out (by rw [P1.dur]; omega) (by rw [secH_len]; omega), P1.abs_out (by omega) (by omega)]
end Go.Proofs.YtminfegoldgjpaaGreatDoor
namespace Go.Proofs.YtminfegoldgjpaaGreatDoor
open Go.RowKit Gw
theorem tellM_no {m : Dm} {c f : Nat} {i : Int} {rest : List (Nat × Int)} (h : goodM m f c = false) : tellM m c ((f, i) :: rest) = tellM m c rest := by
 conv => lhs; unfold tellM
 rw [h, if_neg (by decide)]
theorem found_or (m : Dm) (f0 f1 c : Nat) : (foundM m f0 f1 c = (hdM m f0 c, bodM m f0 c, 0) ∧ goodM m f0 c = true) ∨ (foundM m f0 f1 c = (hdM m f1 c, bodM m f1 c, 1) ∧ goodM m f1 c = true) ∨ (foundM m f0 f1 c = (hd0, [], -1) ∧ goodM m f0 c = false ∧ goodM m f1 c = false) := by
 unfold foundM ordM
 split
 · cases g1 : goodM m f1 c with
   | true => exact .inr (.inl ⟨tellM_1 g1, rfl⟩)
   | false =>
     rw [tellM_no g1]
     cases g0 : goodM m f0 c with
     | true => exact .inl ⟨tellM_1 g0, rfl⟩
     | false =>
       rw [tellM_no g0]
       exact .inr (.inr ⟨rfl, rfl, rfl⟩)
 · cases g0 : goodM m f0 c with
   | true => exact .inl ⟨tellM_1 g0, rfl⟩
   | false =>
     rw [tellM_no g0]
     cases g1 : goodM m f1 c with
     | true => exact .inr (.inl ⟨tellM_1 g1, rfl⟩)
     | false =>
       rw [tellM_no g1]
       exact .inr (.inr ⟨rfl, rfl, rfl⟩)
theorem found_next {m m2 : Dm} {f0 f1 c : Nat} {N : Hd} {b : List UInt8} (hN : N.g = (foundM m f0 f1 c).1.g + 1) (hx : Hold m2 (if (foundM m f0 f1 c).2.2 = 0 then f1 else f0) c N b)
   (hy : hdM m2 (if (foundM m f0 f1 c).2.2 = 0 then f0 else f1) c = hdM m (if (foundM m f0 f1 c).2.2 = 0 then f0 else f1) c ∧ goodM m2 (if (foundM m f0 f1 c).2.2 = 0 then f0 else f1) c = goodM m (if (foundM m f0 f1 c).2.2 = 0 then f0 else f1) c) :
   foundM m2 f0 f1 c = (N, b, if (foundM m f0 f1 c).2.2 = 0 then 1 else 0) := by
 rcases found_or m f0 f1 c with ⟨e, g⟩ | ⟨e, g⟩ | ⟨e, g0, g1⟩
 · rw [e] at hN hx hy ⊢
   dsimp only at hN hx hy ⊢
   rw [if_pos rfl] at hx hy ⊢
   obtain ⟨a1, a2, a3⟩ := hx.hd
   unfold foundM ordM
   rw [if_pos (by rw [hy.1, a1, hN]; exact Nat.lt_succ_self _), tellM_1 a3, a1, a2]
 · rw [e] at hN hx hy ⊢
   dsimp only at hN hx hy ⊢
   rw [if_neg (by decide)] at hx hy ⊢
   obtain ⟨a1, a2, a3⟩ := hx.hd
   unfold foundM ordM
   rw [if_neg (by rw [hy.1, a1, hN]; omega), tellM_1 a3, a1, a2]
 · rw [e] at hN hx hy ⊢
   dsimp only at hN hx hy ⊢
   rw [if_neg (by decide)] at hx hy ⊢
   obtain ⟨a1, a2, a3⟩ := hx.hd
   unfold foundM ordM
   split
   · rw [tellM_no (by rw [hy.2]; exact g1), tellM_1 a3, a1, a2]
   · rw [tellM_1 a3, a1, a2]
theorem save_found {f0 f1 c : Nat} {v : Pv} {b : List UInt8} {cov : Nat} (hv : v.ok) (hz : v.m.sz = 64) (hc : 2 ≤ c) (h0 : f0 + c ≤ v.m.dur.length) (h1 : f1 + c ≤ v.m.dur.length) (hap : f0 + c ≤ f1 ∨ f1 + c ≤ f0)
   (hb : b.length + 64 ≤ c * 64) (hb2 : b.length ≤ 67108864) (hcov : cov < 18446744073709551616) (hg : (foundM v.m f0 f1 c).1.g + 1 < 18446744073709551616) (hlv : (loadG f0 f1 c 64 v).v.ok) (hpv : ∀ x, (putG x c 64 (loadG f0 f1 c 64 v).v (64 : Nat) b).1.ok)
   (he : (saveG f0 f1 c 64 v b cov).2.1 = 0) (F : List (Int × Int)) :
   (saveG f0 f1 c 64 v b cov).1.m.crash F = (saveG f0 f1 c 64 v b cov).1.m ∧ (foundM (saveG f0 f1 c 64 v b cov).1.m f0 f1 c).1 = (saveG f0 f1 c 64 v b cov).2.2 ∧ (foundM (saveG f0 f1 c 64 v b cov).1.m f0 f1 c).2.1 = b := by
 obtain ⟨q1, q2, q3, q4, q5, q6, q7⟩ := saveG_ok f0 f1 c v b cov hv hz hc h0 h1 hap hb hb2 hcov hg hlv hpv he
 have hs := same_slot q7 (by omega)
 have hN : (nextH (foundM v.m f0 f1 c).1 cov b).g = (foundM v.m f0 f1 c).1.g + 1 := Nat.mod_eq_of_lt hg
 have hf := found_next hN q6 ⟨hs.1, hs.2.2⟩
 exact ⟨crash_none q5 F, by rw [hf, q1], by rw [hf]⟩
end Go.Proofs.YtminfegoldgjpaaGreatDoor
namespace Go.Proofs.YtminfegoldgjpaaGreatDoor
open Go.RowKit Gw
structure InvS (Q : List UInt8 → Prop) (m : Dm) (s : Nat) : Prop where
 d : Q (m.dur.getD s [])
 r : ∀ x ∈ m.row, x.1 = s → Q x.2
section
variable {Q : List UInt8 → Prop} {m : Dm} {s : Nat}
theorem foldD_inv {g : Nat → Nat} (hQ : ∀ k a b, Q a → Q b → Q (tear k a b)) : ∀ (l : List ((Nat × List UInt8) × Nat)) (d : List (List UInt8)), Q (d.getD s []) → (∀ x ∈ l, x.1.1 = s → Q x.1.2) → Q ((l.foldl (stepD g) d).getD s [])
 | [], d, h, _ => h
 | x :: l, d, h, hx => by
   rw [List.foldl_cons]
   refine foldD_inv hQ l _ ?_ (fun y hy => hx y (List.mem_cons_of_mem _ hy))
   unfold stepD
   rw [List.getD_eq_getElem?_getD, List.getElem?_set]
   by_cases e : x.1.1 = s
   · rw [if_pos e]
     split
     · exact hQ _ _ _ (hx x List.mem_cons_self e) (by rw [e]; exact h)
     · rw [List.getD_eq_getElem?_getD, List.getElem?_eq_none (by omega)] at h
       exact h
   · rw [if_neg e, ← List.getD_eq_getElem?_getD]
     exact h
theorem InvS.settle (h : InvS Q m s) (hQ : ∀ k a b, Q a → Q b → Q (tear k a b)) (g : Nat → Nat) : InvS Q (m.settle g) s :=
 ⟨foldD_inv hQ _ _ h.d (fun x hx e => h.r x.1 (List.fst_mem_of_mem_zipIdx hx) e), fun x hx => by cases hx⟩
theorem InvS.write (h : InvS Q m s) {S : Nat} {b : List UInt8} (hb : S = s → Q b) : InvS Q (m.write S b) s :=
 ⟨h.d, fun x hx e => (List.mem_append.1 hx).elim (fun h1 => h.r x h1 e) fun h1 => by
   have e1 : x = (S, b) := by simpa using h1
   subst e1
   exact hb e⟩
theorem InvS.read (h : InvS Q m s) : Q (m.read s) := by
 unfold Dm.read
 split
 · rename_i x hx
   refine h.r x (List.mem_reverse.1 (List.mem_of_find?_eq_some hx)) ?_
   have := List.find?_some hx
   simpa using this
 · exact h.d
theorem InvS.wrm (h : InvS Q m s) {S : Nat} {b : List UInt8} (hb : S = s → Q b) : InvS Q (wrM m S b) s := by
 unfold wrM
 split
 · exact h.write hb
 · exact h
end
section
variable {Q : List UInt8 → Prop} {v : Pv} {s f c : Nat}
theorem inv_wr (h : InvS Q v.m s) {S : Nat} {b : List UInt8} (hb : S = s → Q b) : InvS Q (v.wr (S : Nat) b).m s := by
 unfold Pv.wr
 split
 · exact h.wrm hb
 · rw [v.md_m]
   exact h
theorem inv_sy (h : InvS Q v.m s) (hQ : ∀ k a b, Q a → Q b → Q (tear k a b)) : InvS Q v.sy.m s := by
 unfold Pv.sy
 split
 · exact h.settle hQ _
 · rw [v.md_m]
   exact h
theorem inv_re (h : InvS Q v.m s) (hQ : ∀ k a b, Q a → Q b → Q (tear k a b)) (F : List (Int × Int)) : InvS Q (v.re F).m s := h.settle hQ _
theorem wrC_far {S M T z : Nat} {x : List UInt8} (h : InvS Q v.m s) (hS : S ≠ s) : InvS Q (wrC v S M T z x).1.m s := by
 unfold wrC
 split
 · split
   · split
     · exact inv_wr (by rw [v.md_m]; exact h) (fun e => absurd e hS)
     · rw [v.md.md_m, v.md_m]
       exact h
   · rw [v.md_m]
     exact h
 · split
   · exact inv_wr h (fun e => absurd e hS)
   · rw [v.md_m]
     exact h
theorem wrG_far (f c z e s : Nat) (he : e ≤ c * z) : ∀ (k a : Nat) (v : Pv) (b : List UInt8), k = e - a → InvS Q v.m s → (s < f + a / z ∨ f + c ≤ s) → InvS Q (wrG f z v a e b).1.m s := by
 intro k
 induction k using Nat.strongRecOn with
 | ind k ih =>
   intro a v b hk h hs
   by_cases hh : a < e ∧ 0 < z
   · have hac : a / z < c := (Nat.div_lt_iff_lt_mul hh.2).2 (by omega)
     have hC : InvS Q (wrC v (f + a / z) (a % z) (toC z a e) z (b.take (toC z a e - a % z))).1.m s := wrC_far h (by omega)
     by_cases h0 : (wrC v (f + a / z) (a % z) (toC z a e) z (b.take (toC z a e - a % z))).2 = 0
     · rw [wrG_ok hh.1 hh.2 h0]
       have h3 := nxt_gt hh.1 hh.2
       have h4 := nxt_le (z := z) (Nat.le_of_lt hh.1)
       have h5 : a / z ≤ nxt z a e / z := Nat.div_le_div_right (Nat.le_of_lt h3)
       exact ih (e - nxt z a e) (by omega) (nxt z a e) _ _ rfl hC (by omega)
     · rw [wrG_no hh.1 hh.2 h0]
       exact hC
   · rw [wrG, dif_neg hh]
     exact h
theorem putG_far {a : Nat} {b : List UInt8} (h : InvS Q v.m s) (hQ : ∀ k a b, Q a → Q b → Q (tear k a b)) (hs : s < f + a / 64 ∨ f + c ≤ s) (hb : a + b.length ≤ c * 64) : InvS Q (putG f c 64 v a b).1.m s := by
 have hw : InvS Q (wrA f c 64 v a b).1.m s := by
   unfold wrA
   split
   · rw [Int.toNat_natCast]
     exact wrG_far f c 64 _ s hb _ a v b rfl h hs
   · exact h
 unfold putG
 split
 · exact inv_sy hw hQ
 · exact hw
theorem putG_one {b : List UInt8} (h : InvS Q v.m f) (hQ : ∀ k a b, Q a → Q b → Q (tear k a b)) (hb : b.length = 64) (hc : 1 ≤ c) (hq : Q b) : InvS Q (putG f c 64 v (0 : Nat) b).1.m f := by
 have t : toC 64 0 64 = 64 := rfl
 have hC : InvS Q (wrC v (f + 0 / 64) (0 % 64) (toC 64 0 64) 64 (b.take (toC 64 0 64 - 0 % 64))).1.m f := by
   unfold wrC
   rw [t, if_neg (by omega)]
   split
   · exact inv_wr h (fun _ => by rw [List.take_of_length_le (by omega)]; exact hq)
   · rw [v.md_m]
     exact h
 have hG : InvS Q (wrG f 64 v 0 64 b).1.m f := by
   by_cases h0 : (wrC v (f + 0 / 64) (0 % 64) (toC 64 0 64) 64 (b.take (toC 64 0 64 - 0 % 64))).2 = 0
   · rw [wrG_ok (by omega) (by omega) h0, show nxt 64 0 64 = 64 from rfl, wrG_end]
     exact hC
   · rw [wrG_no (by omega) (by omega) h0]
     exact hC
 have hw : InvS Q (wrA f c 64 v (0 : Nat) b).1.m f := by
   unfold wrA
   split
   · rw [Int.toNat_natCast, hb]
     exact hG
   · exact h
 unfold putG
 split
 · exact inv_sy hw hQ
 · exact hw
end
def SmS (B : Nat) (l : List UInt8) : Prop := (l.getD 4 0).toNat ≤ B ∧ ∀ j, 5 ≤ j → j < 12 → l.getD j 0 = 0
theorem tear_get (k : Nat) (a b : List UInt8) (j : Nat) (ha : a.length = 64) (hb : b.length = 64) : (tear k a b).getD j 0 = a.getD j 0 ∨ (tear k a b).getD j 0 = b.getD j 0 := by
 unfold tear
 simp only [List.getD_eq_getElem?_getD]
 by_cases c1 : j < (a.take k).length
 · left
   rw [List.getElem?_append_left c1, List.getElem?_take_of_lt (by rw [List.length_take] at c1; omega)]
 · right
   rw [List.getElem?_append_right (by omega), List.getElem?_drop]
   rw [List.length_take, ha] at c1 ⊢
   by_cases c2 : k ≤ 64
   · rw [Nat.min_eq_left c2, show k + (j - k) = j by omega]
   · rw [List.getElem?_eq_none (by omega), List.getElem?_eq_none (by omega)]
def SmQ (B : Nat) (l : List UInt8) : Prop := l.length = 64 ∧ SmS B l
theorem SmQ.tear {B : Nat} (k : Nat) (a b : List UInt8) (ha : SmQ B a) (hb : SmQ B b) : SmQ B (tear k a b) := by
 refine ⟨tear_len ha.1 hb.1, ?_, fun j h1 h2 => ?_⟩
 · rcases tear_get k a b 4 ha.1 hb.1 with h | h
   · rw [h]; exact ha.2.1
   · rw [h]; exact hb.2.1
 · rcases tear_get k a b j ha.1 hb.1 with h | h
   · rw [h]; exact ha.2.2 j h1 h2
   · rw [h]; exact hb.2.2 j h1 h2
theorem SmQ.mono {B C : Nat} {l : List UInt8} (h : SmQ B l) (hBC : B ≤ C) : SmQ C l := ⟨h.1, Nat.le_trans h.2.1 hBC, h.2.2⟩
theorem InvS.mono {B C : Nat} {m : Dm} {s : Nat} (h : InvS (SmQ B) m s) (hBC : B ≤ C) : InvS (SmQ C) m s := ⟨h.d.mono hBC, fun x hx e => (h.r x hx e).mono hBC⟩
theorem SmQ.zeros (B : Nat) : SmQ B (Go.Proofs.YtminfegoldgjpaaGreatDoor.zeros 64) := by
 have hz : ∀ j, j < 64 → (Go.Proofs.YtminfegoldgjpaaGreatDoor.zeros 64).getD j 0 = 0 := fun j hj => by
   unfold Go.Proofs.YtminfegoldgjpaaGreatDoor.zeros
   rw [List.getD_eq_getElem?_getD, List.getElem?_replicate, if_pos hj]
   rfl
 exact ⟨by simp [Go.Proofs.YtminfegoldgjpaaGreatDoor.zeros], by rw [hz 4 (by omega)]; exact Nat.zero_le _, fun j _ h2 => hz j (by omega)⟩
theorem SmQ.sec {B : Nat} {h : Hd} (hg : h.g ≤ B) (hB : B < 256) : SmQ B (secH 64 h) := by
 have hl : ∀ j, j < 8 → (secH 64 h).getD (4 + j) 0 = UInt8.ofNat (h.g / 256 ^ j) := fun j hj => by
   unfold secH hdr hdB
   rw [List.getD_eq_getElem?_getD]
   simp only [List.append_assoc]
   rw [List.getElem?_append_right (by show 4 ≤ 4 + j; omega), show 4 + j - gang.length = j from by show 4 + j - 4 = j; omega, List.getElem?_append_left (by rw [low_length]; exact hj)]
   unfold low
   rw [List.getElem?_map, List.getElem?_range hj]
   rfl
 refine ⟨secH_len, ?_, fun j h1 h2 => ?_⟩
 · have e := hl 0 (by omega)
   rw [Nat.add_zero] at e
   rw [e, Nat.pow_zero, Nat.div_one, UInt8.toNat_ofNat']
   omega
 · have e := hl (j - 4) (by omega)
   rw [show 4 + (j - 4) = j by omega] at e
   rw [e]
   have h256 : 256 ^ 1 ≤ 256 ^ (j - 4) := Nat.pow_le_pow_right (by omega) (by omega)
   rw [Nat.div_eq_of_lt (by omega)]
   rfl
theorem SmQ.gen {B : Nat} {l : List UInt8} (h : SmQ B l) : nb l 4 8 ≤ B := by
 obtain ⟨hl, h4, h5⟩ := h
 have e : (l.drop 4).take 8 = [l.getD 4 0, 0, 0, 0, 0, 0, 0, 0] := by
   refine List.ext_getElem? fun j => ?_
   by_cases hj : j < 8
   · rw [List.getElem?_take_of_lt hj, List.getElem?_drop]
     have g : l[4 + j]? = some (l.getD (4 + j) 0) := by rw [List.getD_eq_getElem?_getD, List.getElem?_eq_getElem (by omega)]; rfl
     rw [g]
     obtain rfl | rfl | rfl | rfl | rfl | rfl | rfl | rfl : j = 0 ∨ j = 1 ∨ j = 2 ∨ j = 3 ∨ j = 4 ∨ j = 5 ∨ j = 6 ∨ j = 7 := by omega
     · rfl
     all_goals
       rw [h5 _ (by omega) (by omega)]
       rfl
   · rw [List.getElem?_eq_none (by rw [List.length_take, List.length_drop]; omega), List.getElem?_eq_none (by simp; omega)]
 unfold nb
 rw [e]
 have : val [l.getD 4 0, 0, 0, 0, 0, 0, 0, 0] = (l.getD 4 0).toNat := by
   simp only [val_cons, val_nil]
   have z : ((0 : UInt8).toNat : Nat) = 0 := rfl
   rw [z]
   omega
 rw [this]
 exact h4
theorem abs_sec {m : Dm} {f : Nat} (hok : m.ok) (hz : m.sz = 64) (hf : f < m.dur.length) : abs m 64 (f * 64) 64 = m.read f := by
 have hl := hok.read hf
 rw [hz] at hl
 refine List.ext_getElem (by rw [abs_len, hl]) fun j j1 j2 => ?_
 rw [abs_len] at j1
 rw [abs_get]
 unfold ab
 rw [show (f * 64 + j) / 64 = f by omega, show (f * 64 + j) % 64 = j by omega, List.getD_eq_getElem?_getD, List.getElem?_eq_getElem (by omega)]
 rfl
theorem hd_small {B : Nat} {m : Dm} {f c : Nat} (hok : m.ok) (hz : m.sz = 64) (hf : f < m.dur.length) (h : InvS (SmQ B) m f) : (hdM m f c).g ≤ B := by
 have hq := h.read
 unfold hdM
 rw [abs_sec hok hz hf]
 unfold seeH
 split
 · rename_i hh
   unfold getH
   rw [if_pos hh.1]
   exact hq.gen
 · exact Nat.zero_le _
theorem found_small {B : Nat} {m : Dm} {f0 f1 c : Nat} (hok : m.ok) (hz : m.sz = 64) (h0 : f0 < m.dur.length) (h1 : f1 < m.dur.length) (i0 : InvS (SmQ B) m f0) (i1 : InvS (SmQ B) m f1) : (foundM m f0 f1 c).1.g ≤ B := by
 rcases found_or m f0 f1 c with ⟨e, _⟩ | ⟨e, _⟩ | ⟨e, _⟩
 · rw [e]; exact hd_small hok hz h0 i0
 · rw [e]; exact hd_small hok hz h1 i1
 · rw [e]; exact Nat.zero_le _
theorem saveG_inv {B f0 f1 c : Nat} {v : Pv} {b : List UInt8} {cov : Nat} (hok : v.m.ok) (hz : v.m.sz = 64) (hc : 2 ≤ c) (h0 : f0 + c ≤ v.m.dur.length) (h1 : f1 + c ≤ v.m.dur.length) (hap : f0 + c ≤ f1 ∨ f1 + c ≤ f0) (hb : b.length + 64 ≤ c * 64) (hB : B < 255)
   (i0 : InvS (SmQ B) v.m f0) (i1 : InvS (SmQ B) v.m f1) : InvS (SmQ (B + 1)) (saveG f0 f1 c 64 v b cov).1.m f0 ∧ InvS (SmQ (B + 1)) (saveG f0 f1 c 64 v b cov).1.m f1 := by
 have hQ := SmQ.tear (B := B + 1)
 obtain ⟨l1, l2⟩ := loadG_ok f0 f1 c v hok hz (by omega) h0 h1
 have hfs := found_small (c := c) hok hz (by omega) (by omega) i0 i1
 have j0 := i0.mono (Nat.le_succ B)
 have j1 := i1.mono (Nat.le_succ B)
 have hs : saveG f0 f1 c 64 v b cov = saveL f0 f1 c 64 (loadG f0 f1 c 64 v) b cov := if_neg (by omega)
 rw [hs]
 obtain ⟨lo, hlo⟩ : ∃ l, l = loadG f0 f1 c 64 v := ⟨_, rfl⟩
 rw [← hlo] at l1 l2 ⊢
 rw [← l1] at j0 j1
 unfold saveL
 by_cases le0 : lo.e = 0
 · obtain ⟨g1, _, _⟩ := l2 le0
   rw [if_neg (by rw [le0]; simp)]
   split
   · exact ⟨j0, j1⟩
   · have hNg : (nextH lo.h cov b).g ≤ B + 1 := by
       unfold nextH
       rw [g1]
       dsimp only
       rw [Nat.mod_eq_of_lt (by omega)]
       omega
     obtain ⟨N, hN⟩ : ∃ N, N = nextH lo.h cov b := ⟨_, rfl⟩
     rw [← hN] at hNg ⊢
     have key : ∀ x s, (x = f0 ∨ x = f1) → (s = f0 ∨ s = f1) → InvS (SmQ (B + 1)) lo.v.m s → InvS (SmQ (B + 1)) (saveP x c 64 lo.v N b).1.m s := fun x s hx hsx hi => by
       have p1 : InvS (SmQ (B + 1)) (putG x c 64 lo.v (64 : Nat) b).1.m s := putG_far hi hQ (by rcases hx with rfl | rfl <;> rcases hsx with rfl | rfl <;> omega) (by omega)
       have p2 : InvS (SmQ (B + 1)) (putG x c 64 (putG x c 64 lo.v (64 : Nat) b).1 (0 : Nat) (secH 64 N)).1.m s := by
         by_cases e : x = s
         · subst e
           exact putG_one p1 hQ secH_len (by omega) (SmQ.sec hNg (by omega))
         · exact putG_far p1 hQ (by rcases hx with rfl | rfl <;> rcases hsx with rfl | rfl <;> omega) (by rw [secH_len]; omega)
       unfold saveP
       split
       · exact p1
       · unfold saveQ
         split
         · exact p2
         · exact p2
     have hx : (if lo.i = 0 then f1 else f0) = f0 ∨ (if lo.i = 0 then f1 else f0) = f1 := by split <;> simp
     exact ⟨key _ f0 hx (.inl rfl) j0, key _ f1 hx (.inr rfl) j1⟩
 · rw [if_pos le0]
   exact ⟨j0, j1⟩
end Go.Proofs.YtminfegoldgjpaaGreatDoor
namespace Go.Proofs.YtminfegoldgjpaaGreatDoor
open Go.RowKit Gw
theorem e_or (v : Pv) : v.e 0 = 0 ∨ v.e 0 = 60 := by
 unfold Pv.e
 split
 · exact .inl rfl
 · exact .inr rfl
theorem wr_okv {v : Pv} (h : v.ok) (a : Int) (l : List UInt8) : (v.wr a l).ok := by
 unfold Pv.wr
 split
 · exact Pv.at_ok (Pv.md_ok h) (wrM_ok h.m a l)
 · exact Pv.md_ok h
theorem sy_okv {v : Pv} (h : v.ok) : v.sy.ok := by
 unfold Pv.sy
 split
 · exact Pv.at_ok (Pv.md_ok h) (sync_okR h.m)
 · exact Pv.md_ok h
theorem rdG_st (f z : Nat) : ∀ (k a e : Nat) (v : Pv) (acc : List UInt8), k = e - a → v.ok → (rdG f z v a e acc).1.ok ∧ ((rdG f z v a e acc).2.1 = 0 ∨ (rdG f z v a e acc).2.1 = 60) := by
 intro k
 induction k using Nat.strongRecOn with
 | ind k ih =>
   intro a e v acc hk hv
   by_cases h : a < e ∧ 0 < z
   · cases hg : v.go with
     | true =>
       rw [rdG_go h.1 h.2 hg]
       have h3 := nxt_gt h.1 h.2
       exact ih (e - nxt z a e) (by omega) (nxt z a e) e v.md _ rfl (Pv.md_ok hv)
     | false =>
       rw [rdG_no h.1 h.2 hg]
       exact ⟨Pv.md_ok hv, .inr rfl⟩
   · rw [rdG, dif_neg h]
     exact ⟨hv, .inl rfl⟩
theorem wrC_st {v : Pv} (hv : v.ok) (S M T z : Nat) (x : List UInt8) : (wrC v S M T z x).1.ok ∧ ((wrC v S M T z x).2 = 0 ∨ (wrC v S M T z x).2 = 60) := by
 unfold wrC
 split
 · split
   · split
     · exact ⟨wr_okv (Pv.md_ok hv) _ _, .inl rfl⟩
     · exact ⟨Pv.md_ok (Pv.md_ok hv), .inr rfl⟩
   · exact ⟨Pv.md_ok hv, .inr rfl⟩
 · split
   · exact ⟨wr_okv hv _ _, .inl rfl⟩
   · exact ⟨Pv.md_ok hv, .inr rfl⟩
theorem wrG_st (f z : Nat) : ∀ (k a e : Nat) (v : Pv) (b : List UInt8), k = e - a → v.ok → (wrG f z v a e b).1.ok ∧ ((wrG f z v a e b).2 = 0 ∨ (wrG f z v a e b).2 = 60) := by
 intro k
 induction k using Nat.strongRecOn with
 | ind k ih =>
   intro a e v b hk hv
   by_cases h : a < e ∧ 0 < z
   · have hC := wrC_st hv (f + a / z) (a % z) (toC z a e) z (b.take (toC z a e - a % z))
     by_cases h0 : (wrC v (f + a / z) (a % z) (toC z a e) z (b.take (toC z a e - a % z))).2 = 0
     · rw [wrG_ok h.1 h.2 h0]
       have h3 := nxt_gt h.1 h.2
       exact ih (e - nxt z a e) (by omega) (nxt z a e) e _ _ rfl hC.1
     · rw [wrG_no h.1 h.2 h0]
       exact hC
   · rw [wrG, dif_neg h]
     exact ⟨hv, .inl rfl⟩
theorem rdA_st (f c z : Nat) (v : Pv) (a n : Int) (hv : v.ok) (hh : hold (c * z) a n = true) : (rdA f c z v a n).1.ok ∧ ((rdA f c z v a n).2.1 = 0 ∨ (rdA f c z v a n).2.1 = 60) := by
 unfold rdA
 rw [if_pos hh]
 exact rdG_st f z _ _ _ v [] rfl hv
theorem putG_st (f c z : Nat) (v : Pv) (a : Int) (b : List UInt8) (hv : v.ok) (hh : hold (c * z) a b.length = true) : (putG f c z v a b).1.ok ∧ ((putG f c z v a b).2 = 0 ∨ (putG f c z v a b).2 = 60) := by
 have hw : (wrA f c z v a b).1.ok ∧ ((wrA f c z v a b).2 = 0 ∨ (wrA f c z v a b).2 = 60) := by
   unfold wrA
   rw [if_pos hh]
   exact wrG_st f z _ _ _ v b rfl hv
 unfold putG
 split
 · exact ⟨sy_okv hw.1, e_or _⟩
 · exact hw
theorem headG_st (f c : Nat) (v : Pv) (hv : v.ok) (hc : 1 ≤ c) : (headG f c 64 v).1.ok ∧ ((headG f c 64 v).2.1 = 0 ∨ (headG f c 64 v).2.1 = 60) := by
 have hr := rdA_st f c 64 v ((0 : Nat) : Int) ((64 : Nat) : Int) hv (hold_in (by omega))
 unfold headG
 split
 · exact ⟨hr.1, .inl rfl⟩
 · exact hr
theorem seeH_lim {lim : Int} {b : List UInt8} (h : (seeH lim b).g ≠ 0) : 0 ≤ (seeH lim b).l ∧ (seeH lim b).l ≤ lim := by
 rcases seeH_or lim b with e | ⟨e1, e2⟩
 · exact absurd (by rw [e]; rfl) h
 · obtain ⟨_, h2, _⟩ := of_decide_eq_true e1
   exact ⟨h2, e2⟩
theorem bodG_st (c : Nat) (hc : 1 ≤ c) : ∀ (l : List (Nat × Int × Hd)) (v : Pv), v.ok → (∀ x ∈ l, x.2.2.g ≠ 0 → 0 ≤ x.2.2.l ∧ x.2.2.l ≤ (c : Int) * 64 - 64) → (bodG c 64 v l).v.ok ∧ ((bodG c 64 v l).e = 0 ∨ (bodG c 64 v l).e = 60)
 | [], v, hv, _ => ⟨hv, .inl rfl⟩
 | (f, i, h) :: rest, v, hv, hl => by
   have hr := fun v hv => bodG_st c hc rest v hv (fun x hx => hl x (List.mem_cons_of_mem _ hx))
   unfold bodG
   split
   · exact hr v hv
   · rename_i hg
     obtain ⟨m2, m3⟩ := hl (f, i, h) List.mem_cons_self hg
     dsimp only at m2 m3
     have hh : hold (c * 64) ((64 : Nat) : Int) h.l = true := decide_eq_true ⟨by omega, m2, by omega, by omega⟩
     have hs := rdA_st f c 64 v ((64 : Nat) : Int) h.l hv hh
     split
     · split
       · exact ⟨hs.1, .inl rfl⟩
       · exact hr _ hs.1
     · exact hs
theorem headG_lim (f c : Nat) (v : Pv) (h : (headG f c 64 v).2.2.g ≠ 0) : 0 ≤ (headG f c 64 v).2.2.l ∧ (headG f c 64 v).2.2.l ≤ (c : Int) * 64 - 64 := by
 unfold headG at h ⊢
 split at h
 · rename_i h0
   rw [if_pos h0]
   exact seeH_lim h
 · exact absurd rfl h
theorem loadG_st (f0 f1 c : Nat) (v : Pv) (hv : v.ok) (hc : 1 ≤ c) : (loadG f0 f1 c 64 v).v.ok ∧ ((loadG f0 f1 c 64 v).e = 0 ∨ (loadG f0 f1 c 64 v).e = 60) := by
 have a := headG_st f0 c v hv hc
 have b := headG_st f1 c (headG f0 c 64 v).1 a.1 hc
 have la := headG_lim f0 c v
 have lb := headG_lim f1 c (headG f0 c 64 v).1
 unfold loadG
 split
 · split
   · split
     · refine bodG_st c hc _ _ b.1 fun x hx hg => ?_
       rcases List.mem_cons.1 hx with rfl | hx
       · exact lb hg
       · rw [List.mem_singleton] at hx
         subst hx
         exact la hg
     · refine bodG_st c hc _ _ b.1 fun x hx hg => ?_
       rcases List.mem_cons.1 hx with rfl | hx
       · exact la hg
       · rw [List.mem_singleton] at hx
         subst hx
         exact lb hg
   · exact b
 · exact a
theorem saveG_st (f0 f1 c : Nat) (v : Pv) (b : List UInt8) (cov : Nat) (hv : v.ok) (hz : v.m.sz = 64) (hc : 2 ≤ c) (h0 : f0 + c ≤ v.m.dur.length) (h1 : f1 + c ≤ v.m.dur.length) (hb : b.length + 64 ≤ c * 64) (hb2 : b.length ≤ 67108864) (hg : (foundM v.m f0 f1 c).1.g + 1 < 18446744073709551616) :
   (saveG f0 f1 c 64 v b cov).1.ok ∧ ((saveG f0 f1 c 64 v b cov).2.1 = 0 ∨ (saveG f0 f1 c 64 v b cov).2.1 = 60) := by
 have hl := loadG_st f0 f1 c v hv (by omega)
 obtain ⟨_, l2⟩ := loadG_ok f0 f1 c v hv.m hz (by omega) h0 h1
 have hs : saveG f0 f1 c 64 v b cov = saveL f0 f1 c 64 (loadG f0 f1 c 64 v) b cov := if_neg (by omega)
 rw [hs]
 obtain ⟨lo, hlo⟩ : ∃ l, l = loadG f0 f1 c 64 v := ⟨_, rfl⟩
 rw [← hlo] at hl l2 ⊢
 unfold saveL
 by_cases le0 : lo.e = 0
 · obtain ⟨g1, _, _⟩ := l2 le0
   have hm : mayH (nextH lo.h cov b) = true := by
     unfold nextH mayH
     rw [g1]
     dsimp only
     rw [Nat.mod_eq_of_lt hg]
     exact decide_eq_true ⟨Nat.succ_pos _, by omega, by omega⟩
   rw [if_neg (by rw [le0]; simp), hm, if_neg (by decide)]
   obtain ⟨N, hN⟩ : ∃ N, N = nextH lo.h cov b := ⟨_, rfl⟩
   obtain ⟨x, hx⟩ : ∃ x, x = if lo.i = 0 then f1 else f0 := ⟨_, rfl⟩
   rw [← hN, ← hx]
   have p1 := putG_st x c 64 lo.v ((64 : Nat) : Int) b hl.1 (hold_in (by omega))
   have p2 := putG_st x c 64 (putG x c 64 lo.v ((64 : Nat) : Int) b).1 ((0 : Nat) : Int) (secH 64 N) p1.1 (hold_in (by rw [secH_len]; omega))
   unfold saveP
   split
   · exact p1
   · unfold saveQ
     split
     · exact p2
     · exact ⟨p2.1, .inl rfl⟩
 · rw [if_pos le0]
   exact hl
end Go.Proofs.YtminfegoldgjpaaGreatDoor
namespace Go.Proofs.YtminfegoldgjpaaGreatDoor
open Go.RowKit Gw
theorem rdG_len (f z : Nat) : ∀ (k a e : Nat) (v : Pv) (acc : List UInt8), k = e - a → (rdG f z v a e acc).2.2.length ≤ acc.length + (e - a) := by
 intro k
 induction k using Nat.strongRecOn with
 | ind k ih =>
   intro a e v acc hk
   by_cases h : a < e ∧ 0 < z
   · cases hg : v.go with
     | true =>
       rw [rdG_go h.1 h.2 hg]
       have h3 := nxt_gt h.1 h.2
       have h4 := nxt_le (z := z) (Nat.le_of_lt h.1)
       have h5 : nxt z a e = a + (toC z a e - a % z) := rfl
       have i1 := ih (e - nxt z a e) (by omega) (nxt z a e) e v.md (acc ++ ((v.m.read (f + a / z)).drop (a % z)).take (toC z a e - a % z)) rfl
       rw [List.length_append, List.length_take] at i1
       omega
     | false =>
       rw [rdG_no h.1 h.2 hg]
       simp
   · rw [rdG, dif_neg h]
     dsimp only
     omega
theorem rdA_len (f c z : Nat) (v : Pv) (a n : Int) : (rdA f c z v a n).2.2.length ≤ c * z := by
 unfold rdA
 split
 · rename_i h
   have := hold_le h
   have h2 := rdG_len f z _ a.toNat (a.toNat + n.toNat) v [] rfl
   simp only [List.length_nil] at h2
   omega
 · simp
theorem seeH_wf (lim : Int) (b : List UInt8) : (seeH lim b).wf := by
 unfold seeH
 split
 · exact getH_wf b
 · exact hd0_wf
def HdOk (c z : Nat) (h : Hd) : Prop := h.wf ∧ (h.g ≠ 0 → 0 ≤ h.l ∧ h.l ≤ (c : Int) * z - z)
theorem hd0_ok (c z : Nat) : HdOk c z hd0 := ⟨hd0_wf, fun h => absurd rfl h⟩
theorem headG_sz (f c z : Nat) (v : Pv) : (headG f c z v).1.m = v.m ∧ (headG f c z v).1.n ≤ v.n + c * z ∧ HdOk c z (headG f c z v).2.2 := by
 obtain ⟨h1, h2⟩ := rdA_sz f c z v 0 z
 unfold headG
 split
 · refine ⟨h1, h2, seeH_wf _ _, fun h => ?_⟩
   exact seeH_lim h
 · exact ⟨h1, h2, hd0_ok c z⟩
structure LdOk (c z : Nat) (v : Pv) (k : Nat) (R : Ld5) : Prop where
 m : R.v.m = v.m
 n : R.v.n ≤ v.n + k * (c * z)
 h : HdOk c z R.h
 b : R.b.length ≤ c * z
 i : R.i = -1 ∨ R.i = 0 ∨ R.i = 1
theorem bodG_sz (c z : Nat) : ∀ (l : List (Nat × Int × Hd)) (v : Pv), (∀ x ∈ l, HdOk c z x.2.2 ∧ (x.2.1 = 0 ∨ x.2.1 = 1)) → LdOk c z v l.length (bodG c z v l)
 | [], v, _ => ⟨rfl, by show v.n ≤ _; omega, hd0_ok c z, Nat.zero_le _, .inl rfl⟩
 | (f, i, h) :: rest, v, hl => by
   obtain ⟨hh, hi⟩ := hl (f, i, h) List.mem_cons_self
   have hr := fun v => bodG_sz c z rest v (fun x hx => hl x (List.mem_cons_of_mem _ hx))
   obtain ⟨r1, r2⟩ := rdA_sz f c z v z h.l
   have r3 := rdA_len f c z v z h.l
   have hx : ((f, i, h) :: rest).length * (c * z) = rest.length * (c * z) + c * z := by rw [List.length_cons, Nat.add_mul, Nat.one_mul]
   unfold bodG
   split
   · have := hr v
     exact ⟨this.m, by have := this.n; omega, this.h, this.b, this.i⟩
   · split
     · split
       · exact ⟨r1, by dsimp only; omega, hh, r3, .inr hi⟩
       · have := hr (rdA f c z v z h.l).1
         exact ⟨this.m.trans r1, by have := this.n; omega, this.h, this.b, this.i⟩
     · exact ⟨r1, by dsimp only; omega, hd0_ok c z, Nat.zero_le _, .inr (.inl rfl)⟩
theorem loadG_sz (f0 f1 c z : Nat) (v : Pv) : LdOk c z v 4 (loadG f0 f1 c z v) := by
 obtain ⟨a1, a2, a3⟩ := headG_sz f0 c z v
 obtain ⟨b1, b2, b3⟩ := headG_sz f1 c z (headG f0 c z v).1
 unfold loadG
 split
 · split
   · split
     · have := bodG_sz c z [(f1, 1, (headG f1 c z (headG f0 c z v).1).2.2), (f0, 0, (headG f0 c z v).2.2)] (headG f1 c z (headG f0 c z v).1).1 (by simp [a3, b3])
       exact ⟨this.m.trans (b1.trans a1), by have := this.n; simp only [List.length_cons, List.length_nil] at this; omega, this.h, this.b, this.i⟩
     · have := bodG_sz c z [(f0, 0, (headG f0 c z v).2.2), (f1, 1, (headG f1 c z (headG f0 c z v).1).2.2)] (headG f1 c z (headG f0 c z v).1).1 (by simp [a3, b3])
       exact ⟨this.m.trans (b1.trans a1), by have := this.n; simp only [List.length_cons, List.length_nil] at this; omega, this.h, this.b, this.i⟩
   · exact ⟨b1.trans a1, by dsimp only; omega, hd0_ok c z, Nat.zero_le _, .inr (.inl rfl)⟩
 · exact ⟨a1, by dsimp only; omega, hd0_ok c z, Nat.zero_le _, .inr (.inl rfl)⟩
structure SzOk (c z : Nat) (v : Pv) (k : Nat) (V : Pv) : Prop where
 sz : V.m.sz = v.m.sz
 dur : V.m.dur.length = v.m.dur.length
 row : V.m.row.length ≤ v.m.row.length + k * (c * z)
 n : V.n ≤ v.n + k * (2 * (c * z) + 1)
theorem putG_sz (f c z : Nat) (v : Pv) (a : Int) (b : List UInt8) : SzOk c z v 1 (putG f c z v a b).1 := by
 obtain ⟨h1, h2, h3, h4⟩ := wrA_sz f c z v a b
 obtain ⟨g1, g2, g3, g4⟩ := sy_sz (wrA f c z v a b).1
 unfold putG
 split
 · exact ⟨g1.trans h1, g2.trans h2, by dsimp only; omega, by dsimp only; omega⟩
 · exact ⟨h1, h2, by omega, by omega⟩
theorem saveQ_sz (x c z : Nat) (v : Pv) (N : Hd) : SzOk c z v 1 (saveQ x c z v N).1 := by
 unfold saveQ
 split <;> exact putG_sz x c z v 0 (secH z N)
theorem saveP_sz (x c z : Nat) (v : Pv) (N : Hd) (b : List UInt8) : SzOk c z v 2 (saveP x c z v N b).1 := by
 have h1 := putG_sz x c z v z b
 have h2 := saveQ_sz x c z (putG x c z v z b).1 N
 unfold saveP
 split
 · exact ⟨h1.sz, h1.dur, by have := h1.row; dsimp only; omega, by have := h1.n; dsimp only; omega⟩
 · exact ⟨h2.sz.trans h1.sz, h2.dur.trans h1.dur, by have := h1.row; have := h2.row; omega, by have := h1.n; have := h2.n; omega⟩
theorem saveG_sz (f0 f1 c z : Nat) (v : Pv) (b : List UInt8) (cov : Nat) : SzOk c z v 4 (saveG f0 f1 c z v b cov).1 := by
 have hl := loadG_sz f0 f1 c z v
 have h0 : SzOk c z v 4 (loadG f0 f1 c z v).v := ⟨by rw [hl.m], by rw [hl.m], by rw [hl.m]; omega, by have := hl.n; omega⟩
 unfold saveG
 split
 · exact ⟨rfl, rfl, by dsimp only; omega, by dsimp only; omega⟩
 · unfold saveL
   split
   · exact h0
   · split
     · exact h0
     · have h2 := saveP_sz (if (loadG f0 f1 c z v).i = 0 then f1 else f0) c z (loadG f0 f1 c z v).v (nextH (loadG f0 f1 c z v).h cov b) b
       exact ⟨h2.sz.trans h0.sz, h2.dur.trans h0.dur, by have := h2.row; rw [hl.m] at this; omega, by have := h2.n; have := hl.n; omega⟩
end Go.Proofs.YtminfegoldgjpaaGreatDoor
