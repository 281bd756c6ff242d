import Derived.Test.YtfepggdljhiemaaGreatDoorGOct
import Derived.Laws.IdiomCopy
import Derived.Lib.SlBytesConst
import Derived.Test.YtfepggdljhiemaaGreatDoorGCr
import Derived.Test.YtfepggdljhiemaaGreatDoorGOe
import Derived.Deep.DeepCutAuto
import Derived.Test.YtfepggdljhiemaaGreatDoorGOn
/-! Bytes made of a string that is known: a block whose mark lies behind its cells; appends onto it. -/
set_option linter.unusedVariables false
set_option linter.unusedSimpArgs false
set_option maxRecDepth 100000
namespace Go.Proofs.YtfepggdljhiemaaGreatDoor
open Go.RowKit Gw

/-- bytes at the head of a block of their own, its mark behind its cells -/
structure Oz (w : World) (v : Value) (l : List UInt8) : Prop where
  own : ∃ g cap cur f, v = .slice (some ⟨g, 0, none⟩) l.length cap ∧ w.heap[g]? = some (.cells cur 5 f) ∧ (∀ j, j < cur.size → ¬ (f.1 ≤ j ∧ j < f.2)) ∧ l.length ≤ cap ∧ cap ≤ 9223372036854775807 ∧ cur.size = cap ∧ cur.toList.take l.length = bv l
theorem Oz.bs {w : World} {v : Value} {l : List UInt8} (h : Oz w v l) : Bs w v l := by
  obtain ⟨g, cap, cur, f, rfl, hg, hf, h1, h2, h3, h4⟩ := h.own
  refine ⟨_, _, rfl, by rw [bv_length, Nat.mul_one], h1, h2, (fun h => nomatch h), fun ad had => ?_⟩
  cases had
  refine ⟨fun _ => rfl, fun j u hu => ?_⟩
  rw [cell_of_row w g (0 + j) cur 5 f hg]
  rw [← h4, List.getElem?_take] at hu
  split at hu
  · simpa using hu
  · cases hu
theorem Oz.lt {w : World} {v : Value} {l : List UInt8} (h : Oz w v l) : ∀ g ∈ blks v, g < w.heap.size := fun k hk => by
  obtain ⟨g, cap, cur, f, rfl, hg, _⟩ := h.own
  obtain rfl : k = g := by simpa [blks] using hk
  exact (Array.getElem?_eq_some_iff.1 hg).1
theorem Oz.mod {w w' : World} {v : Value} {l : List UInt8} {L : List Nat} (h : Oz w v l) (hm : Mod L w w') (hL : ∀ g ∈ blks v, g ∉ L) : Oz w' v l := by
  have hlt := h.lt
  obtain ⟨g, cap, cur, f, rfl, hg, h1⟩ := h.own
  have hk : g ∈ blks (.slice (some ⟨g, 0, none⟩) l.length cap) := by simp [blks]
  exact ⟨g, cap, cur, f, rfl, (hm.block g (hlt g hk) (hL g hk)).trans hg, h1⟩
theorem Oz.ext {w w' : World} {v : Value} {l : List UInt8} (h : Oz w v l) (hm : Mod [] w w') : Oz w' v l := h.mod hm (by simp)
theorem Oz.of {w : World} {v : Value} {l : List UInt8} (h : Ob w v l) (hl : l ≠ []) : Oz w v l := by
  obtain ⟨hl', ⟨_, h0⟩ | ⟨g, cap, cur, rfl, _, hg, hc, hm, hs, ht⟩⟩ := (show w.ownsRow 0 5 1 v l.length (bv l) from h)
  · exact absurd (List.eq_nil_of_length_eq_zero h0) hl
  · exact ⟨g, cap, cur, (0, 0), rfl, hg, fun j _ => by simp, hc, by unfold maxLen at hm; omega, by simpa using hs, by simpa using ht⟩
theorem Oz.ne {w : World} {v : Value} {l : List UInt8} {g : Nat} {t : TypeId} {cs : List Value} (h : Oz w v l) (hb : Blk w g t cs) (hne : 5 ≠ t) : g ∉ blks v := fun hg => by
  obtain ⟨k, cap, cur, f, rfl, hk, _⟩ := h.own
  obtain rfl : g = k := by simpa [blks] using hg
  unfold Blk at hb
  rw [hb] at hk
  injection hk with hk
  injection hk with _ h2
  exact hne h2.symm
section
variable {a : Act} {w : World} {K : Act → World → Prop} {Q : Exit → Act → World → Prop} {d : Option Tmp} {ty : TypeId} {ps : String} {af : Array Edge} {gd : Option (Nat × Bool)}
end
end Go.Proofs.YtfepggdljhiemaaGreatDoor

/-! Slots: may a header be; Header. -/
namespace Go.Proofs.YtfepggdljhiemaaGreatDoor
open Go.RowKit Gw

def Hd.cells (h : Hd) : List Value := [.int .u64 (h.g : Nat), .int .u64 (h.c : Nat), .int .i64 h.l, .int .u32 (h.s : Nat)]
def Hd.v (h : Hd) : Value := .agg #[.int .u64 (h.g : Nat), .int .u64 (h.c : Nat), .int .i64 h.l, .int .u32 (h.s : Nat)]
end Go.Proofs.YtfepggdljhiemaaGreatDoor

/-! Numbers that a reader takes, where they are there. -/
namespace Go.Proofs.YtfepggdljhiemaaGreatDoor
open Go.RowKit Gw

/-! a number that is there -/
theorem tkn_drop (b : List UInt8) (p k : Nat) (h : p + k ≤ b.length) : tkGot (b.drop p) 0 k = (b.drop p).take k ∧ got (b.drop p) 0 k = nb b p k ∧ tkRest (b.drop p) 0 k = b.drop (p + k) ∧ tkErr (b.drop p) 0 k = 0 := by
  have h1 : (0 : Int) ≤ (k : Int) ∧ (k : Int) ≤ ((b.drop p).length : Int) := by rw [List.length_drop]; omega
  have e : tkGot (b.drop p) 0 k = (b.drop p).take k := by unfold tkGot; rw [if_pos ⟨rfl, h1.1, h1.2⟩, Int.toNat_natCast]
  refine ⟨e, ?_, ?_, ?_⟩
  · unfold got nb; rw [e]
  · unfold tkRest; rw [if_pos rfl, if_pos h1, Int.toNat_natCast, List.drop_drop]
  · unfold tkErr; rw [if_pos rfl, if_neg (by omega), if_neg (by omega)]
def NextN (b : List UInt8) (r q p k : Nat) (kd : IntKind) (w : World) (e : Ending) (w' : World) : Prop := e = .returned (.int kd (nb b p k)) ∧ Rd w' r q (b.drop (p + k)) 0 ∧ Mod [q] w w'
theorem nextN_of {b : List UInt8} {r q p k : Nat} {kd : IntKind} {w : World} (h : p + k ≤ b.length) {e : Ending} {w' : World} (he : e = .returned (.int kd (got (b.drop p) 0 k))) (hp : TakePost w r q (b.drop p) 0 k w') : NextN b r q p k kd w e w' := by
  obtain ⟨_, t1, t2, t3⟩ := tkn_drop b p k h
  unfold TakePost at hp
  rw [t2, t3] at hp
  exact ⟨by rw [he, t1], hp⟩
theorem nn2 (r q : Nat) (b : List UInt8) (p : Nat) (w : World) (h : Rd w r q (b.drop p) 0) (hp : p + 2 ≤ b.length) : Calls Tryz.prog 179 #[.pointer (some ⟨r, 0, none⟩)] w (NextN b r q p 2 .u16 w) :=
  (rtwo_any r q _ 0 w h).mono fun e w' ⟨h1, h2⟩ => nextN_of hp h1 h2
theorem nn4 (r q : Nat) (b : List UInt8) (p : Nat) (w : World) (h : Rd w r q (b.drop p) 0) (hp : p + 4 ≤ b.length) : Calls Tryz.prog 183 #[.pointer (some ⟨r, 0, none⟩)] w (NextN b r q p 4 .u32 w) :=
  (rfour_any r q _ 0 w h).mono fun e w' ⟨h1, h2⟩ => nextN_of hp h1 h2
theorem nn8 (r q : Nat) (b : List UInt8) (p : Nat) (w : World) (h : Rd w r q (b.drop p) 0) (hp : p + 8 ≤ b.length) : Calls Tryz.prog 181 #[.pointer (some ⟨r, 0, none⟩)] w (NextN b r q p 8 .u64 w) :=
  (reight_any r q _ 0 w h).mono fun e w' ⟨h1, h2⟩ => nextN_of hp h1 h2
theorem nntake (r q : Nat) (b : List UInt8) (p k : Nat) (w : World) (h : Rd w r q (b.drop p) 0) (hp : p + k ≤ b.length) (hl : b.length ≤ 140737488355328) :
    Calls Tryz.prog 182 #[.pointer (some ⟨r, 0, none⟩), .int .i64 (k : Nat)] w fun e w' => ∃ v, e = .returned v ∧ Ob w' v ((b.drop p).take k) ∧ New w v ∧ Rd w' r q (b.drop (p + k)) 0 ∧ Mod [q] w w' := by
  obtain ⟨t0, _, t2, t3⟩ := tkn_drop b p k hp
  refine (rtake_any r q (b.drop p) 0 k w h (by omega) (by omega) (by rw [List.length_drop]; omega)).mono ?_
  rintro e w' ⟨v, he, ho, hn, hp'⟩
  unfold TakePost at hp'
  rw [t2, t3] at hp'
  rw [t0] at ho
  exact ⟨v, he, ho, hn, hp'⟩
theorem Ob.nx {w : World} {v : Value} {l : List UInt8} {n : Nat} (h : Ob w v l) (hl : l.length = n) : ∃ ao cap, v = .slice ao n cap ∧ n ≤ cap ∧ cap ≤ 9223372036854775807 := by
  subst hl; exact h.sl.form
end Go.Proofs.YtfepggdljhiemaaGreatDoor

/-! Slots: Read. -/
namespace Go.Proofs.YtfepggdljhiemaaGreatDoor
open Go.RowKit Gw

end Go.Proofs.YtfepggdljhiemaaGreatDoor

/-! Slots: the document's May, Header. -/
namespace Go.Proofs.YtfepggdljhiemaaGreatDoor
open Go.RowKit Gw

end Go.Proofs.YtfepggdljhiemaaGreatDoor

/-! Slots: the document's Read. -/
namespace Go.Proofs.YtfepggdljhiemaaGreatDoor
open Go.RowKit Gw

end Go.Proofs.YtfepggdljhiemaaGreatDoor
