import Derived.Test.YtfepggdljhiemaaGreatDoorGRk
import Derived.Test.YtfepggdljhiemaaGreatDoorGDi
import Derived.Test.YtfepggdljhiemaaGreatDoorGRw
/-! Disks that are there and disks that aren't, under one face; the program's and the reference's. -/
set_option linter.unusedVariables false
set_option linter.unusedSimpArgs false
set_option maxRecDepth 100000
namespace Go.Proofs.YtfepggdljhiemaaGreatDoor
open Go.RowKit Gw

def Ld (w : World) (v : Value) (M : Option Dm) (L : List Nat) : Prop := match M with
  | some m => ∃ p, v = .pointer (some ⟨p, 0, none⟩) ∧ Dk w p m L ∧ m.ok
  | none => NoDk w v ∧ L = blks v
def Lr (w : World) (v : Value) (M : Option Dm) (L : List Nat) : Prop := match M with
  | some m => ∃ p, v = .pointer (some ⟨p, 0, none⟩) ∧ Rk w p m L ∧ m.ok
  | none => NoRk w v ∧ L = blks v
theorem NoDk.mod {w w' : World} {v : Value} {L : List Nat} (h : NoDk w v) (hm : Mod L w w') (hL : ∀ b ∈ blks v, b ∉ L) : NoDk w' v := by
  rcases h with h | ⟨p, h, hb⟩
  · exact .inl h
  · exact .inr ⟨p, h, hb.mod hm (hL p (by rw [h]; simp [blks]))⟩
theorem NoRk.mod {w w' : World} {v : Value} {L : List Nat} (h : NoRk w v) (hm : Mod L w w') (hL : ∀ b ∈ blks v, b ∉ L) : NoRk w' v := by
  obtain ⟨p, h, hb⟩ := h
  exact ⟨p, h, hb.mod hm (hL p (by rw [h]; simp [blks]))⟩
theorem NoDk.lt {w : World} {v : Value} (h : NoDk w v) : ∀ b ∈ blks v, b < w.heap.size := by
  rcases h with h | ⟨p, h, hb⟩
  · rw [h]; simp [blks]
  · rw [h]; intro b hb2; have : b = p := by simpa [blks] using hb2
    rw [this]; exact hb.lt
theorem NoRk.lt {w : World} {v : Value} (h : NoRk w v) : ∀ b ∈ blks v, b < w.heap.size := by
  obtain ⟨p, h, hb⟩ := h
  rw [h]; intro b hb2; have : b = p := by simpa [blks] using hb2
  rw [this]; exact hb.lt
/-- what a call that turns it leaves -/
def LdP (w : World) (v : Value) (M : Option Dm) (L : List Nat) (w' : World) : Prop := ∃ L', Ld w' v M L' ∧ Mod L w w' ∧ ∀ k ∈ L', k ∈ L ∨ w.heap.size ≤ k
def LrP (w : World) (v : Value) (M : Option Dm) (L : List Nat) (w' : World) : Prop := ∃ L', Lr w' v M L' ∧ Mod L w w' ∧ ∀ k ∈ L', k ∈ L ∨ w.heap.size ≤ k
def oRows : Option Dm → Nat | some m => m.row.length | none => 0
def oSecs : Option Dm → Nat | some m => m.dur.length | none => 0
def oSz : Option Dm → Nat | some m => m.sz | none => 0
def oDur : Option Dm → List (List UInt8) | some m => m.dur | none => []
def oWE (at_ : Int) (n : Nat) : Option Dm → Int | some m => writeE m at_ n | none => 1
def oW (at_ : Int) (l : List UInt8) : Option Dm → Option Dm | some m => some (if writeE m at_ l.length = 0 then m.write at_.toNat l else m) | none => none
def oRE (at_ : Int) : Option Dm → Int | some m => noneE m.dur.length at_ | none => 1
def oR (at_ : Int) : Option Dm → List UInt8 | some m => if noneE m.dur.length at_ = 0 then m.read at_.toNat else [] | none => []
def oSE : Option Dm → Int | some _ => 0 | none => 1
def oS : Option Dm → Option Dm := Option.map Dm.sync
theorem writeE_zero {m : Dm} {at_ : Int} {n : Nat} (h : writeE m at_ n = 0) : 0 ≤ at_ ∧ at_ < m.dur.length ∧ n = m.sz := by
  unfold writeE at h
  split at h
  · rename_i h0
    obtain ⟨h1, h2⟩ := noneE_zero h0
    split at h
    · exact ⟨h1, h2, by assumption⟩
    · cases h
  · rename_i h0; exact absurd h h0
section
variable {w w' : World} {v : Value} {M : Option Dm} {L L2 : List Nat}
theorem Ld.mod (h : Ld w v M L) (hm : Mod L2 w w') (hL : ∀ b ∈ L, b ∉ L2) : Ld w' v M L := by
  cases M with
  | some m => obtain ⟨p, h1, h2, h3⟩ := h; exact ⟨p, h1, h2.mod hm hL, h3⟩
  | none => obtain ⟨h1, h2⟩ := h; exact ⟨h1.mod hm (h2 ▸ hL), h2⟩
theorem Ld.ext (h : Ld w v M L) (hm : Mod [] w w') : Ld w' v M L := h.mod hm (by simp)
theorem Ld.lt (h : Ld w v M L) : ∀ b ∈ L, b < w.heap.size := by
  cases M with
  | some m => obtain ⟨p, h1, h2, h3⟩ := h; exact h2.lt
  | none => obtain ⟨h1, h2⟩ := h; intro b hb; rw [h2] at hb; exact h1.lt b hb
end
theorem dW_any (v bv_ : Value) (at_ : Int) (l : List UInt8) (M : Option Dm) (L : List Nat) (w : World) (h : Ld w v M L) (hb : Bs w bv_ l) (hr : oRows M ≤ 1000000) :
    Calls Tryz.prog 146 #[v, .int .i64 at_, bv_] w fun e w' => e = .returned (.int .i64 (oWE at_ l.length M)) ∧ LdP w v (oW at_ l M) L w' := by
  cases M with
  | none =>
    obtain ⟨h1, rfl⟩ := h
    exact (dwrite_no v bv_ at_ w h1).mono fun e w' ⟨he, hw⟩ => ⟨he, _, ⟨hw ▸ h1, rfl⟩, hw ▸ Mod.refl _ _, fun k hk => .inl hk⟩
  | some m =>
    obtain ⟨p, rfl, h2, h3⟩ := h
    by_cases hE : writeE m at_ l.length = 0
    · obtain ⟨y1, y2, y3⟩ := writeE_zero hE
      obtain ⟨a, rfl⟩ := Int.eq_ofNat_of_zero_le y1
      refine (dwrite_ok p m L a l bv_ w h2 h3 hb (by omega) y3 (by have : oRows (some m) = m.row.length := rfl; omega)).mono fun e w' ⟨he, L', k1, k2, k3⟩ => ⟨by rw [he]; unfold oWE; dsimp only; rw [hE], L', ⟨p, rfl, ?_, ?_⟩, k2, k3⟩
      · rw [if_pos hE]; exact k1
      · rw [if_pos hE]; exact h3.write (by omega) y3
    · refine (dwrite_bad p m L at_ _ l bv_ w h2 h3 hb rfl hE).mono fun e w' ⟨he, hw⟩ => ⟨he, L, ⟨p, rfl, ?_, ?_⟩, hw ▸ Mod.refl _ _, fun k hk => .inl hk⟩
      · rw [if_neg hE]; exact hw ▸ h2
      · rw [if_neg hE]; exact h3
theorem dR_any (v : Value) (at_ : Int) (M : Option Dm) (L : List Nat) (w : World) (h : Ld w v M L) :
    Calls Tryz.prog 144 #[v, .int .i64 at_] w fun e w' => ∃ rv, e = .returned (.tuple #[rv, .int .i64 (oRE at_ M)]) ∧ Ob w' rv (oR at_ M) ∧ New w rv ∧ Mod [] w w' := by
  cases M with
  | none =>
    obtain ⟨h1, rfl⟩ := h
    exact (dread_no v at_ w h1).mono fun e w' ⟨he, hw⟩ => ⟨_, he, Ob.nil _, by simp [New, blks], hw ▸ Mod.refl _ _⟩
  | some m =>
    obtain ⟨p, rfl, h2, h3⟩ := h
    by_cases hE : noneE m.dur.length at_ = 0
    · obtain ⟨y1, y2⟩ := noneE_zero hE
      obtain ⟨a, rfl⟩ := Int.eq_ofNat_of_zero_le y1
      refine (dread_ok p m L a w h2 h3 (by omega)).mono fun e w' ⟨rv, he, k1, k2, k3⟩ => ⟨rv, by rw [he]; unfold oRE; dsimp only; rw [hE], ?_, k2, k3⟩
      unfold oR
      dsimp only
      rw [if_pos hE]
      exact k1
    · refine (dread_bad p m L at_ _ w h2 h3.s1 rfl hE).mono fun e w' ⟨he, hw⟩ => ⟨_, he, ?_, by simp [New, blks], hw ▸ Mod.refl _ _⟩
      unfold oR
      dsimp only
      rw [if_neg hE]
      exact Ob.nil _
theorem dS_any (v : Value) (M : Option Dm) (L : List Nat) (w : World) (h : Ld w v M L) (hr : oRows M ≤ 1000000) :
    Calls Tryz.prog 147 #[v] w fun e w' => e = .returned (.int .i64 (oSE M)) ∧ LdP w v (oS M) L w' := by
  cases M with
  | none =>
    obtain ⟨h1, rfl⟩ := h
    exact (dsync_no v w h1).mono fun e w' ⟨he, hw⟩ => ⟨he, _, ⟨h1.ext hw, rfl⟩, hw.weak (by simp), fun k hk => .inl hk⟩
  | some m =>
    obtain ⟨p, rfl, h2, h3⟩ := h
    have hr' : m.row.length ≤ 1000000 := hr
    exact (dsync_any p m L w h2 h3 (by omega)).mono fun e w' ⟨he, L', k1, k2, k3⟩ => ⟨he, L', ⟨p, rfl, k1, h3.settle _⟩, k2, k3⟩
theorem dWt_any (v : Value) (M : Option Dm) (L : List Nat) (w : World) (h : Ld w v M L) :
    Calls Tryz.prog 127 #[v] w fun e w' => e = .returned (.int .i64 (oRows M : Nat)) ∧ w = w' := by
  cases M with
  | none =>
    obtain ⟨h1, rfl⟩ := h
    exact dWaiting_no v w h1
  | some m =>
    obtain ⟨p, rfl, h2, h3⟩ := h
    exact dWaiting_any p m L w h2 h3.s1
theorem dSec_any (v : Value) (M : Option Dm) (L : List Nat) (w : World) (h : Ld w v M L) :
    Calls Tryz.prog 78 #[v] w fun e w' => e = .returned (.int .i64 (oSecs M : Nat)) ∧ w = w' := by
  cases M with
  | none =>
    obtain ⟨h1, rfl⟩ := h
    exact dSectors_no v w h1
  | some m =>
    obtain ⟨p, rfl, h2, h3⟩ := h
    exact dSectors_any p m L w h2 h3.s1
theorem dSz_any (v : Value) (M : Option Dm) (L : List Nat) (w : World) (h : Ld w v M L) :
    Calls Tryz.prog 137 #[v] w fun e w' => e = .returned (.int .i64 (oSz M : Nat)) ∧ w = w' := by
  cases M with
  | none =>
    obtain ⟨h1, rfl⟩ := h
    exact dSize_no v w h1
  | some m =>
    obtain ⟨p, rfl, h2, h3⟩ := h
    exact dSize_any p m L w h2 h3.s1
theorem dI_any (v : Value) (M : Option Dm) (L : List Nat) (w : World) (h : Ld w v M L) :
    Calls Tryz.prog 74 #[v] w (ImgPost w (oDur M)) := by
  cases M with
  | none =>
    obtain ⟨h1, rfl⟩ := h
    exact (dimage_no v w h1).mono fun e w' ⟨he, hw⟩ => ⟨_, [], he, RowsO.nil _ _, rfl, hw ▸ Mod.refl _ _⟩
  | some m =>
    obtain ⟨p, rfl, h2, h3⟩ := h
    exact dimage_any p m L w h2 h3
section
variable {w w' : World} {v : Value} {M : Option Dm} {L L2 : List Nat}
theorem Lr.mod (h : Lr w v M L) (hm : Mod L2 w w') (hL : ∀ b ∈ L, b ∉ L2) : Lr w' v M L := by
  cases M with
  | some m => obtain ⟨p, h1, h2, h3⟩ := h; exact ⟨p, h1, h2.mod hm hL, h3⟩
  | none => obtain ⟨h1, h2⟩ := h; exact ⟨h1.mod hm (h2 ▸ hL), h2⟩
theorem Lr.ext (h : Lr w v M L) (hm : Mod [] w w') : Lr w' v M L := h.mod hm (by simp)
theorem Lr.lt (h : Lr w v M L) : ∀ b ∈ L, b < w.heap.size := by
  cases M with
  | some m => obtain ⟨p, h1, h2, h3⟩ := h; exact h2.lt
  | none => obtain ⟨h1, h2⟩ := h; intro b hb; rw [h2] at hb; exact h1.lt b hb
end
theorem rW_any (v bv_ : Value) (at_ : Int) (l : List UInt8) (M : Option Dm) (L : List Nat) (w : World) (h : Lr w v M L) (hb : Bs w bv_ l) (hr : oRows M ≤ 1000000) :
    Calls Tryz.prog 190 #[v, .int .i64 at_, bv_] w fun e w' => e = .returned (.int .i64 (oWE at_ l.length M)) ∧ LrP w v (oW at_ l M) L w' := by
  cases M with
  | none =>
    obtain ⟨h1, rfl⟩ := h
    exact (rwrite_no v bv_ at_ w h1).mono fun e w' ⟨he, hw⟩ => ⟨he, _, ⟨hw ▸ h1, rfl⟩, hw ▸ Mod.refl _ _, fun k hk => .inl hk⟩
  | some m =>
    obtain ⟨p, rfl, h2, h3⟩ := h
    by_cases hE : writeE m at_ l.length = 0
    · obtain ⟨y1, y2, y3⟩ := writeE_zero hE
      obtain ⟨a, rfl⟩ := Int.eq_ofNat_of_zero_le y1
      refine (rwrite_ok p m L a l bv_ w h2 h3 hb (by omega) y3 (by have : oRows (some m) = m.row.length := rfl; omega)).mono fun e w' ⟨he, L', k1, k2, k3⟩ => ⟨by rw [he]; unfold oWE; dsimp only; rw [hE], L', ⟨p, rfl, ?_, ?_⟩, k2, k3⟩
      · rw [if_pos hE]; exact k1
      · rw [if_pos hE]; exact h3.write (by omega) y3
    · refine (rwrite_bad p m L at_ _ l bv_ w h2 h3 hb rfl hE).mono fun e w' ⟨he, hw⟩ => ⟨he, L, ⟨p, rfl, ?_, ?_⟩, hw ▸ Mod.refl _ _, fun k hk => .inl hk⟩
      · rw [if_neg hE]; exact hw ▸ h2
      · rw [if_neg hE]; exact h3
theorem rR_any (v : Value) (at_ : Int) (M : Option Dm) (L : List Nat) (w : World) (h : Lr w v M L) :
    Calls Tryz.prog 189 #[v, .int .i64 at_] w fun e w' => ∃ rv, e = .returned (.tuple #[rv, .int .i64 (oRE at_ M)]) ∧ Ob w' rv (oR at_ M) ∧ New w rv ∧ Mod [] w w' := by
  cases M with
  | none =>
    obtain ⟨h1, rfl⟩ := h
    exact (rread_no v at_ w h1).mono fun e w' ⟨he, hw⟩ => ⟨_, he, Ob.nil _, by simp [New, blks], hw ▸ Mod.refl _ _⟩
  | some m =>
    obtain ⟨p, rfl, h2, h3⟩ := h
    by_cases hE : noneE m.dur.length at_ = 0
    · obtain ⟨y1, y2⟩ := noneE_zero hE
      obtain ⟨a, rfl⟩ := Int.eq_ofNat_of_zero_le y1
      refine (rread_ok p m L a w h2 h3 (by omega)).mono fun e w' ⟨rv, he, k1, k2, k3⟩ => ⟨rv, by rw [he]; unfold oRE; dsimp only; rw [hE], ?_, k2, k3⟩
      unfold oR
      dsimp only
      rw [if_pos hE]
      exact k1
    · refine (rread_bad p m L at_ _ w h2 h3 rfl hE).mono fun e w' ⟨he, hw⟩ => ⟨_, he, ?_, by simp [New, blks], hw ▸ Mod.refl _ _⟩
      unfold oR
      dsimp only
      rw [if_neg hE]
      exact Ob.nil _
theorem rS_any (v : Value) (M : Option Dm) (L : List Nat) (w : World) (h : Lr w v M L) (hr : oRows M ≤ 1000000) :
    Calls Tryz.prog 193 #[v] w fun e w' => e = .returned (.int .i64 (oSE M)) ∧ LrP w v (oS M) L w' := by
  cases M with
  | none =>
    obtain ⟨h1, rfl⟩ := h
    exact (rsync_no v w h1).mono fun e w' ⟨he, hw⟩ => ⟨he, _, ⟨hw ▸ h1, rfl⟩, hw ▸ Mod.refl _ _, fun k hk => .inl hk⟩
  | some m =>
    obtain ⟨p, rfl, h2, h3⟩ := h
    have hr' : m.row.length ≤ 1000000 := hr
    exact (rsync_any p m L w h2 h3 (by omega)).mono fun e w' ⟨he, L', k1, k2, k3⟩ => ⟨he, L', ⟨p, rfl, k1, h3.settle _⟩, k2, k3⟩
theorem rWt_any (v : Value) (M : Option Dm) (L : List Nat) (w : World) (h : Lr w v M L) :
    Calls Tryz.prog 128 #[v] w fun e w' => e = .returned (.int .i64 (oRows M : Nat)) ∧ w = w' := by
  cases M with
  | none =>
    obtain ⟨h1, rfl⟩ := h
    exact rWaiting_no v w h1
  | some m =>
    obtain ⟨p, rfl, h2, h3⟩ := h
    exact rWaiting_any p m L w h2
theorem rSec_any (v : Value) (M : Option Dm) (L : List Nat) (w : World) (h : Lr w v M L) :
    Calls Tryz.prog 138 #[v] w fun e w' => e = .returned (.int .i64 (oSecs M : Nat)) ∧ w = w' := by
  cases M with
  | none =>
    obtain ⟨h1, rfl⟩ := h
    exact rSectors_no v w h1
  | some m =>
    obtain ⟨p, rfl, h2, h3⟩ := h
    exact rSectors_any p m L w h2
theorem rSz_any (v : Value) (M : Option Dm) (L : List Nat) (w : World) (h : Lr w v M L) :
    Calls Tryz.prog 174 #[v] w fun e w' => e = .returned (.int .i64 (oSz M : Nat)) ∧ w = w' := by
  cases M with
  | none =>
    obtain ⟨h1, rfl⟩ := h
    exact rSize_no v w h1
  | some m =>
    obtain ⟨p, rfl, h2, h3⟩ := h
    exact rSize_any p m L w h2 h3
theorem rI_any (v : Value) (M : Option Dm) (L : List Nat) (w : World) (h : Lr w v M L) :
    Calls Tryz.prog 75 #[v] w (ImgPost w (oDur M)) := by
  cases M with
  | none =>
    obtain ⟨h1, rfl⟩ := h
    exact (rimage_no v w h1).mono fun e w' ⟨he, hw⟩ => ⟨_, [], he, RowsO.nil _ _, rfl, hw ▸ Mod.refl _ _⟩
  | some m =>
    obtain ⟨p, rfl, h2, h3⟩ := h
    exact rimage_any p m L w h2 h3
end Go.Proofs.YtfepggdljhiemaaGreatDoor

/-! A call of a disk and of the reference's: they tell the same. -/
namespace Go.Proofs.YtfepggdljhiemaaGreatDoor
open Go.RowKit Gw

/-- two disks that tell the same -/
structure Two (w : World) (v u : Value) (M : Option Dm) (L K : List Nat) : Prop where
  d : Ld w v M L
  r : Lr w u M K
  dj : ∀ b ∈ L, b ∉ K
def TwoP (w : World) (v u : Value) (M : Option Dm) (L K : List Nat) (w' : World) : Prop := ∃ L' K', Two w' v u M L' K' ∧ Mod (L ++ K) w w' ∧ (∀ k ∈ L', k ∈ L ∨ w.heap.size ≤ k) ∧ ∀ k ∈ K', k ∈ K ∨ w.heap.size ≤ k
section
variable {w w0 w1 w2 w' : World} {v u : Value} {M M' : Option Dm} {L K L2 : List Nat}
theorem Two.mod (h : Two w v u M L K) (hm : Mod L2 w w') (hL : ∀ b ∈ L, b ∉ L2) (hK : ∀ b ∈ K, b ∉ L2) : Two w' v u M L K := ⟨h.d.mod hm hL, h.r.mod hm hK, h.dj⟩
theorem Two.ext (h : Two w v u M L K) (hm : Mod [] w w') : Two w' v u M L K := h.mod hm (by simp) (by simp)
theorem Two.same (h : Two w v u M L K) (hm : Mod [] w w') : TwoP w v u M L K w' := ⟨L, K, h.ext hm, hm.weak (by simp), fun k hk => .inl hk, fun k hk => .inl hk⟩
/-- the program's disk has turned, behind it the reference's -/
theorem Two.turn {w1' : World} {L' K' G : List Nat} (h : Two w v u M L K) (hm0 : Mod [] w w0) (hd : Mod L w0 w1) (hL : ∀ k ∈ L', k ∈ L ∨ w0.heap.size ≤ k) (hmid : Mod G w1 w1') (hG : ∀ g ∈ G, w.heap.size ≤ g) (hD : Ld w2 v M' L') (hlt : ∀ k ∈ L', k < w1.heap.size) (hm1 : Mod K w1' w2) (hK : ∀ k ∈ K', k ∈ K ∨ w1'.heap.size ≤ k) (hR : Lr w2 u M' K') (hm2 : Mod [] w2 w') : TwoP w v u M' L K w' := by
  have s0 := hm0.size
  have s1 := hd.size
  have s2 := hmid.size
  refine ⟨L', K', Two.ext ⟨hD, hR, fun b hb hb2 => ?_⟩ hm2, ?_, fun k hk => (hL k hk).imp id fun h => Nat.le_trans s0 h, fun k hk => (hK k hk).imp id fun h => by omega⟩
  · rcases hK b hb2 with h2 | h2
    · rcases hL b hb with h1 | h1
      · exact h.dj b h1 h2
      · have := h.r.lt b h2; omega
    · have := hlt b hb; omega
  · exact ((((hm0.weak (by simp)).then hd (fun g hg => .inl (List.mem_append_left _ hg))).then hmid (fun g hg => .inr (hG g hg))).then hm1 (fun g hg => .inl (List.mem_append_right _ hg))).ext hm2
theorem RowsO.r {base : Nat} {X : List (Value × List UInt8)} (h : RowsO w base v X) : RowsR w v X := ⟨h.ow.sl, fun p hp => Ob.bs (h.fam.ob p hp).1⟩
end
end Go.Proofs.YtfepggdljhiemaaGreatDoor

/-! DiskNone. -/
namespace Go.Proofs.YtfepggdljhiemaaGreatDoor
open Go.RowKit Gw

/-- an operation that its guard lets through -/
theorem StopOp.gw {P : Program} {ops : Array Oper} {Q : Exit → Act → World → Prop} {rest : List Oper} {a : Act} {w : World} {o : Oper} (hw : Region.wanted o (yielded ops a.tmps) = true) (h : ∀ K : Act → World → Prop, (∀ a w, wpList P ops Q rest a w → K a w) → o.wp P a w K Q) : StopOp P ops Q (o :: rest) a w :=
  wpList_step fun K hK => by rw [if_pos hw]; exact h K hK
end Go.Proofs.YtfepggdljhiemaaGreatDoor
