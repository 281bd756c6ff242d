import Derived.Test.YtfepggdljhiemaaGreatDoorGDl
import Derived.Test.YtfepggdljhiemaaGreatDoorGDk
import Derived.Test.YtfepggdljhiemaaGreatDoorGRw
import Derived.Deep.DeepCutAuto
import Derived.Test.YtfepggdljhiemaaGreatDoorDkX
import Derived.Test.YtfepggdljhiemaaGreatDoorGDi
/-! Devices: a disk of which the power can go; the program's and the reference's. -/
set_option linter.unusedVariables false
set_option linter.unusedSimpArgs false
set_option maxRecDepth 100000
namespace Go.Proofs.YtfepggdljhiemaaGreatDoor
open Go.RowKit Gw

/-- a device: its disk, is it off, what it is armed with, how many operations were made -/
structure Pv where
  m : Dm
  off : Bool
  ar : Int
  n : Nat
/-- is the next operation made? -/
def Pv.go (v : Pv) : Bool := !v.off && !(v.ar == 0)
/-- behind that -/
def Pv.md (v : Pv) : Pv := if v.off = true then v else if v.ar = 0 then ⟨v.m, true, -1, v.n⟩ else ⟨v.m, false, if 0 < v.ar then v.ar - 1 else v.ar, v.n + 1⟩
structure Pv.ok (v : Pv) : Prop where
  m : v.m.ok
  a1 : -1 ≤ v.ar
  a2 : v.ar ≤ 9223372036854775807
def Pv.cells (v : Pv) (q : Nat) : List Value := [.pointer (some ⟨q, 0, none⟩), .bool v.off, .int .i64 v.ar, .int .i64 (v.n : Nat)]
/-- a device in memory -/
structure Pd (w : World) (p q : Nat) (v : Pv) (L : List Nat) : Prop where
  b : Blk w p 130 (v.cells q)
  d : Dk w q v.m L
  ok : v.ok
  pl : p ∉ L
structure Pr (w : World) (p q : Nat) (v : Pv) (L : List Nat) : Prop where
  b : Blk w p 132 (v.cells q)
  d : Rk w q v.m L
  ok : v.ok
  pl : p ∉ L
section
variable {w w' : World} {p q : Nat} {v : Pv} {L M : List Nat}
theorem Pd.mod (h : Pd w p q v L) (hm : Mod M w w') (hp : p ∉ M) (hL : ∀ b ∈ L, b ∉ M) : Pd w' p q v L := ⟨h.b.mod hm hp, h.d.mod hm hL, h.ok, h.pl⟩
theorem Pd.ext (h : Pd w p q v L) (hm : Mod [] w w') : Pd w' p q v L := h.mod hm (by simp) (by simp)
theorem Pr.mod (h : Pr w p q v L) (hm : Mod M w w') (hp : p ∉ M) (hL : ∀ b ∈ L, b ∉ M) : Pr w' p q v L := ⟨h.b.mod hm hp, h.d.mod hm hL, h.ok, h.pl⟩
theorem Pr.ext (h : Pr w p q v L) (hm : Mod [] w w') : Pr w' p q v L := h.mod hm (by simp) (by simp)
end
/-- what a call that turns it leaves -/
def PdP (w : World) (p q : Nat) (v : Pv) (L : List Nat) (w' : World) : Prop := ∃ L', Pd w' p q v L' ∧ Mod (p :: L) w w' ∧ ∀ k ∈ L', k ∈ L ∨ w.heap.size ≤ k
def PrP (w : World) (p q : Nat) (v : Pv) (L : List Nat) (w' : World) : Prop := ∃ L', Pr w' p q v L' ∧ Mod (p :: L) w w' ∧ ∀ k ∈ L', k ∈ L ∨ w.heap.size ≤ k
/-- with another disk -/
def Pv.at (v : Pv) (m : Dm) : Pv := ⟨m, v.off, v.ar, v.n⟩
def wrM (m : Dm) (a : Int) (l : List UInt8) : Dm := if writeE m a l.length = 0 then m.write a.toNat l else m
/-- what a call tells, and makes of it -/
def Pv.e (v : Pv) (x : Int) : Int := if v.go = true then x else 60
def Pv.wr (v : Pv) (a : Int) (l : List UInt8) : Pv := if v.go = true then v.md.at (wrM v.m a l) else v.md
def Pv.sy (v : Pv) : Pv := if v.go = true then v.md.at v.m.sync else v.md
def Pv.rd (v : Pv) (a : Int) : List UInt8 := if v.go = true then oR a (some v.m) else []
def Pv.arm (v : Pv) (n : Int) : Pv := if v.off = true then v else ⟨v.m, v.off, max n (-1), v.n⟩
def Pv.re (v : Pv) (F : List (Int × Int)) : Pv := ⟨v.m.crash F, false, -1, 0⟩
theorem Pv.md_m (v : Pv) : v.md.m = v.m := by
  unfold Pv.md
  split
  · rfl
  · split <;> rfl
theorem Pv.md_ok {v : Pv} (h : v.ok) : v.md.ok := by
  have h1 := h.a1
  have h2 := h.a2
  unfold Pv.md
  split
  · exact h
  · split
    · exact ⟨h.m, by dsimp only; omega, by dsimp only; omega⟩
    · refine ⟨h.m, ?_, ?_⟩ <;> dsimp only <;> split <;> omega
theorem Pv.at_ok {v : Pv} (h : v.ok) {m : Dm} (hm : m.ok) : (v.at m).ok := ⟨hm, h.a1, h.a2⟩
theorem wrM_ok {m : Dm} (h : m.ok) (a : Int) (l : List UInt8) : (wrM m a l).ok := by
  unfold wrM
  split
  · rename_i h0
    obtain ⟨y1, y2, y3⟩ := writeE_zero h0
    exact h.write (by omega) y3
  · exact h
theorem Pv.go_cases (v : Pv) : (v.go = true ∧ v.off = false ∧ v.ar ≠ 0) ∨ (v.go = false) := by
  unfold Pv.go
  cases v.off with
  | true => simp
  | false =>
    by_cases h : v.ar = 0
    · simp [h]
    · simp [h]
end Go.Proofs.YtfepggdljhiemaaGreatDoor

/-! Devices: what each call does. -/
namespace Go.Proofs.YtfepggdljhiemaaGreatDoor
open Go.RowKit Gw

theorem pnone_yes (p q : Nat) (x y z : Value) (w : World) (h : Blk w p 130 [.pointer (some ⟨q, 0, none⟩), x, y, z]) : Calls Tryz.prog 71 #[.pointer (some ⟨p, 0, none⟩)] w fun e w' => e = .returned (.bool false) ∧ w = w' := by
  have c0 := h.cell' (i := 0) rfl
  clear h
  go_enter Tryz.func71, Tryz.ntmps71
  go_wp2_with fail
  go_ret
  exact ⟨rfl, rfl⟩
set_option maxHeartbeats 2000000 in
theorem pmade_any (p q : Nat) (v : Pv) (w : World) (h : Blk w p 130 (v.cells q)) (hok : v.ok) (hn : v.n ≤ 1000000) :
    Calls Tryz.prog 143 #[.pointer (some ⟨p, 0, none⟩)] w fun e w' => e = .returned (.int .i64 (v.e 0)) ∧ Blk w' p 130 (v.md.cells q) ∧ Mod [p] w w' := by
  obtain ⟨m, off, ar, n⟩ := v
  have a1 := hok.a1
  have a2 := hok.a2
  unfold Pv.cells at h ⊢
  dsimp only at h hn a1 a2
  have n1 : (n : Int) ≤ 1000000 := by omega
  have n0 : (0 : Int) ≤ n := by omega
  have c1 := h.cell' (i := 1) rfl
  have c2 := h.cell' (i := 2) rfl
  have c3 := h.cell' (i := 3) rfl
  clear hok
  cases off with
  | true =>
    rw [(show (Pv.mk m true ar n).e 0 = 60 from rfl)]
    go_enter Tryz.func143, Tryz.ntmps143
    go_wp2_with (go_at_call 71; refine (pnone_yes p q _ _ _ _ h).mono ?_; rintro e wn ⟨rfl, rfl⟩)
    go_ret
    exact ⟨rfl, h, Mod.refl _ _⟩
  | false =>
    by_cases h0 : ar = 0
    · subst h0
      rw [(show (Pv.mk m false 0 n).e 0 = 60 from rfl)]
      go_enter Tryz.func143, Tryz.ntmps143
      go_wp2_with (first
                    | (with_reducible refine st_store ?_)
                    | (go_at_call 71; refine (pnone_yes p q _ _ _ _ h).mono ?_; rintro e wn ⟨rfl, rfl⟩))
      refine StopOp.go rfl fun K hK => ?_
      refine wp_store1 (by kernel_rfl) (by rfl) (u := .bool true) (by rfl) ⟨rfl, rfl⟩ h (by simp) ?_
      intro w1 hm1 hB1
      refine hK _ _ ?_
      clear hK K
      go_wp2_with (with_reducible refine st_store ?_)
      refine StopOp.go rfl fun K hK => ?_
      refine wp_store1 (by kernel_rfl) (by rfl) (u := .int .i64 (-1)) (by rfl) ⟨rfl, rfl⟩ hB1 (by simp) ?_
      intro w2 hm2 hB2
      refine hK _ _ ?_
      clear hK K
      go_wp2_with fail
      go_ret
      exact ⟨rfl, hB2, hm1.trans hm2⟩
    · have e0 : (ar == 0) = false := by rw [beq_eq_false_iff_ne]; exact h0
      have eg0 : (Pv.mk m false ar n).go = true := by unfold Pv.go; simp [h0]
      have eg := (show (Pv.mk m false ar n).e 0 = 0 from if_pos eg0)
      clear eg0
      by_cases h1 : 0 < ar
      · have em : (Pv.mk m false ar n).md = ⟨m, false, ar - 1, n + 1⟩ := by unfold Pv.md; simp [h0, h1]
        rw [em, eg]
        clear em eg h0
        go_enter Tryz.func143, Tryz.ntmps143
        go_wp2_with (first
                      | (with_reducible refine st_store ?_)
                      | (go_at_call 71; refine (pnone_yes p q _ _ _ _ h).mono ?_; rintro e wn ⟨rfl, rfl⟩))
        refine StopOp.go rfl fun K hK => ?_
        refine wp_store1 (by kernel_rfl) (by rfl) (u := .int .i64 (ar - 1)) (by rfl) ⟨rfl, rfl⟩ h (by simp) ?_
        intro w1 hm1 hB1
        refine hK _ _ ?_
        clear hK K
        have d3 := hB1.cell' (i := 3) rfl
        go_wp2_with (with_reducible refine st_store ?_)
        refine StopOp.go rfl fun K hK => ?_
        refine wp_store1 (by kernel_rfl) (by rfl) (u := .int .i64 ((n : Int) + 1)) (by rfl) ⟨rfl, rfl⟩ hB1 (by simp) ?_
        intro w2 hm2 hB2
        refine hK _ _ ?_
        clear hK K
        go_wp2_with fail
        go_ret
        exact ⟨rfl, by simpa using hB2, hm1.trans hm2⟩
      · have em : (Pv.mk m false ar n).md = ⟨m, false, ar, n + 1⟩ := by unfold Pv.md; simp [h0, h1]
        rw [em, eg]
        have h2 : ar ≤ 0 := by omega
        clear em eg h0 h1
        go_enter Tryz.func143, Tryz.ntmps143
        go_wp2_with (first
                      | (with_reducible refine st_store ?_)
                      | (go_at_call 71; refine (pnone_yes p q _ _ _ _ h).mono ?_; rintro e wn ⟨rfl, rfl⟩))
        refine StopOp.go rfl fun K hK => ?_
        refine wp_store1 (by kernel_rfl) (by rfl) (u := .int .i64 ((n : Int) + 1)) (by rfl) ⟨rfl, rfl⟩ h (by simp) ?_
        intro w2 hm2 hB2
        refine hK _ _ ?_
        clear hK K
        go_wp2_with fail
        go_ret
        exact ⟨rfl, by simpa using hB2, hm2⟩
theorem pSectors_any (p q : Nat) (v : Pv) (L : List Nat) (w : World) (h : Pd w p q v L) : Calls Tryz.prog 79 #[.pointer (some ⟨p, 0, none⟩)] w fun e w' => e = .returned (.int .i64 (v.m.dur.length : Nat)) ∧ w = w' := by
  have D : Calls Tryz.prog 78 #[.pointer (some ⟨q, 0, none⟩)] w fun e w' => e = .returned (.int .i64 (v.m.dur.length : Nat)) ∧ w = w' := dSec_any (.pointer (some ⟨q, 0, none⟩)) (some v.m) L w ⟨q, rfl, h.d, h.ok.m⟩
  have hb := h.b
  unfold Pv.cells at hb
  have c0 := hb.cell' (i := 0) rfl
  clear h
  go_enter Tryz.func79, Tryz.ntmps79
  go_wp2_with (first
                | (go_at_call 71; refine (pnone_yes p q _ _ _ _ hb).mono ?_; rintro e wn ⟨rfl, rfl⟩)
                | (go_at_call 78; (with_reducible refine (D).mono ?_); rintro e w2 ⟨rfl, rfl⟩))
  go_ret
  exact ⟨rfl, rfl⟩
theorem pSize_any (p q : Nat) (v : Pv) (L : List Nat) (w : World) (h : Pd w p q v L) : Calls Tryz.prog 80 #[.pointer (some ⟨p, 0, none⟩)] w fun e w' => e = .returned (.int .i64 (v.m.sz : Nat)) ∧ w = w' := by
  have D : Calls Tryz.prog 137 #[.pointer (some ⟨q, 0, none⟩)] w fun e w' => e = .returned (.int .i64 (v.m.sz : Nat)) ∧ w = w' := dSz_any (.pointer (some ⟨q, 0, none⟩)) (some v.m) L w ⟨q, rfl, h.d, h.ok.m⟩
  have hb := h.b
  unfold Pv.cells at hb
  have c0 := hb.cell' (i := 0) rfl
  clear h
  go_enter Tryz.func80, Tryz.ntmps80
  go_wp2_with (first
                | (go_at_call 71; refine (pnone_yes p q _ _ _ _ hb).mono ?_; rintro e wn ⟨rfl, rfl⟩)
                | (go_at_call 137; (with_reducible refine (D).mono ?_); rintro e w2 ⟨rfl, rfl⟩))
  go_ret
  exact ⟨rfl, rfl⟩
theorem pWaiting_any (p q : Nat) (v : Pv) (L : List Nat) (w : World) (h : Pd w p q v L) : Calls Tryz.prog 67 #[.pointer (some ⟨p, 0, none⟩)] w fun e w' => e = .returned (.int .i64 (v.m.row.length : Nat)) ∧ w = w' := by
  have D : Calls Tryz.prog 127 #[.pointer (some ⟨q, 0, none⟩)] w fun e w' => e = .returned (.int .i64 (v.m.row.length : Nat)) ∧ w = w' := dWt_any (.pointer (some ⟨q, 0, none⟩)) (some v.m) L w ⟨q, rfl, h.d, h.ok.m⟩
  have hb := h.b
  unfold Pv.cells at hb
  have c0 := hb.cell' (i := 0) rfl
  clear h
  go_enter Tryz.func67, Tryz.ntmps67
  go_wp2_with (first
                | (go_at_call 71; refine (pnone_yes p q _ _ _ _ hb).mono ?_; rintro e wn ⟨rfl, rfl⟩)
                | (go_at_call 127; (with_reducible refine (D).mono ?_); rintro e w2 ⟨rfl, rfl⟩))
  go_ret
  exact ⟨rfl, rfl⟩
theorem pImage_any (p q : Nat) (v : Pv) (L : List Nat) (w : World) (h : Pd w p q v L) : Calls Tryz.prog 23 #[.pointer (some ⟨p, 0, none⟩)] w (ImgPost w v.m.dur) := by
  have D : Calls Tryz.prog 74 #[.pointer (some ⟨q, 0, none⟩)] w (ImgPost w v.m.dur) := dI_any (.pointer (some ⟨q, 0, none⟩)) (some v.m) L w ⟨q, rfl, h.d, h.ok.m⟩
  unfold ImgPost at D ⊢
  have hb := h.b
  unfold Pv.cells at hb
  have c0 := hb.cell' (i := 0) rfl
  clear h
  go_enter Tryz.func23, Tryz.ntmps23
  go_wp2_with (first
                | (go_at_call 71; refine (pnone_yes p q _ _ _ _ hb).mono ?_; rintro e wn ⟨rfl, rfl⟩)
                | (go_at_call 74; (with_reducible refine (D).mono ?_); rintro e w2 ⟨v2, dq, rfl, h2, h3, h4⟩))
  go_ret
  exact ⟨_, dq, rfl, h2, h3, h4⟩
theorem pDown_any (p q : Nat) (v : Pv) (w : World) (h : Blk w p 130 (v.cells q)) : Calls Tryz.prog 69 #[.pointer (some ⟨p, 0, none⟩)] w fun e w' => e = .returned (.bool v.off) ∧ w = w' := by
  obtain ⟨m, off, ar, n⟩ := v
  have hb := h
  unfold Pv.cells at hb
  dsimp only at hb ⊢
  have c1 := hb.cell' (i := 1) rfl
  clear h
  go_enter Tryz.func69, Tryz.ntmps69
  go_wp2_with (go_at_call 71; refine (pnone_yes p q _ _ _ _ hb).mono ?_; rintro e wn ⟨rfl, rfl⟩)
  go_ret
  exact ⟨rfl, rfl⟩
theorem pCount_any (p q : Nat) (v : Pv) (w : World) (h : Blk w p 130 (v.cells q)) : Calls Tryz.prog 65 #[.pointer (some ⟨p, 0, none⟩)] w fun e w' => e = .returned (.int .i64 (v.n : Nat)) ∧ w = w' := by
  obtain ⟨m, off, ar, n⟩ := v
  have hb := h
  unfold Pv.cells at hb
  dsimp only at hb ⊢
  have c1 := hb.cell' (i := 3) rfl
  clear h
  go_enter Tryz.func65, Tryz.ntmps65
  go_wp2_with (go_at_call 71; refine (pnone_yes p q _ _ _ _ hb).mono ?_; rintro e wn ⟨rfl, rfl⟩)
  go_ret
  exact ⟨rfl, rfl⟩
theorem pArm_any (p q : Nat) (v : Pv) (L : List Nat) (n : Int) (w : World) (h : Pd w p q v L) (hn : n ≤ 9223372036854775807) : Calls Tryz.prog 55 #[.pointer (some ⟨p, 0, none⟩), .int .i64 n] w fun e w' => e = .returned (.int .i64 (if v.off = true then 60 else 0)) ∧ Pd w' p q (v.arm n) L ∧ Mod [p] w w' := by
  have hb := h.b
  have hfin : ∀ w', Mod [p] w w' → ∀ ar, ar = max n (-1) → v.off = false → Blk w' p 130 [.pointer (some ⟨q, 0, none⟩), .bool v.off, .int .i64 ar, .int .i64 (v.n : Nat)] → Pd w' p q (v.arm n) L := fun w' hm ar har ho hB => by
    unfold Pv.arm
    rw [ho, if_neg (by decide)]
    have := h.ok.a2
    exact ⟨by unfold Pv.cells; dsimp only; rw [← har, ← ho]; exact hB, h.d.mod hm (fun b hb hh => h.pl (by have e : b = p := (by simpa using hh); exact e ▸ hb)), ⟨h.ok.m, by dsimp only; omega, by dsimp only; omega⟩, h.pl⟩
  have hsame : v.off = true → Pd w p q (v.arm n) L := fun ho => by unfold Pv.arm; rw [if_pos ho]; exact h
  unfold Pv.cells at hb
  have c1 := hb.cell' (i := 1) rfl
  cases hoff : v.off with
  | true =>
    rw [hoff] at c1
    have hs := hsame hoff
    have HS := Lib.hid hs
    clear hs h hfin hsame hoff
    go_enter Tryz.func55, Tryz.ntmps55
    go_wp2_with (go_at_call 71; refine (pnone_yes p q _ _ _ _ hb).mono ?_; rintro e wn ⟨rfl, rfl⟩)
    go_ret
    exact ⟨rfl, HS.out, Mod.refl _ _⟩
  | false =>
    rw [hoff] at c1
    have HF := Lib.hid (fun w' hm ar har hB => hfin w' hm ar har hoff hB)
    have HO := Lib.hid hoff
    clear h hfin hsame hoff
    by_cases hneg : n < -1
    · have e1 : max n (-1) = -1 := by omega
      have y1 : n ≤ -1 := by omega
      have HE := Lib.hid e1
      clear e1
      go_enter Tryz.func55, Tryz.ntmps55
      go_wp2_with (first
                    | (with_reducible refine st_store ?_)
                    | (go_at_call 71; refine (pnone_yes p q _ _ _ _ hb).mono ?_; rintro e wn ⟨rfl, rfl⟩))
      refine StopOp.go rfl fun K hK => ?_
      refine wp_store1 (by kernel_rfl) (by rfl) (u := .int .i64 (-1)) (by rfl) ⟨rfl, rfl⟩ hb (by simp) ?_
      intro w2 hm2 hB2
      refine hK _ _ ?_
      clear hK K
      go_wp2_with fail
      go_ret
      exact ⟨rfl, HF.out _ hm2 _ HE.out.symm hB2, hm2⟩
    · have e1 : max n (-1) = n := by omega
      have y1 : -1 ≤ n := by omega
      have HE := Lib.hid e1
      clear e1
      go_enter Tryz.func55, Tryz.ntmps55
      go_wp2_with (first
                    | (with_reducible refine st_store ?_)
                    | (go_at_call 71; refine (pnone_yes p q _ _ _ _ hb).mono ?_; rintro e wn ⟨rfl, rfl⟩))
      refine StopOp.go rfl fun K hK => ?_
      refine wp_store1 (by kernel_rfl) (by rfl) (u := .int .i64 n) (by rfl) ⟨rfl, rfl⟩ hb (by simp) ?_
      intro w2 hm2 hB2
      refine hK _ _ ?_
      clear hK K
      go_wp2_with fail
      go_ret
      exact ⟨rfl, HF.out _ hm2 _ HE.out.symm hB2, hm2⟩
set_option maxHeartbeats 1000000 in
theorem pWrite_any (p q : Nat) (v : Pv) (L : List Nat) (at_ : Int) (l : List UInt8) (bw : Value) (w : World) (h : Pd w p q v L) (hb : Bs w bw l) (hbp : ∀ b ∈ blks bw, b ≠ p) (hn : v.n ≤ 1000000) (hr : v.m.row.length ≤ 1000000) :
    Calls Tryz.prog 98 #[.pointer (some ⟨p, 0, none⟩), .int .i64 at_, bw] w fun e w' => e = .returned (.int .i64 (v.e (writeE v.m at_ l.length))) ∧ PdP w p q (v.wr at_ l) L w' := by
  obtain ⟨aob, capb, rfl, _, _⟩ := hb.form
  have MD := pmade_any p q v w h.b h.ok hn
  have hd := h.d
  have hok := h.ok
  have hpl : ∀ b ∈ L, b ∉ [p] := fun b hb hh => h.pl (by have e : b = p := (by simpa using hh); exact e ▸ hb)
  have hp := h.pl
  rcases v.go_cases with ⟨hg, _, _⟩ | hg
  · have hfin : ∀ w2 w' L', Blk w2 p 130 (v.md.cells q) → Mod [p] w w2 → Ld w' (.pointer (some ⟨q, 0, none⟩)) (some (wrM v.m at_ l)) L' → Mod L w2 w' → (∀ k ∈ L', k ∈ L ∨ w2.heap.size ≤ k) → PdP w p q (v.wr at_ l) L w' := fun w2 w' L' hB hm hD hm2 hL => by
      obtain ⟨q', e1, e2, e3⟩ := hD
      injection e1 with e1
      injection e1 with e1
      injection e1 with e1
      subst e1
      have hs := hm.size
      have hpw := h.b.lt
      refine ⟨L', ⟨?_, ?_, ?_, fun hh => (hL p hh).elim hp (fun h => by omega)⟩, (hm.weak (by simp)).then hm2 (fun g hg => .inl (List.mem_cons_of_mem _ hg)), fun k hk => (hL k hk).imp id (fun h => by omega)⟩
      · unfold Pv.wr
        rw [if_pos hg]
        exact hB.mod hm2 hp
      · unfold Pv.wr
        rw [if_pos hg]
        exact e2
      · unfold Pv.wr
        rw [if_pos hg]
        exact Pv.at_ok (Pv.md_ok hok) (wrM_ok hok.m _ _)
    have HF := Lib.hid hfin
    rw [show v.e 0 = 0 from if_pos hg] at MD
    rw [show v.e (writeE v.m at_ l.length) = writeE v.m at_ l.length from if_pos hg]
    have hgo := Lib.hid hg
    clear hg hfin h
    go_enter Tryz.func98, Tryz.ntmps98
    go_wp2_with (first
                  | (go_at_call 143; (with_reducible refine (MD).mono ?_); rintro e w2 ⟨rfl, hB2, hm2⟩; have hd2 := hd.mod hm2 hpl; have hb2 : Bs w2 _ l := Sl.mod hb hm2 (fun b hb hh => hbp b hb (by simpa using hh)); have c0 := hB2.cell' (i := 0) rfl)
                  | (go_at_call 146; refine (dW_any (.pointer (some ⟨q, 0, none⟩)) _ at_ l (some v.m) L w2 ⟨q, rfl, hd2, hok.m⟩ hb2 hr).mono ?_; rintro e w3 ⟨rfl, L3, k1, k2, k3⟩))
    go_ret
    exact ⟨rfl, HF.out w2 w3 L3 hB2 hm2 k1 k2 k3⟩
  · have hfin : ∀ w2, Blk w2 p 130 (v.md.cells q) → Mod [p] w w2 → PdP w p q (v.wr at_ l) L w2 := fun w2 hB hm => by
      refine ⟨L, ⟨?_, ?_, ?_, hp⟩, hm.weak (by simp), fun k hk => .inl hk⟩
      · unfold Pv.wr
        rw [if_neg (by rw [hg]; decide)]
        exact hB
      · unfold Pv.wr
        rw [if_neg (by rw [hg]; decide), Pv.md_m]
        exact hd.mod hm hpl
      · unfold Pv.wr
        rw [if_neg (by rw [hg]; decide)]
        exact Pv.md_ok hok
    have HF := Lib.hid hfin
    rw [show v.e 0 = 60 from if_neg (by rw [hg]; decide)] at MD
    rw [show v.e (writeE v.m at_ l.length) = 60 from if_neg (by rw [hg]; decide)]
    clear hg hfin h
    go_enter Tryz.func98, Tryz.ntmps98
    go_wp2_with (go_at_call 143; (with_reducible refine (MD).mono ?_); rintro e w2 ⟨rfl, hB2, hm2⟩)
    go_ret
    exact ⟨rfl, HF.out w2 hB2 hm2⟩
set_option maxHeartbeats 1000000 in
theorem pSync_any (p q : Nat) (v : Pv) (L : List Nat) (w : World) (h : Pd w p q v L) (hn : v.n ≤ 1000000) (hr : v.m.row.length ≤ 1000000) :
    Calls Tryz.prog 99 #[.pointer (some ⟨p, 0, none⟩)] w fun e w' => e = .returned (.int .i64 (v.e (0))) ∧ PdP w p q (v.sy) L w' := by
  have MD := pmade_any p q v w h.b h.ok hn
  have hd := h.d
  have hok := h.ok
  have hpl : ∀ b ∈ L, b ∉ [p] := fun b hb hh => h.pl (by have e : b = p := (by simpa using hh); exact e ▸ hb)
  have hp := h.pl
  rcases v.go_cases with ⟨hg, _, _⟩ | hg
  · have hfin : ∀ w2 w' L', Blk w2 p 130 (v.md.cells q) → Mod [p] w w2 → Ld w' (.pointer (some ⟨q, 0, none⟩)) (some (v.m.sync)) L' → Mod L w2 w' → (∀ k ∈ L', k ∈ L ∨ w2.heap.size ≤ k) → PdP w p q (v.sy) L w' := fun w2 w' L' hB hm hD hm2 hL => by
      obtain ⟨q', e1, e2, e3⟩ := hD
      injection e1 with e1
      injection e1 with e1
      injection e1 with e1
      subst e1
      have hs := hm.size
      have hpw := h.b.lt
      refine ⟨L', ⟨?_, ?_, ?_, fun hh => (hL p hh).elim hp (fun h => by omega)⟩, (hm.weak (by simp)).then hm2 (fun g hg => .inl (List.mem_cons_of_mem _ hg)), fun k hk => (hL k hk).imp id (fun h => by omega)⟩
      · unfold Pv.sy
        rw [if_pos hg]
        exact hB.mod hm2 hp
      · unfold Pv.sy
        rw [if_pos hg]
        exact e2
      · unfold Pv.sy
        rw [if_pos hg]
        exact Pv.at_ok (Pv.md_ok hok) (hok.m.settle _)
    have HF := Lib.hid hfin
    rw [show v.e 0 = 0 from if_pos hg] at MD
    rw [show v.e (0) = 0 from if_pos hg]
    have hgo := Lib.hid hg
    clear hg hfin h
    go_enter Tryz.func99, Tryz.ntmps99
    go_wp2_with (first
                  | (go_at_call 143; (with_reducible refine (MD).mono ?_); rintro e w2 ⟨rfl, hB2, hm2⟩; have hd2 := hd.mod hm2 hpl; skip; have c0 := hB2.cell' (i := 0) rfl)
                  | (go_at_call 147; refine (dS_any (.pointer (some ⟨q, 0, none⟩)) (some v.m) L w2 ⟨q, rfl, hd2, hok.m⟩ hr).mono ?_; rintro e w3 ⟨rfl, L3, k1, k2, k3⟩))
    go_ret
    exact ⟨rfl, HF.out w2 w3 L3 hB2 hm2 k1 k2 k3⟩
  · have hfin : ∀ w2, Blk w2 p 130 (v.md.cells q) → Mod [p] w w2 → PdP w p q (v.sy) L w2 := fun w2 hB hm => by
      refine ⟨L, ⟨?_, ?_, ?_, hp⟩, hm.weak (by simp), fun k hk => .inl hk⟩
      · unfold Pv.sy
        rw [if_neg (by rw [hg]; decide)]
        exact hB
      · unfold Pv.sy
        rw [if_neg (by rw [hg]; decide), Pv.md_m]
        exact hd.mod hm hpl
      · unfold Pv.sy
        rw [if_neg (by rw [hg]; decide)]
        exact Pv.md_ok hok
    have HF := Lib.hid hfin
    rw [show v.e 0 = 60 from if_neg (by rw [hg]; decide)] at MD
    rw [show v.e (0) = 60 from if_neg (by rw [hg]; decide)]
    clear hg hfin h
    go_enter Tryz.func99, Tryz.ntmps99
    go_wp2_with (go_at_call 143; (with_reducible refine (MD).mono ?_); rintro e w2 ⟨rfl, hB2, hm2⟩)
    go_ret
    exact ⟨rfl, HF.out w2 hB2 hm2⟩
set_option maxHeartbeats 1000000 in
theorem pRead_any (p q : Nat) (v : Pv) (L : List Nat) (at_ : Int) (w : World) (h : Pd w p q v L) (hn : v.n ≤ 1000000) :
    Calls Tryz.prog 96 #[.pointer (some ⟨p, 0, none⟩), .int .i64 at_] w fun e w' => ∃ rv, e = .returned (.tuple #[rv, .int .i64 (v.e (noneE v.m.dur.length at_))]) ∧ Ob w' rv (v.rd at_) ∧ New w rv ∧ Pd w' p q v.md L ∧ Mod [p] w w' := by
  have MD := pmade_any p q v w h.b h.ok hn
  have hpl : ∀ b ∈ L, b ∉ [p] := fun b hb hh => h.pl (by have e : b = p := (by simpa using hh); exact e ▸ hb)
  have hd := h.d
  have hok := h.ok
  have HF := Lib.hid (show ∀ w2, Blk w2 p 130 (v.md.cells q) → Mod [p] w w2 → Pd w2 p q v.md L from fun w2 hB hm => ⟨hB, by rw [Pv.md_m]; exact hd.mod hm hpl, Pv.md_ok hok, h.pl⟩)
  rcases v.go_cases with ⟨hg, _, _⟩ | hg
  · have RD := fun w h => dR_any (.pointer (some ⟨q, 0, none⟩)) at_ (some v.m) L w h
    have e1 : oRE at_ (some v.m) = noneE v.m.dur.length at_ := rfl
    rw [e1] at RD
    rw [show v.rd at_ = oR at_ (some v.m) from if_pos hg, show v.e (noneE v.m.dur.length at_) = noneE v.m.dur.length at_ from if_pos hg]
    rw [show v.e 0 = 0 from if_pos hg] at MD
    obtain ⟨B, hB⟩ : ∃ B, B = oR at_ (some v.m) := ⟨_, rfl⟩
    obtain ⟨E, hE⟩ : ∃ B, B = noneE v.m.dur.length at_ := ⟨_, rfl⟩
    rw [← hB, ← hE] at RD ⊢
    clear hg hB hE e1 h
    go_enter Tryz.func96, Tryz.ntmps96
    go_wp2_with (first
                  | (go_at_call 143; (with_reducible refine (MD).mono ?_); rintro e w2 ⟨rfl, hB2, hm2⟩; have hd2 := hd.mod hm2 hpl; have c0 := hB2.cell' (i := 0) rfl)
                  | (go_at_call 144; refine (RD _ ⟨q, rfl, hd2, hok.m⟩).mono ?_; rintro e w3 ⟨v3, rfl, ho3, hn3, hm3⟩))
    go_ret2
    have := hm2.size
    exact ⟨v3, rfl, ho3, fun k hk => by have := hn3 k hk; omega, (HF.out w2 hB2 hm2).ext hm3, hm2.ext hm3⟩
  · rw [show v.rd at_ = [] from if_neg (by rw [hg]; decide), show v.e (noneE v.m.dur.length at_) = 60 from if_neg (by rw [hg]; decide)]
    rw [show v.e 0 = 60 from if_neg (by rw [hg]; decide)] at MD
    clear hg h
    go_enter Tryz.func96, Tryz.ntmps96
    go_wp2_with (go_at_call 143; (with_reducible refine (MD).mono ?_); rintro e w2 ⟨rfl, hB2, hm2⟩)
    go_ret2
    exact ⟨_, rfl, Ob.nil _, by simp [New, blks], HF.out w2 hB2 hm2, hm2⟩
set_option maxHeartbeats 2000000 in
theorem qmade_any (p q : Nat) (v : Pv) (w : World) (h : Blk w p 132 (v.cells q)) (hok : v.ok) (hn : v.n ≤ 1000000) :
    Calls Tryz.prog 188 #[.pointer (some ⟨p, 0, none⟩)] w fun e w' => e = .returned (.bool v.go) ∧ Blk w' p 132 (v.md.cells q) ∧ Mod [p] w w' := by
  obtain ⟨m, off, ar, n⟩ := v
  have a1 := hok.a1
  have a2 := hok.a2
  unfold Pv.cells at h ⊢
  dsimp only at h hn a1 a2
  have n1 : (n : Int) ≤ 1000000 := by omega
  have n0 : (0 : Int) ≤ n := by omega
  have c1 := h.cell' (i := 1) rfl
  have c2 := h.cell' (i := 2) rfl
  have c3 := h.cell' (i := 3) rfl
  clear hok
  cases off with
  | true =>
    rw [(show (Pv.mk m true ar n).go = false from rfl)]
    go_enter Tryz.func188, Tryz.ntmps188
    go_wp2_with fail
    go_ret
    exact ⟨rfl, h, Mod.refl _ _⟩
  | false =>
    by_cases h0 : ar = 0
    · subst h0
      rw [(show (Pv.mk m false 0 n).go = false from rfl)]
      go_enter Tryz.func188, Tryz.ntmps188
      go_wp2_with (with_reducible refine st_store ?_)
      refine StopOp.go rfl fun K hK => ?_
      refine wp_store1 (by kernel_rfl) (by rfl) (u := .bool true) (by rfl) ⟨rfl, rfl⟩ h (by simp) ?_
      intro w1 hm1 hB1
      refine hK _ _ ?_
      clear hK K
      go_wp2_with (with_reducible refine st_store ?_)
      refine StopOp.go rfl fun K hK => ?_
      refine wp_store1 (by kernel_rfl) (by rfl) (u := .int .i64 (-1)) (by rfl) ⟨rfl, rfl⟩ hB1 (by simp) ?_
      intro w2 hm2 hB2
      refine hK _ _ ?_
      clear hK K
      go_wp2_with fail
      go_ret
      exact ⟨rfl, hB2, hm1.trans hm2⟩
    · have e0 : (ar == 0) = false := by rw [beq_eq_false_iff_ne]; exact h0
      have eg0 : (Pv.mk m false ar n).go = true := by unfold Pv.go; simp [h0]
      have eg := (show (Pv.mk m false ar n).go = true from eg0)
      clear eg0
      by_cases h1 : 0 < ar
      · have em : (Pv.mk m false ar n).md = ⟨m, false, ar - 1, n + 1⟩ := by unfold Pv.md; simp [h0, h1]
        rw [em, eg]
        clear em eg h0
        go_enter Tryz.func188, Tryz.ntmps188
        go_wp2_with (with_reducible refine st_store ?_)
        refine StopOp.go rfl fun K hK => ?_
        refine wp_store1 (by kernel_rfl) (by rfl) (u := .int .i64 (ar - 1)) (by rfl) ⟨rfl, rfl⟩ h (by simp) ?_
        intro w1 hm1 hB1
        refine hK _ _ ?_
        clear hK K
        have d3 := hB1.cell' (i := 3) rfl
        go_wp2_with (with_reducible refine st_store ?_)
        refine StopOp.go rfl fun K hK => ?_
        refine wp_store1 (by kernel_rfl) (by rfl) (u := .int .i64 ((n : Int) + 1)) (by rfl) ⟨rfl, rfl⟩ hB1 (by simp) ?_
        intro w2 hm2 hB2
        refine hK _ _ ?_
        clear hK K
        go_wp2_with fail
        go_ret
        exact ⟨rfl, by simpa using hB2, hm1.trans hm2⟩
      · have em : (Pv.mk m false ar n).md = ⟨m, false, ar, n + 1⟩ := by unfold Pv.md; simp [h0, h1]
        rw [em, eg]
        have h2 : ar ≤ 0 := by omega
        clear em eg h0 h1
        go_enter Tryz.func188, Tryz.ntmps188
        go_wp2_with (with_reducible refine st_store ?_)
        refine StopOp.go rfl fun K hK => ?_
        refine wp_store1 (by kernel_rfl) (by rfl) (u := .int .i64 ((n : Int) + 1)) (by rfl) ⟨rfl, rfl⟩ h (by simp) ?_
        intro w2 hm2 hB2
        refine hK _ _ ?_
        clear hK K
        go_wp2_with fail
        go_ret
        exact ⟨rfl, by simpa using hB2, hm2⟩
theorem qSectors_any (p q : Nat) (v : Pv) (L : List Nat) (w : World) (h : Pr w p q v L) : Calls Tryz.prog 82 #[.pointer (some ⟨p, 0, none⟩)] w fun e w' => e = .returned (.int .i64 (v.m.dur.length : Nat)) ∧ w = w' := by
  have D : Calls Tryz.prog 138 #[.pointer (some ⟨q, 0, none⟩)] w fun e w' => e = .returned (.int .i64 (v.m.dur.length : Nat)) ∧ w = w' := rSec_any (.pointer (some ⟨q, 0, none⟩)) (some v.m) L w ⟨q, rfl, h.d, h.ok.m⟩
  have hb := h.b
  unfold Pv.cells at hb
  have c0 := hb.cell' (i := 0) rfl
  clear h
  go_enter Tryz.func82, Tryz.ntmps82
  go_wp2_with (go_at_call 138; (with_reducible refine (D).mono ?_); rintro e w2 ⟨rfl, rfl⟩)
  go_ret
  exact ⟨rfl, rfl⟩
theorem qSize_any (p q : Nat) (v : Pv) (L : List Nat) (w : World) (h : Pr w p q v L) : Calls Tryz.prog 169 #[.pointer (some ⟨p, 0, none⟩)] w fun e w' => e = .returned (.int .i64 (v.m.sz : Nat)) ∧ w = w' := by
  have D : Calls Tryz.prog 174 #[.pointer (some ⟨q, 0, none⟩)] w fun e w' => e = .returned (.int .i64 (v.m.sz : Nat)) ∧ w = w' := rSz_any (.pointer (some ⟨q, 0, none⟩)) (some v.m) L w ⟨q, rfl, h.d, h.ok.m⟩
  have hb := h.b
  unfold Pv.cells at hb
  have c0 := hb.cell' (i := 0) rfl
  clear h
  go_enter Tryz.func169, Tryz.ntmps169
  go_wp2_with (go_at_call 174; (with_reducible refine (D).mono ?_); rintro e w2 ⟨rfl, rfl⟩)
  go_ret
  exact ⟨rfl, rfl⟩
theorem qWaiting_any (p q : Nat) (v : Pv) (L : List Nat) (w : World) (h : Pr w p q v L) : Calls Tryz.prog 68 #[.pointer (some ⟨p, 0, none⟩)] w fun e w' => e = .returned (.int .i64 (v.m.row.length : Nat)) ∧ w = w' := by
  have D : Calls Tryz.prog 128 #[.pointer (some ⟨q, 0, none⟩)] w fun e w' => e = .returned (.int .i64 (v.m.row.length : Nat)) ∧ w = w' := rWt_any (.pointer (some ⟨q, 0, none⟩)) (some v.m) L w ⟨q, rfl, h.d, h.ok.m⟩
  have hb := h.b
  unfold Pv.cells at hb
  have c0 := hb.cell' (i := 0) rfl
  clear h
  go_enter Tryz.func68, Tryz.ntmps68
  go_wp2_with (go_at_call 128; (with_reducible refine (D).mono ?_); rintro e w2 ⟨rfl, rfl⟩)
  go_ret
  exact ⟨rfl, rfl⟩
theorem qImage_any (p q : Nat) (v : Pv) (L : List Nat) (w : World) (h : Pr w p q v L) : Calls Tryz.prog 24 #[.pointer (some ⟨p, 0, none⟩)] w (ImgPost w v.m.dur) := by
  have D : Calls Tryz.prog 75 #[.pointer (some ⟨q, 0, none⟩)] w (ImgPost w v.m.dur) := rI_any (.pointer (some ⟨q, 0, none⟩)) (some v.m) L w ⟨q, rfl, h.d, h.ok.m⟩
  unfold ImgPost at D ⊢
  have hb := h.b
  unfold Pv.cells at hb
  have c0 := hb.cell' (i := 0) rfl
  clear h
  go_enter Tryz.func24, Tryz.ntmps24
  go_wp2_with (go_at_call 75; (with_reducible refine (D).mono ?_); rintro e w2 ⟨v2, dq, rfl, h2, h3, h4⟩)
  go_ret
  exact ⟨_, dq, rfl, h2, h3, h4⟩
theorem qDown_any (p q : Nat) (v : Pv) (w : World) (h : Blk w p 132 (v.cells q)) : Calls Tryz.prog 70 #[.pointer (some ⟨p, 0, none⟩)] w fun e w' => e = .returned (.bool v.off) ∧ w = w' := by
  obtain ⟨m, off, ar, n⟩ := v
  have hb := h
  unfold Pv.cells at hb
  dsimp only at hb ⊢
  have c1 := hb.cell' (i := 1) rfl
  clear h
  go_enter Tryz.func70, Tryz.ntmps70
  go_wp2_with fail
  go_ret
  exact ⟨rfl, rfl⟩
theorem qCount_any (p q : Nat) (v : Pv) (w : World) (h : Blk w p 132 (v.cells q)) : Calls Tryz.prog 66 #[.pointer (some ⟨p, 0, none⟩)] w fun e w' => e = .returned (.int .i64 (v.n : Nat)) ∧ w = w' := by
  obtain ⟨m, off, ar, n⟩ := v
  have hb := h
  unfold Pv.cells at hb
  dsimp only at hb ⊢
  have c1 := hb.cell' (i := 3) rfl
  clear h
  go_enter Tryz.func66, Tryz.ntmps66
  go_wp2_with fail
  go_ret
  exact ⟨rfl, rfl⟩
theorem qArm_any (p q : Nat) (v : Pv) (L : List Nat) (n : Int) (w : World) (h : Pr w p q v L) (hn : n ≤ 9223372036854775807) : Calls Tryz.prog 56 #[.pointer (some ⟨p, 0, none⟩), .int .i64 n] w fun e w' => e = .returned (.int .i64 (if v.off = true then 60 else 0)) ∧ Pr w' p q (v.arm n) L ∧ Mod [p] w w' := by
  have hb := h.b
  have hfin : ∀ w', Mod [p] w w' → ∀ ar, ar = max n (-1) → v.off = false → Blk w' p 132 [.pointer (some ⟨q, 0, none⟩), .bool v.off, .int .i64 ar, .int .i64 (v.n : Nat)] → Pr w' p q (v.arm n) L := fun w' hm ar har ho hB => by
    unfold Pv.arm
    rw [ho, if_neg (by decide)]
    have := h.ok.a2
    exact ⟨by unfold Pv.cells; dsimp only; rw [← har, ← ho]; exact hB, h.d.mod hm (fun b hb hh => h.pl (by have e : b = p := (by simpa using hh); exact e ▸ hb)), ⟨h.ok.m, by dsimp only; omega, by dsimp only; omega⟩, h.pl⟩
  have hsame : v.off = true → Pr w p q (v.arm n) L := fun ho => by unfold Pv.arm; rw [if_pos ho]; exact h
  unfold Pv.cells at hb
  have c1 := hb.cell' (i := 1) rfl
  cases hoff : v.off with
  | true =>
    rw [hoff] at c1
    have hs := hsame hoff
    have HS := Lib.hid hs
    clear hs h hfin hsame hoff
    go_enter Tryz.func56, Tryz.ntmps56
    go_wp2_with fail
    go_ret
    exact ⟨rfl, HS.out, Mod.refl _ _⟩
  | false =>
    rw [hoff] at c1
    have HF := Lib.hid (fun w' hm ar har hB => hfin w' hm ar har hoff hB)
    have HO := Lib.hid hoff
    clear h hfin hsame hoff
    by_cases hneg : n < -1
    · have e1 : max n (-1) = -1 := by omega
      have y1 : n ≤ -1 := by omega
      have HE := Lib.hid e1
      clear e1
      go_enter Tryz.func56, Tryz.ntmps56
      go_wp2_with (with_reducible refine st_store ?_)
      refine StopOp.go rfl fun K hK => ?_
      refine wp_store1 (by kernel_rfl) (by rfl) (u := .int .i64 (-1)) (by rfl) ⟨rfl, rfl⟩ hb (by simp) ?_
      intro w2 hm2 hB2
      refine hK _ _ ?_
      clear hK K
      go_wp2_with fail
      go_ret
      exact ⟨rfl, HF.out _ hm2 _ HE.out.symm hB2, hm2⟩
    · have e1 : max n (-1) = n := by omega
      have y1 : -1 ≤ n := by omega
      have HE := Lib.hid e1
      clear e1
      go_enter Tryz.func56, Tryz.ntmps56
      go_wp2_with (with_reducible refine st_store ?_)
      refine StopOp.go rfl fun K hK => ?_
      refine wp_store1 (by kernel_rfl) (by rfl) (u := .int .i64 n) (by rfl) ⟨rfl, rfl⟩ hb (by simp) ?_
      intro w2 hm2 hB2
      refine hK _ _ ?_
      clear hK K
      go_wp2_with fail
      go_ret
      exact ⟨rfl, HF.out _ hm2 _ HE.out.symm hB2, hm2⟩
set_option maxHeartbeats 1000000 in
theorem qWrite_any (p q : Nat) (v : Pv) (L : List Nat) (at_ : Int) (l : List UInt8) (bw : Value) (w : World) (h : Pr w p q v L) (hb : Bs w bw l) (hbp : ∀ b ∈ blks bw, b ≠ p) (hn : v.n ≤ 1000000) (hr : v.m.row.length ≤ 1000000) :
    Calls Tryz.prog 171 #[.pointer (some ⟨p, 0, none⟩), .int .i64 at_, bw] w fun e w' => e = .returned (.int .i64 (v.e (writeE v.m at_ l.length))) ∧ PrP w p q (v.wr at_ l) L w' := by
  obtain ⟨aob, capb, rfl, _, _⟩ := hb.form
  have MD := qmade_any p q v w h.b h.ok hn
  have hd := h.d
  have hok := h.ok
  have hpl : ∀ b ∈ L, b ∉ [p] := fun b hb hh => h.pl (by have e : b = p := (by simpa using hh); exact e ▸ hb)
  have hp := h.pl
  rcases v.go_cases with ⟨hg, _, _⟩ | hg
  · have hfin : ∀ w2 w' L', Blk w2 p 132 (v.md.cells q) → Mod [p] w w2 → Lr w' (.pointer (some ⟨q, 0, none⟩)) (some (wrM v.m at_ l)) L' → Mod L w2 w' → (∀ k ∈ L', k ∈ L ∨ w2.heap.size ≤ k) → PrP w p q (v.wr at_ l) L w' := fun w2 w' L' hB hm hD hm2 hL => by
      obtain ⟨q', e1, e2, e3⟩ := hD
      injection e1 with e1
      injection e1 with e1
      injection e1 with e1
      subst e1
      have hs := hm.size
      have hpw := h.b.lt
      refine ⟨L', ⟨?_, ?_, ?_, fun hh => (hL p hh).elim hp (fun h => by omega)⟩, (hm.weak (by simp)).then hm2 (fun g hg => .inl (List.mem_cons_of_mem _ hg)), fun k hk => (hL k hk).imp id (fun h => by omega)⟩
      · unfold Pv.wr
        rw [if_pos hg]
        exact hB.mod hm2 hp
      · unfold Pv.wr
        rw [if_pos hg]
        exact e2
      · unfold Pv.wr
        rw [if_pos hg]
        exact Pv.at_ok (Pv.md_ok hok) (wrM_ok hok.m _ _)
    have HF := Lib.hid hfin
    rw [hg] at MD
    rw [show v.e (writeE v.m at_ l.length) = writeE v.m at_ l.length from if_pos hg]
    have hgo := Lib.hid hg
    clear hg hfin h
    go_enter Tryz.func171, Tryz.ntmps171
    go_wp2_with (first
                  | (go_at_call 188; (with_reducible refine (MD).mono ?_); rintro e w2 ⟨rfl, hB2, hm2⟩; have hd2 := hd.mod hm2 hpl; have hb2 : Bs w2 _ l := Sl.mod hb hm2 (fun b hb hh => hbp b hb (by simpa using hh)); have c0 := hB2.cell' (i := 0) rfl)
                  | (go_at_call 190; refine (rW_any (.pointer (some ⟨q, 0, none⟩)) _ at_ l (some v.m) L w2 ⟨q, rfl, hd2, hok.m⟩ hb2 hr).mono ?_; rintro e w3 ⟨rfl, L3, k1, k2, k3⟩))
    go_ret
    exact ⟨rfl, HF.out w2 w3 L3 hB2 hm2 k1 k2 k3⟩
  · have hfin : ∀ w2, Blk w2 p 132 (v.md.cells q) → Mod [p] w w2 → PrP w p q (v.wr at_ l) L w2 := fun w2 hB hm => by
      refine ⟨L, ⟨?_, ?_, ?_, hp⟩, hm.weak (by simp), fun k hk => .inl hk⟩
      · unfold Pv.wr
        rw [if_neg (by rw [hg]; decide)]
        exact hB
      · unfold Pv.wr
        rw [if_neg (by rw [hg]; decide), Pv.md_m]
        exact hd.mod hm hpl
      · unfold Pv.wr
        rw [if_neg (by rw [hg]; decide)]
        exact Pv.md_ok hok
    have HF := Lib.hid hfin
    rw [hg] at MD
    rw [show v.e (writeE v.m at_ l.length) = 60 from if_neg (by rw [hg]; decide)]
    clear hg hfin h
    go_enter Tryz.func171, Tryz.ntmps171
    go_wp2_with (go_at_call 188; (with_reducible refine (MD).mono ?_); rintro e w2 ⟨rfl, hB2, hm2⟩)
    go_ret
    exact ⟨rfl, HF.out w2 hB2 hm2⟩
set_option maxHeartbeats 1000000 in
theorem qSync_any (p q : Nat) (v : Pv) (L : List Nat) (w : World) (h : Pr w p q v L) (hn : v.n ≤ 1000000) (hr : v.m.row.length ≤ 1000000) :
    Calls Tryz.prog 173 #[.pointer (some ⟨p, 0, none⟩)] w fun e w' => e = .returned (.int .i64 (v.e (0))) ∧ PrP w p q (v.sy) L w' := by
  have MD := qmade_any p q v w h.b h.ok hn
  have hd := h.d
  have hok := h.ok
  have hpl : ∀ b ∈ L, b ∉ [p] := fun b hb hh => h.pl (by have e : b = p := (by simpa using hh); exact e ▸ hb)
  have hp := h.pl
  rcases v.go_cases with ⟨hg, _, _⟩ | hg
  · have hfin : ∀ w2 w' L', Blk w2 p 132 (v.md.cells q) → Mod [p] w w2 → Lr w' (.pointer (some ⟨q, 0, none⟩)) (some (v.m.sync)) L' → Mod L w2 w' → (∀ k ∈ L', k ∈ L ∨ w2.heap.size ≤ k) → PrP w p q (v.sy) L w' := fun w2 w' L' hB hm hD hm2 hL => by
      obtain ⟨q', e1, e2, e3⟩ := hD
      injection e1 with e1
      injection e1 with e1
      injection e1 with e1
      subst e1
      have hs := hm.size
      have hpw := h.b.lt
      refine ⟨L', ⟨?_, ?_, ?_, fun hh => (hL p hh).elim hp (fun h => by omega)⟩, (hm.weak (by simp)).then hm2 (fun g hg => .inl (List.mem_cons_of_mem _ hg)), fun k hk => (hL k hk).imp id (fun h => by omega)⟩
      · unfold Pv.sy
        rw [if_pos hg]
        exact hB.mod hm2 hp
      · unfold Pv.sy
        rw [if_pos hg]
        exact e2
      · unfold Pv.sy
        rw [if_pos hg]
        exact Pv.at_ok (Pv.md_ok hok) (hok.m.settle _)
    have HF := Lib.hid hfin
    rw [hg] at MD
    rw [show v.e (0) = 0 from if_pos hg]
    have hgo := Lib.hid hg
    clear hg hfin h
    go_enter Tryz.func173, Tryz.ntmps173
    go_wp2_with (first
                  | (go_at_call 188; (with_reducible refine (MD).mono ?_); rintro e w2 ⟨rfl, hB2, hm2⟩; have hd2 := hd.mod hm2 hpl; skip; have c0 := hB2.cell' (i := 0) rfl)
                  | (go_at_call 193; refine (rS_any (.pointer (some ⟨q, 0, none⟩)) (some v.m) L w2 ⟨q, rfl, hd2, hok.m⟩ hr).mono ?_; rintro e w3 ⟨rfl, L3, k1, k2, k3⟩))
    go_ret
    exact ⟨rfl, HF.out w2 w3 L3 hB2 hm2 k1 k2 k3⟩
  · have hfin : ∀ w2, Blk w2 p 132 (v.md.cells q) → Mod [p] w w2 → PrP w p q (v.sy) L w2 := fun w2 hB hm => by
      refine ⟨L, ⟨?_, ?_, ?_, hp⟩, hm.weak (by simp), fun k hk => .inl hk⟩
      · unfold Pv.sy
        rw [if_neg (by rw [hg]; decide)]
        exact hB
      · unfold Pv.sy
        rw [if_neg (by rw [hg]; decide), Pv.md_m]
        exact hd.mod hm hpl
      · unfold Pv.sy
        rw [if_neg (by rw [hg]; decide)]
        exact Pv.md_ok hok
    have HF := Lib.hid hfin
    rw [hg] at MD
    rw [show v.e (0) = 60 from if_neg (by rw [hg]; decide)]
    clear hg hfin h
    go_enter Tryz.func173, Tryz.ntmps173
    go_wp2_with (go_at_call 188; (with_reducible refine (MD).mono ?_); rintro e w2 ⟨rfl, hB2, hm2⟩)
    go_ret
    exact ⟨rfl, HF.out w2 hB2 hm2⟩
set_option maxHeartbeats 1000000 in
theorem qRead_any (p q : Nat) (v : Pv) (L : List Nat) (at_ : Int) (w : World) (h : Pr w p q v L) (hn : v.n ≤ 1000000) :
    Calls Tryz.prog 170 #[.pointer (some ⟨p, 0, none⟩), .int .i64 at_] w fun e w' => ∃ rv, e = .returned (.tuple #[rv, .int .i64 (v.e (noneE v.m.dur.length at_))]) ∧ Ob w' rv (v.rd at_) ∧ New w rv ∧ Pr w' p q v.md L ∧ Mod [p] w w' := by
  have MD := qmade_any p q v w h.b h.ok hn
  have hpl : ∀ b ∈ L, b ∉ [p] := fun b hb hh => h.pl (by have e : b = p := (by simpa using hh); exact e ▸ hb)
  have hd := h.d
  have hok := h.ok
  have HF := Lib.hid (show ∀ w2, Blk w2 p 132 (v.md.cells q) → Mod [p] w w2 → Pr w2 p q v.md L from fun w2 hB hm => ⟨hB, by rw [Pv.md_m]; exact hd.mod hm hpl, Pv.md_ok hok, h.pl⟩)
  rcases v.go_cases with ⟨hg, _, _⟩ | hg
  · have RD := fun w h => rR_any (.pointer (some ⟨q, 0, none⟩)) at_ (some v.m) L w h
    have e1 : oRE at_ (some v.m) = noneE v.m.dur.length at_ := rfl
    rw [e1] at RD
    rw [show v.rd at_ = oR at_ (some v.m) from if_pos hg, show v.e (noneE v.m.dur.length at_) = noneE v.m.dur.length at_ from if_pos hg]
    rw [hg] at MD
    obtain ⟨B, hB⟩ : ∃ B, B = oR at_ (some v.m) := ⟨_, rfl⟩
    obtain ⟨E, hE⟩ : ∃ B, B = noneE v.m.dur.length at_ := ⟨_, rfl⟩
    rw [← hB, ← hE] at RD ⊢
    clear hg hB hE e1 h
    go_enter Tryz.func170, Tryz.ntmps170
    go_wp2_with (first
                  | (go_at_call 188; (with_reducible refine (MD).mono ?_); rintro e w2 ⟨rfl, hB2, hm2⟩; have hd2 := hd.mod hm2 hpl; have c0 := hB2.cell' (i := 0) rfl)
                  | (go_at_call 189; refine (RD _ ⟨q, rfl, hd2, hok.m⟩).mono ?_; rintro e w3 ⟨v3, rfl, ho3, hn3, hm3⟩))
    go_ret2
    have := hm2.size
    exact ⟨v3, rfl, ho3, fun k hk => by have := hn3 k hk; omega, (HF.out w2 hB2 hm2).ext hm3, hm2.ext hm3⟩
  · rw [show v.rd at_ = [] from if_neg (by rw [hg]; decide), show v.e (noneE v.m.dur.length at_) = 60 from if_neg (by rw [hg]; decide)]
    rw [hg] at MD
    clear hg h
    go_enter Tryz.func170, Tryz.ntmps170
    go_wp2_with (go_at_call 188; (with_reducible refine (MD).mono ?_); rintro e w2 ⟨rfl, hB2, hm2⟩)
    go_ret2
    exact ⟨_, rfl, Ob.nil _, by simp [New, blks], HF.out w2 hB2 hm2, hm2⟩
end Go.Proofs.YtfepggdljhiemaaGreatDoor

/-! Devices: New, Restart; PowerNil. -/
namespace Go.Proofs.YtfepggdljhiemaaGreatDoor
open Go.RowKit Gw

theorem pnew_yes (q : Nat) (m : Dm) (L : List Nat) (w : World) (h : Dk w q m L) (hok : m.ok) : Calls Tryz.prog 28 #[.pointer (some ⟨q, 0, none⟩)] w fun e w' => ∃ p, e = .returned (.tuple #[.pointer (some ⟨p, 0, none⟩), .int .i64 0]) ∧ Pd w' p q ⟨m, false, -1, 0⟩ L ∧ w.heap.size ≤ p ∧ Mod [] w w' := by
  have SE := fun w h => dSectors_any q m L w h hok.s1
  have hn := hok.n1
  obtain ⟨n, hnn⟩ : ∃ n, n = m.dur.length := ⟨_, rfl⟩
  rw [← hnn] at SE hn
  have e0 : ((n : Int) == 0) = false := by rw [beq_eq_false_iff_ne]; omega
  clear hnn hn
  go_enter Tryz.func28, Tryz.ntmps28
  go_wp2_with (first
                | (with_reducible refine st_box ?_)
                | (go_at_call 78; (with_reducible refine (SE _ h).mono ?_); rintro e w1 ⟨rfl, rfl⟩))
  refine StopOp.go rfl fun K hK => ?_
  refine wp_box (v := .agg #[.pointer (some ⟨q, 0, none⟩), .bool false, .int .i64 (-1), .int .i64 0]) (by rfl) ?_
  intro p w2 hp1 hp2 hm2 hB2
  simp only [put_some, List.set_cons_succ, List.set_cons_zero]
  refine hK _ _ ?_
  clear hK K
  go_wp2_with fail
  go_ret2
  exact ⟨p, rfl, ⟨hB2, h.ext hm2, ⟨hok, by dsimp only; omega, by dsimp only; omega⟩, fun hh => by have := h.lt p hh; omega⟩, hp1, hm2⟩
set_option maxHeartbeats 2000000 in
theorem pRestart_any (p q : Nat) (v : Pv) (L : List Nat) (F : List (Int × Int)) (fv : Value) (w : World) (h : Pd w p q v L) (hr : v.m.row.length ≤ 1000000) (hF : Fs w fv F) (hFL : F ≠ [] → ∀ b ∈ blks fv, b ∉ L) :
    Calls Tryz.prog 20 #[.pointer (some ⟨p, 0, none⟩), fv] w fun e w' => e = .returned (.int .i64 0) ∧ PdP w p q (v.re F) L w' := by
  obtain ⟨ao, cap, rfl, _, _⟩ := hF.form
  have CR := dcrash_any q v.m L F (.slice ao F.length cap) w h.d h.ok.m (by omega) hF hFL
  have hb := h.b
  have hp := h.pl
  have hok := h.ok
  obtain ⟨m, off, ar, n⟩ := v
  unfold Pv.cells at hb
  dsimp only at hb CR hok
  have c0 := hb.cell' (i := 0) rfl
  have hs0 := hb.lt
  clear h
  go_enter Tryz.func20, Tryz.ntmps20
  go_wp2_with (first
                | (with_reducible refine st_store ?_)
                | (go_at_call 71; refine (pnone_yes p q _ _ _ _ hb).mono ?_; rintro e wn ⟨rfl, rfl⟩)
                | (go_at_call 72; (with_reducible refine (CR).mono ?_); rintro e w2 ⟨rfl, hp2⟩; obtain ⟨L2, hD2, hm2, hL2⟩ := hp2; have hb2 := hb.mod hm2 hp))
  refine StopOp.go rfl fun K hK => ?_
  refine wp_store1 (by kernel_rfl) (by rfl) (u := .bool false) (by rfl) ⟨rfl, rfl⟩ hb2 (by simp) ?_
  intro w3 hm3 hb3
  refine hK _ _ ?_
  clear hK K
  go_wp2_with (with_reducible refine st_store ?_)
  refine StopOp.go rfl fun K hK => ?_
  refine wp_store1 (by kernel_rfl) (by rfl) (u := .int .i64 (-1)) (by rfl) ⟨rfl, rfl⟩ hb3 (by simp) ?_
  intro w4 hm4 hb4
  refine hK _ _ ?_
  clear hK K
  go_wp2_with (with_reducible refine st_store ?_)
  refine StopOp.go rfl fun K hK => ?_
  refine wp_store1 (by kernel_rfl) (by rfl) (u := .int .i64 0) (by rfl) ⟨rfl, rfl⟩ hb4 (by simp) ?_
  intro w5 hm5 hb5
  refine hK _ _ ?_
  clear hK K
  go_wp2_with fail
  go_ret
  have hmp := (hm3.trans hm4).trans hm5
  have hpL : ∀ b ∈ L2, b ∉ [p] := fun b hbL hh => by
    have e : b = p := by simpa using hh
    rw [e] at hbL
    exact (hL2 p hbL).elim hp (fun h => by omega)
  refine ⟨rfl, L2, ⟨hb5, hD2.mod hmp hpL, ⟨hok.m.settle _, by dsimp only [Pv.re]; omega, by dsimp only [Pv.re]; omega⟩, fun hh => hpL p hh (by simp)⟩, (hm2.weak (fun g hg => .inl (List.mem_cons_of_mem _ hg))).then hmp (fun g hg => .inl (by have : g = p := (by simpa using hg); rw [this]; exact List.mem_cons_self)), hL2⟩
end Go.Proofs.YtfepggdljhiemaaGreatDoor

/-! Devices: awake; PowerNil. -/
namespace Go.Proofs.YtfepggdljhiemaaGreatDoor
open Go.RowKit Gw

section
variable {w w1 w' : World} {p q : Nat} {v : Pv} {L : List Nat} {u : Value} {l : List UInt8}
theorem PdP.step (h : PdP w p q v L w') : ∃ L', Pd w' p q v L' ∧ Mod (p :: L) w w' ∧ ∀ k ∈ L', k ∈ L ∨ w.heap.size ≤ k := h
end
/-- a device of one's own -/
structure Ps (W w : World) (p q : Nat) (v : Pv) (L : List Nat) : Prop where
  d : Pd w p q v L
  m : Mod [] W w
  p1 : W.heap.size ≤ p
  l1 : ∀ k ∈ L, W.heap.size ≤ k
section
variable {W w w' : World} {p q : Nat} {v v' : Pv} {L L' : List Nat} {u : Value} {l : List UInt8}
theorem Ps.ext (h : Ps W w p q v L) (hm : Mod [] w w') : Ps W w' p q v L := ⟨h.d.ext hm, h.m.ext hm, h.p1, h.l1⟩
theorem Ps.ge (h : Ps W w p q v L) : ∀ g ∈ p :: L, W.heap.size ≤ g := fun g hg => (List.mem_cons.1 hg).elim (fun e => e ▸ h.p1) (h.l1 g)
theorem Ps.turn (h : Ps W w p q v L) (hd : Pd w' p q v' L') (hm : Mod (p :: L) w w') (hL : ∀ k ∈ L', k ∈ L ∨ w.heap.size ≤ k) : Ps W w' p q v' L' :=
  ⟨hd, h.m.fresh hm h.ge, h.p1, fun k hk => (hL k hk).elim (h.l1 k) fun h1 => Nat.le_trans h.m.size h1⟩
theorem Ps.out (h : Ps W w p q v L) (ho : Ob w' u l) (hn : New w u) : ∀ b ∈ blks u, b ∉ p :: L := fun b hb hh => by
  have := hn b hb
  rcases List.mem_cons.1 hh with e | e
  · have := h.d.b.lt; omega
  · have := h.d.d.lt b e; omega
end
end Go.Proofs.YtfepggdljhiemaaGreatDoor

/-! Devices: the reference's New and Restart; copies. -/
namespace Go.Proofs.YtfepggdljhiemaaGreatDoor
open Go.RowKit Gw

theorem qnew_any (q : Nat) (m : Dm) (L : List Nat) (w : World) (h : Rk w q m L) (hok : m.ok) : Calls Tryz.prog 32 #[.pointer (some ⟨q, 0, none⟩)] w fun e w' => ∃ p, e = .returned (.pointer (some ⟨p, 0, none⟩)) ∧ Pr w' p q ⟨m, false, -1, 0⟩ L ∧ w.heap.size ≤ p ∧ Mod [] w w' := by
  go_enter Tryz.func32, Tryz.ntmps32
  go_wp2_with (with_reducible refine st_box ?_)
  refine StopOp.go rfl fun K hK => ?_
  refine wp_box (v := .agg #[.pointer (some ⟨q, 0, none⟩), .bool false, .int .i64 (-1), .int .i64 0]) (by rfl) ?_
  intro p w2 hp1 hp2 hm2 hB2
  simp only [put_some, List.set_cons_succ, List.set_cons_zero]
  refine hK _ _ ?_
  clear hK K
  go_wp2_with fail
  go_ret
  exact ⟨p, rfl, ⟨hB2, h.ext hm2, ⟨hok, by dsimp only; omega, by dsimp only; omega⟩, fun hh => by have := h.lt p hh; omega⟩, hp1, hm2⟩
set_option maxHeartbeats 2000000 in
theorem qRestart_any (p q : Nat) (v : Pv) (L : List Nat) (F : List (Int × Int)) (fv : Value) (w : World) (h : Pr w p q v L) (hr : v.m.row.length ≤ 1000000) (hF : Fs w fv F) (hFL : F ≠ [] → ∀ b ∈ blks fv, b ∉ L) :
    Calls Tryz.prog 21 #[.pointer (some ⟨p, 0, none⟩), fv] w fun e w' => e = .returned (.int .i64 0) ∧ PrP w p q (v.re F) L w' := by
  obtain ⟨ao, cap, rfl, _, _⟩ := hF.form
  have CR := rcrash_any q v.m L F (.slice ao F.length cap) w h.d h.ok.m (by omega) hF hFL
  have hb := h.b
  have hp := h.pl
  have hok := h.ok
  obtain ⟨m, off, ar, n⟩ := v
  unfold Pv.cells at hb
  dsimp only at hb CR hok
  have c0 := hb.cell' (i := 0) rfl
  have hs0 := hb.lt
  clear h
  go_enter Tryz.func21, Tryz.ntmps21
  go_wp2_with (first
                | (with_reducible refine st_store ?_)
                | (go_at_call 73; (with_reducible refine (CR).mono ?_); rintro e w2 ⟨rfl, hp2⟩; obtain ⟨L2, hD2, hm2, hL2⟩ := hp2; have hb2 := hb.mod hm2 hp))
  refine StopOp.go rfl fun K hK => ?_
  refine wp_store1 (by kernel_rfl) (by rfl) (u := .bool false) (by rfl) ⟨rfl, rfl⟩ hb2 (by simp) ?_
  intro w3 hm3 hb3
  refine hK _ _ ?_
  clear hK K
  go_wp2_with (with_reducible refine st_store ?_)
  refine StopOp.go rfl fun K hK => ?_
  refine wp_store1 (by kernel_rfl) (by rfl) (u := .int .i64 (-1)) (by rfl) ⟨rfl, rfl⟩ hb3 (by simp) ?_
  intro w4 hm4 hb4
  refine hK _ _ ?_
  clear hK K
  go_wp2_with (with_reducible refine st_store ?_)
  refine StopOp.go rfl fun K hK => ?_
  refine wp_store1 (by kernel_rfl) (by rfl) (u := .int .i64 0) (by rfl) ⟨rfl, rfl⟩ hb4 (by simp) ?_
  intro w5 hm5 hb5
  refine hK _ _ ?_
  clear hK K
  go_wp2_with fail
  go_ret
  have hmp := (hm3.trans hm4).trans hm5
  have hpL : ∀ b ∈ L2, b ∉ [p] := fun b hbL hh => by
    have e : b = p := by simpa using hh
    rw [e] at hbL
    exact (hL2 p hbL).elim hp (fun h => by omega)
  refine ⟨rfl, L2, ⟨hb5, hD2.mod hmp hpL, ⟨hok.m.settle _, by dsimp only [Pv.re]; omega, by dsimp only [Pv.re]; omega⟩, fun hh => hpL p hh (by simp)⟩, (hm2.weak (fun g hg => .inl (List.mem_cons_of_mem _ hg))).then hmp (fun g hg => .inl (by have : g = p := (by simpa using hg); rw [this]; exact List.mem_cons_self)), hL2⟩
end Go.Proofs.YtfepggdljhiemaaGreatDoor
