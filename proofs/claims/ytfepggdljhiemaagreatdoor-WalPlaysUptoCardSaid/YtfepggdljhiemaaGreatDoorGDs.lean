import Derived.Laws.CopyRow
import Derived.Laws.IdiomCopy
import Derived.Test.YtfepggdljhiemaaGreatDoorGOct
import Derived.Test.YtfepggdljhiemaaGreatDoorGMem
import Derived.Test.YtfepggdljhiemaaGreatDoorGDk
import Derived.Test.YtfepggdljhiemaaGreatDoorGOe
/-! 'copy' into a slice at the head of a block that is known whole. -/
set_option linter.unusedVariables false
set_option linter.unusedSimpArgs false
set_option maxRecDepth 100000
namespace Go.Proofs.YtfepggdljhiemaaGreatDoor
open Go.RowKit Gw

theorem Mod.setRow (w : World) (g : Nat) (cs : Array Value) : Mod [g] w (w.setRow g cs) := ⟨rfl, rfl, rfl, by simp [World.setRow], fun k _ hk => by
  simp only [World.setRow, Array.getElem?_modify]
  rw [if_neg (by simp at hk; omega)]⟩
theorem Blk.setRow {w : World} {g : Nat} {t : TypeId} {cs : List Value} (h : Blk w g t cs) (ds : List Value) : Blk (w.setRow g ds.toArray) g t ds := by
  unfold Blk at h ⊢
  simp [World.setRow, Array.getElem?_modify, h]
theorem add_addr (b o j : Nat) : (⟨b, o, none⟩ : Addr).add j = ⟨b, o + j, none⟩ := by cases j <;> simp [Addr.add]
theorem run_copy_head {P : Program} {w : World} {T elem ty t : TypeId} {g n cap m : Nat} {v : Value} {xs ys rest : List Value} (k : Nat) (hk : k = min m n) (hu : P.underlying T = some (.slice elem)) (hs : (P.info? elem).map (·.size) = some 1)
    (hb : Blk w g t (xs ++ rest)) (hx : xs.length = n) (hv : Sl w 1 v m ys) (h1 : ∀ u ∈ ys, u.oneCell' = true) :
    ∃ w', (Builtin.copy_ #[T, T] ty #[.slice (some ⟨g, 0, none⟩) n cap, v]).run P w = .ok (goInt k) w' ∧ Blk w' g t (ys.take k ++ xs.drop k ++ rest) ∧ Mod [g] w w' := by
  obtain ⟨ao, cap2, rfl, hl, hc, hm, hn, hcell⟩ := hv
  rw [Nat.mul_one] at hl
  by_cases h0 : k = 0
  · subst h0
    exact ⟨w, run_copy_none w T T ty elem _ _ _ _ _ _ hu hs hk.symm, by simpa using hb, Mod.refl _ _⟩
  · cases ao with
    | none =>
      have := hn rfl
      exact absurd (show k = 0 by omega) h0
    | some ad =>
      obtain ⟨hsp, hcl⟩ := hcell ad rfl
      obtain ⟨bb, off, sp⟩ := ad
      have hsp' : sp = none := hsp (by omega)
      subst hsp'
      have hlen : (ys.take k).length = k := by rw [List.length_take]; omega
      have hr := run_copy_row (P := P) w T T ty elem g 0 n cap ⟨bb, off, none⟩ m cap2 (xs ++ rest).toArray t (ys.take k) hu hs hb (by rw [hlen]; exact hk)
        (fun j u hj => by
          have hj' : ys[j]? = some u := by
            rw [List.getElem?_take] at hj
            split at hj
            · exact hj
            · cases hj
          rw [add_addr]
          exact hcl j u hj')
        (by rw [hlen]; simp; omega) (fun u hu => h1 u (List.mem_of_mem_take hu))
      rw [hlen] at hr
      refine ⟨_, hr, ?_, Mod.setRow _ _ _⟩
      have := Blk.setRow hb (ys.take k ++ xs.drop k ++ rest)
      have e : ((xs ++ rest).toArray.toList.take 0 ++ ys.take k ++ (xs ++ rest).toArray.toList.drop (0 + k)) = ys.take k ++ xs.drop k ++ rest := by
        simp only [List.take_zero, List.nil_append, Nat.zero_add]
        rw [List.drop_append_of_le_length (by omega), List.append_assoc]
      rw [e]
      exact this
section
variable {P : Program} {a : Act} {w : World} {K : Act → World → Prop} {Q : Exit → Act → World → Prop}
variable {d : Option Tmp} {ty : TypeId} {ps : String} {af : Array Edge} {gd : Option (Nat × Bool)}
theorem wp_copy_head (k : Nat) {T elem t : TypeId} {g n cap m : Nat} {s x : Operand} {v : Value} {xs ys rest : List Value} (hk : k = min m n) (hu : P.underlying T = some (.slice elem)) (hsz : (P.info? elem).map (·.size) = some 1)
    (hs : a.eval s = .slice (some ⟨g, 0, none⟩) n cap) (hx : a.eval x = v)
    (hb : Blk w g t (xs ++ rest)) (hxl : xs.length = n) (hv : Sl w 1 v m ys) (h1 : ∀ u ∈ ys, u.oneCell' = true)
    (h : ∀ w', Blk w' g t (ys.take k ++ xs.drop k ++ rest) → Mod [g] w w' → K (a.put d (goInt k)) w') :
    Oper.wp P { dst := d, op := .call { callee := .builtin .copy, args := #[s, x], argTypes := #[T, T] }, type := ty, pos := ps, after := af, guard := gd } a w K Q := by
  obtain ⟨w', hr, h2, h3⟩ := run_copy_head (ty := ty) (cap := cap) k hk hu hsz hb hxl hv h1
  unfold Oper.wp execOp
  simp only [resolve, invoke, builtin, Sem.run_bind, Sem.run_pure, Result.andThen_ok, List.map_toArray, List.map_cons, List.map_nil, hs, hx, hr]
  exact h w' h2 h3
end
/-- what a lent list is behind a copy into it -/
def over (c l : List UInt8) : List UInt8 := c.take (min c.length l.length) ++ l.drop (min c.length l.length)
end Go.Proofs.YtfepggdljhiemaaGreatDoor

namespace Go.Proofs.YtfepggdljhiemaaGreatDoor
open Go.RowKit Gw

theorem Lt.cell {w : World} {g cap : Nat} {l : List UInt8} (h : Lt w g cap l) {i : Nat} (hi : i < l.length + 12) : w.cell? ⟨g, i, none⟩ = some (.int .u8 (((l ++ marks 1 12)[i]'(by rw [List.length_append, marks_length]; exact hi)).toNat : Nat)) := by
  obtain ⟨r, h1, h2, h3⟩ := h
  refine h1.cell' ?_
  rw [List.getElem?_append_left (by rw [bv_length, List.length_append, marks_length]; exact hi)]
  unfold bv
  rw [List.getElem?_map, List.getElem?_eq_getElem (show i < (l ++ marks 1 12).length by rw [List.length_append, marks_length]; exact hi)]
  rfl

set_option maxHeartbeats 2000000 in
theorem kept_any (g cap : Nat) (l : List UInt8) (v : Value) (w : World) (h : Lt w g cap l) (hv : Bs w v l) :
    Calls Tryz.prog 9 #[.slice (some ⟨g, 0, none⟩) l.length cap, v] w fun e w' => e = .returned (.bool true) ∧ Mod [] w w' := by
  obtain ⟨ao, cap2, rfl, hn0, hc0⟩ := hv.form
  have hcap := h.cap
  have q1 : (l.length : Int) + 12 ≤ cap := by omega
  have q2 : (cap : Int) ≤ 9223372036854775807 := by omega
  go_enter Tryz.func9, Tryz.ntmps9
  go_wp2_with fail
  go_loopw [6] (fun i wr => ∃ j : Nat, j ≤ l.length + 12 ∧ i = .int .i64 j ∧ Mod [] w wr) (fun i _ => l.length + 12 - (intOf i).toNat)
  case atStart => exact ⟨0, by omega, rfl, Mod.refl _ _⟩
  case round =>
    obtain ⟨j, hj, rfl, hmr⟩ := hrel
    have hr := h.ext hmr
    have hvr := hv.ext hmr
    by_cases hlt : j < l.length + 12
    · have y0 : (j : Int) < l.length + 12 := by omega
      have hc := hr.cell hlt
      by_cases hl2 : j < l.length
      · have y1 : (j : Int) < l.length := by omega
        obtain ⟨b, o, rfl, hc2⟩ := hvr.byte hl2
        rw [List.getElem_append_left hl2] at hc
        go_wp2_with fail
        refine wp_region_T [⟨0, true, []⟩, ⟨1, true, []⟩, ⟨2, true, []⟩, ⟨3, true, []⟩, ⟨4, true, []⟩, ⟨5, true, []⟩, ⟨6, true, []⟩, ⟨7, true, []⟩, ⟨8, true, []⟩, ⟨9, true, []⟩, ⟨10, true, []⟩, ⟨11, true, []⟩, ⟨12, true, []⟩, ⟨13, true, []⟩, ⟨14, true, []⟩, ⟨15, true, []⟩, ⟨16, true, []⟩, ⟨17, true, []⟩, ⟨18, true, []⟩, ⟨19, true, []⟩, ⟨20, true, []⟩, ⟨21, true, []⟩, ⟨22, true, []⟩, ⟨23, true, []⟩, ⟨24, true, []⟩, ⟨25, true, []⟩, ⟨26, true, []⟩, ⟨27, true, []⟩, ⟨28, true, []⟩, ⟨29, true, []⟩, ⟨30, false, [25]⟩, ⟨31, true, []⟩, ⟨32, true, []⟩, ⟨33, true, []⟩, ⟨34, true, []⟩] (by kernel_rfl) (by kernel_rfl) ?_
        have hdd : decide (l.length ≤ j) = false := decide_eq_false (Nat.not_le.2 hl2)
        iterate 5 (refine wpT_n rfl rfl (fun K hK => ?_); go_wp2_with fail)
        iterate 10 (refine wpT_gq (gi := 4) rfl rfl rfl rfl rfl (fun K hK => ?_); go_wp2_with fail)
        iterate 2 (refine wpT_n rfl rfl (fun K hK => ?_); go_wp2_with fail)
        iterate 5 (refine wpT_gq (gi := 16) rfl rfl rfl rfl rfl (fun K hK => ?_); go_wp2_with fail)
        iterate 11 (refine wpT_gk (gi := 21) rfl rfl rfl rfl rfl rfl (fun K hK => ?_); go_wp2_with fail)
        refine wpT_gq (gi := 16) rfl rfl rfl rfl rfl (fun K hK => ?_)
        go_wp2_with fail
        refine wpT_n rfl rfl (fun K hK => ?_)
        go_wp2_with fail
        refine wpT_nil ?_
        go_wp2_with fail
        go_roundw
        case rel => exact ⟨j + 1, by omega, by go_num, hmr.ext (Mod.drew [] _)⟩
        case measure => simp [intOf]; omega
      · rw [List.getElem_append_right (by omega), marks_at, show ((j - l.length : Nat) : Int) = (j : Int) - (l.length : Int) by omega] at hc
        have hdd : decide (l.length ≤ j) = true := decide_eq_true (by omega)
        have hde : decide (j < l.length) = false := decide_eq_false (by omega)
        have y2 : (0 : Int) ≤ (j : Int) - l.length := by omega
        have y1 : (j : Int) - l.length ≤ 11 := by omega
        go_wp2_with fail
        refine wp_region_T [⟨0, true, []⟩, ⟨1, true, []⟩, ⟨2, true, []⟩, ⟨3, true, []⟩, ⟨4, true, []⟩, ⟨5, true, []⟩, ⟨6, true, []⟩, ⟨7, true, []⟩, ⟨8, true, []⟩, ⟨9, true, []⟩, ⟨10, true, []⟩, ⟨11, true, []⟩, ⟨12, true, []⟩, ⟨13, true, []⟩, ⟨14, true, []⟩, ⟨15, true, []⟩, ⟨16, true, []⟩, ⟨17, true, []⟩, ⟨18, true, []⟩, ⟨19, true, []⟩, ⟨20, true, []⟩, ⟨21, true, []⟩, ⟨22, true, []⟩, ⟨23, true, []⟩, ⟨24, true, []⟩, ⟨25, true, []⟩, ⟨26, true, []⟩, ⟨27, true, []⟩, ⟨28, true, []⟩, ⟨29, true, []⟩, ⟨30, false, [25]⟩, ⟨31, true, []⟩, ⟨32, true, []⟩, ⟨33, true, []⟩, ⟨34, true, []⟩] (by kernel_rfl) (by kernel_rfl) ?_
        iterate 5 (refine wpT_n rfl rfl (fun K hK => ?_); go_wp2_with fail)
        iterate 10 (refine wpT_gk (gi := 4) rfl rfl rfl rfl rfl rfl (fun K hK => ?_); go_wp2_with fail)
        iterate 2 (refine wpT_n rfl rfl (fun K hK => ?_); go_wp2_with fail)
        iterate 5 (refine wpT_gq (gi := 16) rfl rfl rfl rfl rfl (fun K hK => ?_); go_wp2_with fail)
        iterate 8 (refine wpT_gq (gi := 21) rfl rfl rfl rfl rfl (fun K hK => ?_); go_wp2_with fail)
        refine wpT_gcallh (gi := 21) rfl rfl rfl rfl (fun K hK => ?_)
        go_wp2_with (go_at_call 34; refine (markByte_any 1 ((j : Int) - l.length) _ (by omega) (by omega) (by omega) (by omega)).mono ?_; rintro e w3 ⟨rfl, rfl⟩)
        refine ⟨agains_same, ?_⟩
        iterate 2 (refine wpT_gq (gi := 21) rfl rfl rfl rfl rfl (fun K hK => ?_); go_wp2_with fail)
        refine wpT_gq (gi := 16) rfl rfl rfl rfl rfl (fun K hK => ?_)
        go_wp2_with fail
        refine wpT_n rfl rfl (fun K hK => ?_)
        go_wp2_with fail
        refine wpT_nil ?_
        go_wp2_with fail
        go_roundw
        case rel => exact ⟨j + 1, by omega, by go_num, hmr.ext (Mod.drew [] _)⟩
        case measure => simp [intOf]; omega
    · obtain rfl : j = l.length + 12 := by omega
      go_wp2_with fail
      go_ret
      exact ⟨rfl, hmr⟩

set_option maxHeartbeats 1000000 in
theorem over_any (g cap : Nat) (l : List UInt8) (w : World) (h : Lt w g cap l) (hl : l.length ≤ 140737488355300) :
    Calls Tryz.prog 10 #[.slice (some ⟨g, 0, none⟩) l.length cap] w fun e w' => e = .returned (.tuple #[]) ∧ Mod [g] w w' := by
  have hcap := h.cap
  have q1 : (l.length : Int) + 12 ≤ cap := by omega
  have q2 : (cap : Int) ≤ 9223372036854775807 := by omega
  obtain ⟨r, hB, hcl, _⟩ := h
  go_enter Tryz.func10, Tryz.ntmps10
  go_wp2_with fail
  go_loopw [3] (fun i wr => ∃ (j : Nat) (cs : List Value), j ≤ l.length + 12 ∧ i = .int .i64 j ∧ Mod [g] w wr ∧ Blk wr g 5 cs ∧ cs.length = cap) (fun i _ => l.length + 12 - (intOf i).toNat)
  case atStart => exact ⟨0, _, by omega, rfl, Mod.refl _ _, hB, hcl⟩
  case round =>
    obtain ⟨j, cs, hj, rfl, hmr, hBr, hcs⟩ := hrel
    by_cases hlt : j < l.length + 12
    · have y0 : (j : Int) < l.length + 12 := by omega
      go_wp2_with (first | (with_reducible refine st_store ?_) | (go_at_call 34; refine (markByte_any 2 j _ (by omega) (by omega) (by omega) (by omega)).mono ?_; rintro e w3 ⟨rfl, rfl⟩))
      refine StopOp.go rfl fun K hK => ?_
      refine wp_store1 (by kernel_rfl) (by rfl) (u := .int .u8 ((mb 2 j).toNat : Nat)) (by rfl) ⟨rfl, rfl⟩ hBr (by omega) ?_
      intro w4 hm4 hB4
      refine hK _ _ ?_
      clear hK K
      go_wp2_with fail
      go_roundw
      case rel => exact ⟨j + 1, _, by omega, by go_num, hmr.trans hm4, hB4, by rw [List.length_set]; exact hcs⟩
      case measure => simp [intOf]; omega
    · obtain rfl : j = l.length + 12 := by omega
      go_wp2_with fail
      go_end0
      exact ⟨rfl, hmr⟩
end Go.Proofs.YtfepggdljhiemaaGreatDoor

/-! Disks: settle, Sync, Crash. -/
namespace Go.Proofs.YtfepggdljhiemaaGreatDoor
open Go.RowKit Gw

/-- how many bytes of a sector, by a number -/
def clampN (g : Int) (sz : Nat) : Nat := min g.toNat sz
theorem clampN_le (g : Int) (sz : Nat) : clampN g sz ≤ sz := Nat.min_le_right _ _
theorem Bs.pre {w : World} {ao : Option Addr} {n cap k : Nat} {l : List UInt8} (h : Bs w (.slice ao n cap) l) (hn : n = l.length) (hk : k ≤ n) (hc : k ≤ cap) : Bs w (.slice ao k cap) (l.take k) := by
  subst hn
  have := Sl.cut (lo := 0) (hi := k) (m := cap) h (by omega) hk hc (by omega)
  simp only [Nat.mul_one, Nat.zero_mul, List.drop_zero, Nat.sub_zero, Addr.add, if_true, Option.map_id'] at this
  unfold Bs
  rw [List.length_take, Nat.min_eq_left (by omega)]
  have hb : bv (l.take k) = (bv l).take k := by simp [bv, List.map_take]
  rw [hb]
  simpa using this
/-- bytes of one's own: nil, or at the head of a block -/
theorem Ob.head {w : World} {v : Value} {l : List UInt8} (h : Ob w v l) (hl : 0 < l.length) : ∃ g cap rest, v = .slice (some ⟨g, 0, none⟩) l.length cap ∧ Blk w g 5 (bv l ++ rest) ∧ l.length ≤ cap ∧ cap ≤ 9223372036854775807 ∧ (bv l ++ rest).length = cap := by
  rcases Ow.blk h with ⟨_, h0, _⟩ | ⟨g, cap, rest, h1, h2, h3, h4, h5, _⟩
  · omega
  · exact ⟨g, cap, rest, h1, h2, h3, h4, by simpa using h5⟩
theorem bv_tear (k : Nat) (b old : List UInt8) (hk : k ≤ b.length) : (bv (b.take k)).take k ++ (bv old).drop k = bv (tear k b old) := by
  unfold tear
  rw [bv_append]
  congr 1
  · rw [List.take_of_length_le (by rw [bv_length, List.length_take]; omega)]
  · simp [bv, List.map_drop]

set_option maxRecDepth 1000000 in
set_option maxHeartbeats 8000000 in
theorem settleS_any (p : Nat) (m : Dm) (L : List Nat) (w : World) (q : Nat) (G : Nat → Int) (h : Dk w p m L) (hok : m.ok) (hr : m.row.length ≤ 1000000000)
    (HF : ∀ i, i < m.row.length → ∀ w1 D R M, Mod L w w1 → Blk w1 p 138 [.int .i64 (m.sz : Nat), D, R, .map (some M)] → Calls Tryz.prog 177 #[.int .i64 (i : Nat), .pointer (some ⟨q, 0, none⟩)] w1 fun e w' => e = .returned (.int .i64 (G i)) ∧ Mod [] w1 w') :
    Calls Tryz.prog 129 #[.pointer (some ⟨p, 0, none⟩), .func (.func 177) #[] #[.pointer (some ⟨q, 0, none⟩)]] w fun e w' => e = .returned (.int .i64 0) ∧ DkPost w p (m.settle fun i => clampN (G i) m.sz) L w' := by
  have hs1 := hok.s1
  have hs2 := hok.s2
  have hd := hok.d
  have hrr := hok.r
  obtain ⟨D, R, M, dp, rp, hB, hm, hL⟩ := h
  have e1 : m.dur.length = dp.length := by rw [hm]; simp [Dm.of]
  have e2 : m.row.length = rp.length := by rw [hm]; simp [Dm.of]
  have e3 : ∀ (j : Nat) (hj : j < rp.length), rp[j].1 < dp.length ∧ rp[j].2.2.length = m.sz := fun j hj => by
    rw [← e1]
    exact hrr (rp[j].1, rp[j].2.2) (by rw [hm]; exact List.mem_map.2 ⟨rp[j], List.getElem_mem hj, rfl⟩)
  have e4 : m.dur = dp.map (·.2) := by rw [hm]; rfl
  have e5 : m.row = rp.map fun x => (x.1, x.2.2) := by rw [hm]; rfl
  have hn1 : 0 < dp.length := by have := hok.n1; omega
  rw [e2] at HF hr
  obtain ⟨gD, capD, restD, hDe, hDb, hDc⟩ : ∃ g cap rest, D = .slice (some ⟨g, 0, none⟩) dp.length cap ∧ Blk w g 33 (dp.map (·.1) ++ rest) ∧ dp.length ≤ cap := by
    rcases hB.dur.blk with ⟨_, h0, _⟩ | ⟨g, cap, rest, h1, h2, h3, _⟩
    · omega
    · exact ⟨g, cap, rest, h1, h2, h3⟩
  subst hDe
  obtain ⟨aoR, capR, rfl, hcR, _⟩ := hB.row.sl.form
  have T := fun w h => there_yes p m.sz (.slice (some ⟨gD, 0, none⟩) dp.length capD) (.slice aoR rp.length capR) M w h hs1
  obtain ⟨sz, hsz⟩ : ∃ sz, sz = m.sz := ⟨_, rfl⟩
  have hdl : ∀ b ∈ m.dur, b.length = sz := by rw [hsz]; exact hd
  rw [← hsz] at hB HF T hs1 hs2 e3
  rw [show (m.settle fun i => clampN (G i) m.sz) = ⟨sz, settleD (fun i => clampN (G i) sz) m.row m.dur, []⟩ by rw [hsz]; rfl]
  rw [e4] at hdl
  have hfin : ∀ dq : List (Value × List UInt8), dq.map (·.2) = settleD (fun i => clampN (G i) sz) (rp.map fun x => (x.1, x.2.2)) (dp.map (·.2)) → (⟨sz, settleD (fun i => clampN (G i) sz) m.row m.dur, []⟩ : Dm) = Dm.of sz dq [] := fun dq h => by rw [e5, e4, ← h]; rfl
  have HFIN := Lib.hid hfin
  obtain ⟨FP, hFP⟩ : ∃ F, F = L := ⟨_, rfl⟩
  rw [← hFP] at HF ⊢
  have HL := Lib.hid (hFP.trans hL)
  have c2 := hB.blk.cell' (i := 2) rfl
  clear hm hL hok hd hrr e1 e2 e4 e5 hsz hfin hFP hn1
  go_enter Tryz.func129, Tryz.ntmps129
  go_wp2_with (go_at_call 132; (with_reducible refine (T _ hB.blk).mono ?_); rintro e w1 ⟨rfl, rfl⟩)
  clear c2 T
  go_loopw [15] (fun i wr => ∃ (j : Nat) (dq : List (Value × List UInt8)), j ≤ rp.length ∧ i = .int .i64 j ∧ DkB wr p sz (.slice (some ⟨gD, 0, none⟩) dp.length capD) (.slice aoR rp.length capR) M dq rp ∧ dq.map (·.1) = dp.map (·.1) ∧ dq.map (·.2) = settleD (fun i => clampN (G i) sz) ((rp.map fun x => (x.1, x.2.2)).take j) (dp.map (·.2)) ∧ fpD p (.slice (some ⟨gD, 0, none⟩) dp.length capD) (.slice aoR rp.length capR) M dq rp = FP ∧ Mod FP w wr) (fun i _ => rp.length - (intOf i).toNat)
  case atStart => exact ⟨0, dp, by omega, rfl, hB, rfl, rfl, HL.out.symm, Mod.refl _ _⟩
  case round =>
    obtain ⟨j, dq, hj, rfl, hBr, hq1, hq2, hq3, hMr⟩ := hrel
    by_cases hj2 : j < rp.length
    · have y0 : (j : Int) < rp.length := by omega
      have y1 : (0 : Int) ≤ j := by omega
      have hql : dq.length = dp.length := by simpa using congrArg List.length hq1
      obtain ⟨ha, hbl⟩ := e3 j hj2
      -- the write
      obtain ⟨gR, hRe, hRb⟩ : ∃ g, aoR = some ⟨g, 0, none⟩ ∧ ∃ rest, Blk wr g 257 (wcells rp ++ rest) := by
        rcases hBr.row.blk with ⟨_, h0, _⟩ | ⟨g, cap, rest, h1, h2, _⟩
        · omega
        · injection h1 with h1
          exact ⟨g, h1, rest, h2⟩
      subst hRe
      obtain ⟨restR, hRb⟩ := hRb
      have hwl : 2 * j + 1 < (wcells rp).length := by rw [wcells_len]; omega
      obtain ⟨hw0, hw1⟩ := wcells_at rp j hj2
      have r0 := hRb.cell' (i := j * 2) (by rw [List.getElem?_append_left (by omega), Nat.mul_comm]; exact hw0)
      have r1 := hRb.cell' (i := j * 2 + 1) (by rw [List.getElem?_append_left (by omega), Nat.mul_comm]; exact hw1)
      obtain ⟨a, hae⟩ : ∃ a, a = rp[j].1 := ⟨_, rfl⟩
      obtain ⟨b, hbe⟩ : ∃ b, b = rp[j].2.2 := ⟨_, rfl⟩
      have hbo := (hBr.fam.ob rp[j].2 (List.mem_append_right _ (List.mem_map.2 ⟨rp[j], List.getElem_mem hj2, rfl⟩))).1
      obtain ⟨vb, hvb⟩ : ∃ b, b = rp[j].2.1 := ⟨_, rfl⟩
      rw [← hvb] at r1 hbo
      rw [← hbe] at hbo hbl
      rw [← hae] at r0 ha
      obtain ⟨aob, capb, hvbe, hcb, _⟩ := hbo.bs.form
      rw [hbl] at hvbe hcb
      subst hvbe
      have hrj : (rp.map fun x => (x.1, x.2.2))[j]? = some (a, b) := by rw [List.getElem?_map, List.getElem?_eq_getElem hj2, hae, hbe]; rfl
      -- the sector
      have haq : a < dq.length := by omega
      have hso := (hBr.fam.ob dq[a] (List.mem_append_left _ (List.getElem_mem haq))).1
      have hsl : dq[a].2.length = sz := by
        have h1 : dq[a].2 ∈ dq.map (·.2) := List.mem_map.2 ⟨dq[a], List.getElem_mem haq, rfl⟩
        rw [hq2] at h1
        refine settleD_all _ hdl ?_ _ h1
        intro x hx
        obtain ⟨y, hy, rfl⟩ := List.mem_map.1 (List.mem_of_mem_take hx)
        obtain ⟨q, hq, rfl⟩ := List.getElem_of_mem hy
        have := e3 q hq
        exact ⟨by simpa using this.1, this.2⟩
      obtain ⟨g, caps, rests, hse, hsb, hsc, hsc2, hsc3⟩ := hso.head (by omega)
      rw [hsl] at hse hsc
      obtain ⟨restD, hDb⟩ : ∃ rest, Blk wr gD 33 (dq.map (·.1) ++ rest) := by
        rcases hBr.dur.blk with ⟨h0, _⟩ | ⟨g, cap, rest, h1, h2, _⟩
        · cases h0
        · injection h1 with h1
          injection h1 with h1
          injection h1 with h1
          subst h1
          exact ⟨rest, h2⟩
      have hDa : (dq.map (·.1) ++ restD)[a]? = some (.slice (some ⟨g, 0, none⟩) sz caps) := by
        rw [List.getElem?_append_left (by simpa using haq), List.getElem?_map, List.getElem?_eq_getElem haq]
        exact congrArg some hse
      have c2 := hBr.blk.cell' (i := 2) rfl
      obtain ⟨γ, hγ⟩ : ∃ γ, γ = G j := ⟨_, rfl⟩
      have HFj := HF j hj2
      rw [← hγ] at HFj
      have HG := Lib.hid hγ
      have HDA := Lib.hid hDa
      have HQ := Lib.hid (And.intro hq1 (And.intro hq2 (And.intro hq3 (And.intro hql (And.intro hbl (And.intro hsl (And.intro hse (And.intro hrj hsc3))))))))
      clear hγ hbe hvb hae hq1 hq2 hq3 hql hbl hsl hse hrj hsc3 hDa hw0 hw1 hwl
      go_wp2_with (with_reducible refine st_alloc ?_)
      refine StopOp.go rfl fun K hK => ?_
      refine wp_alloc zero_waits ?_
      intro t x1 ht1 ht2 hmx1 hBx1
      simp only [put_some, List.set_cons_succ, List.set_cons_zero]
      refine hK _ _ ?_
      clear hK K
      go_wp2_with (with_reducible refine st_store ?_)
      refine StopOp.go rfl fun K hK => ?_
      refine wp_store (u := .agg #[.int .i64 (a : Nat), .slice aob sz capb]) (by rfl) (by rfl) (by kernel_rfl) hBx1 (by simp [Value.cells]) (by simp [Value.cells, Value.oneCell']) ?_
      intro x2 hmx2 hBx2
      refine hK _ _ ?_
      clear hK K
      have hT2 : Blk x2 t 257 [.int .i64 (a : Nat), .slice aob sz capb] := hBx2
      have hm02 : Mod [] wr x2 := hmx1.fresh hmx2 (by simpa using ht1)
      clear hBx1 hBx2 hmx1 hmx2 r0 r1 c2
      go_wp2_with fail
      refine wp_region_T [⟨0, true, []⟩, ⟨1, true, []⟩, ⟨2, true, []⟩, ⟨3, true, []⟩, ⟨4, true, []⟩, ⟨5, true, []⟩, ⟨6, true, []⟩, ⟨7, true, []⟩, ⟨8, true, []⟩, ⟨9, true, []⟩, ⟨10, true, []⟩, ⟨11, true, []⟩, ⟨14, true, []⟩, ⟨15, true, []⟩, ⟨16, true, []⟩, ⟨17, true, []⟩, ⟨12, false, [1, 3, 5, 7, 9, 15, 17]⟩, ⟨13, true, []⟩, ⟨18, true, []⟩, ⟨19, true, []⟩, ⟨20, false, []⟩] (by kernel_rfl) (by kernel_rfl) ?_
      have hm0 : Mod [] wr x2.drew := hm02.ext (Mod.drew [] _)
      have hB0 := hBr.ext hm0
      have hD0 := hDb.ext hm0
      have hS0 := hsb.ext hm0
      have hT0 := hT2.ext (Mod.drew [] x2)
      have hb0 := hbo.bs.ext hm0
      obtain ⟨w0, hw0⟩ : ∃ x, x = x2.drew := ⟨_, rfl⟩
      rw [← hw0] at hB0 hD0 hS0 hT0 hb0 hm0 ⊢
      clear hw0 hT2 hm02
      have k0 := hB0.blk.cell' (i := 0) rfl
      have k1 := hB0.blk.cell' (i := 1) rfl
      have t0 := hT0.cell' (i := 0) rfl
      have t1 := hT0.cell' (i := 1) rfl
      have da := hD0.cell' HDA.out
      have y2 : (0 : Int) ≤ a := by omega
      have y3 : (a : Int) < dp.length := by omega
      iterate 16 (refine wpT_n rfl rfl (fun K hK => ?_); go_wp2_with fail)
      refine wpT_e rfl rfl (fun K hK => ?_)
      go_wp2_with (go_at_call 177; (with_reducible refine (HFj _ _ _ _ (hMr.ext hm0) hB0.blk).mono ?_); rintro e x2 ⟨rfl, hmx2⟩)
      refine ⟨agains_cons rfl (again_const (fun _ => rfl)) (agains_cons rfl (again_load rfl rfl (hmx2.block p hB0.blk.lt (by simp)) hB0.blk.kinds) (agains_cons rfl (again_load rfl rfl (hmx2.block t hT0.lt (by simp)) hT0.kinds) (agains_cons rfl (again_load rfl rfl (hmx2.block gD hD0.lt (by simp)) hD0.kinds) (agains_cons rfl (again_load rfl rfl (hmx2.block t hT0.lt (by simp)) hT0.kinds) (agains_cons rfl (again_const (fun _ => rfl)) (agains_cons rfl (again_load rfl rfl (hmx2.block p hB0.blk.lt (by simp)) hB0.blk.kinds) agains_nil)))))), ?_⟩
      have hB1 := hB0.ext hmx2
      have hS1 := hS0.ext hmx2
      have hb1 := hb0.ext hmx2
      have hm1 := hm0.ext hmx2
      clear k0 k1 t0 t1 da hB0 hS0 hb0 hm0 hmx2 hT0 hD0 hbo
      obtain ⟨hq1, hq2, hq3, hql, hbl, hsl, hse, hrj, hsc3⟩ := HQ.out
      have KEY : ∀ (k : Nat) (x3 : World), k = clampN γ sz → Mod [g] x2 x3 → Blk x3 g 5 ((bv (b.take k)).take k ++ (bv dq[a].2).drop k ++ rests) →
          ∃ dr, DkB x3 p sz (.slice (some ⟨gD, 0, none⟩) dp.length capD) (.slice (some ⟨gR, 0, none⟩) rp.length capR) M dr rp ∧ dr.map (·.1) = dp.map (·.1) ∧ dr.map (·.2) = settleD (fun i => clampN (G i) sz) ((rp.map fun x => (x.1, x.2.2)).take (j + 1)) (dp.map (·.2)) ∧ fpD p (.slice (some ⟨gD, 0, none⟩) dp.length capD) (.slice (some ⟨gR, 0, none⟩) rp.length capR) M dr rp = FP ∧ Mod FP w x3 := by
        intro k x3 hk hmx3 hBx3
        rw [bv_tear k b _ (by have := clampN_le γ sz; omega)] at hBx3
        have htl : (tear k b dq[a].2).length = sz := tear_len hbl hsl
        have hob3 : Ob x3 dq[a].1 (tear k b dq[a].2) := by
          rw [hse]
          unfold Ob
          rw [htl]
          refine Ow.of_blk hBx3 hsc hsc2 ?_ (by rw [bv_length, htl, Nat.mul_one])
          rw [List.length_append, bv_length] at hsc3 ⊢
          omega
        obtain ⟨u1, u2, u3⟩ := hB1.turn haq (by rw [hse]; simpa [blks] using hmx3) hob3
        refine ⟨_, u1, ?_, ?_, u2.trans hq3, ?_⟩
        · rw [← hq1, List.map_set]
          apply List.ext_getElem?
          intro i
          rw [List.getElem?_set]
          split
          · subst_vars; simp [haq]
          · rfl
        · have hjl : j < (rp.map fun x => (x.1, x.2.2)).length := by simpa using hj2
          have hjj : (rp.map fun x => (x.1, x.2.2))[j] = (a, b) := by
            rw [List.getElem?_eq_getElem hjl] at hrj
            exact Option.some.inj hrj
          rw [settleD_succ _ _ _ j hjl, hjj, ← hq2, List.map_set]
          unfold stepD
          dsimp only
          rw [hk, HG.out, List.getD_eq_getElem?_getD, List.getElem?_map, List.getElem?_eq_getElem haq]
          rfl
        · rw [hq3] at u3
          exact (hMr.ext hm1).trans u3
      have HKEY := Lib.hid KEY
      have hsl' : (bv dq[a].2).length = sz := by rw [bv_length, hsl]
      have HSL := Lib.hid (And.intro hsl' hbl)
      have hsz0 : (0 : Int) ≤ sz := by omega
      have hsz1 : ¬ ((sz : Int) < 0) := by omega
      clear KEY hq1 hq2 hq3 hql hbl hsl hse hrj hsc3 hsl'
      by_cases hg0 : 0 ≤ γ
      · obtain ⟨gk, rfl⟩ := Int.eq_ofNat_of_zero_le hg0
        by_cases hg1 : gk ≤ sz
        · have hg2 : (gk : Int) ≤ sz := by omega
          have hg3 : ¬ ((sz : Int) < gk) := by omega
          have hg4 : gk ≤ capb := by omega
          have hg5 : (gk : Int) ≤ capb := by omega
          have hsrc : Bs x2 (.slice aob gk capb) (b.take gk) := hb1.pre HSL.out.2.symm (by omega) (by omega)
          have hsr2 : Sl x2 1 (.slice aob gk capb) gk (bv (b.take gk)) := by
            have := hsrc
            unfold Bs at this
            rwa [List.length_take, HSL.out.2, Nat.min_eq_left (by omega)] at this
          iterate 3 (refine wpT_n rfl rfl (fun K hK => ?_); go_wp2_with fail)
          refine wpT_e0 rfl rfl (fun K hK => ?_)
          refine wp_copy_head gk (cap := caps) (by omega) Tryz.underlying33 (by kernel_rfl) (by rfl) (by rfl) hS1 HSL.out.1 hsr2 (bv_one _) ?_
          intro x3 hBx3 hmx3
          simp only [put_some, List.set_cons_succ, List.set_cons_zero]
          refine hK _ _ ?_
          clear hK K
          obtain ⟨dr, v1, v2, v3, v4, v5⟩ := HKEY.out gk x3 (by unfold clampN; simp; omega) hmx3 hBx3
          have HV := Lib.hid (And.intro v2 (And.intro v3 v4))
          clear v2 v3 v4
          refine wpT_nil ?_
          go_wp2_with fail
          go_roundw
          case rel => exact ⟨j + 1, dr, by omega, by go_num, v1, HV.out.1, HV.out.2.1, HV.out.2.2, v5⟩
          case measure => simp [intOf]; omega
        · have hg2 : (sz : Int) < gk := by omega
          have hg3 : (sz : Int) ≤ gk := by omega
          have hg5 : (sz : Int) ≤ capb := by omega
          have hsrc : Bs x2 (.slice aob sz capb) (b.take sz) := hb1.pre HSL.out.2.symm (by omega) (by omega)
          have hsr2 : Sl x2 1 (.slice aob sz capb) sz (bv (b.take sz)) := by
            have := hsrc
            unfold Bs at this
            rwa [List.length_take, HSL.out.2, Nat.min_eq_left (by omega)] at this
          iterate 3 (refine wpT_n rfl rfl (fun K hK => ?_); go_wp2_with fail)
          refine wpT_e0 rfl rfl (fun K hK => ?_)
          refine wp_copy_head sz (cap := caps) (by omega) Tryz.underlying33 (by kernel_rfl) (by rfl) (by rfl) hS1 HSL.out.1 hsr2 (bv_one _) ?_
          intro x3 hBx3 hmx3
          simp only [put_some, List.set_cons_succ, List.set_cons_zero]
          refine hK _ _ ?_
          clear hK K
          obtain ⟨dr, v1, v2, v3, v4, v5⟩ := HKEY.out sz x3 (by unfold clampN; simp; omega) hmx3 hBx3
          have HV := Lib.hid (And.intro v2 (And.intro v3 v4))
          clear v2 v3 v4
          refine wpT_nil ?_
          go_wp2_with fail
          go_roundw
          case rel => exact ⟨j + 1, dr, by omega, by go_num, v1, HV.out.1, HV.out.2.1, HV.out.2.2, v5⟩
          case measure => simp [intOf]; omega
      · have hg2 : γ < 0 := by omega
        have hg3 : γ ≤ 0 := by omega
        have hsrc : Bs x2 (.slice aob 0 capb) (b.take 0) := hb1.pre HSL.out.2.symm (by omega) (by omega)
        have hsr2 : Sl x2 1 (.slice aob 0 capb) 0 (bv (b.take 0)) := by
          have := hsrc
          unfold Bs at this
          rwa [List.length_take, HSL.out.2, Nat.min_eq_left (by omega)] at this
        iterate 3 (refine wpT_n rfl rfl (fun K hK => ?_); go_wp2_with fail)
        refine wpT_e0 rfl rfl (fun K hK => ?_)
        refine wp_copy_head 0 (cap := caps) (by omega) Tryz.underlying33 (by kernel_rfl) (by rfl) (by rfl) hS1 HSL.out.1 hsr2 (bv_one _) ?_
        intro x3 hBx3 hmx3
        simp only [put_some, List.set_cons_succ, List.set_cons_zero]
        refine hK _ _ ?_
        clear hK K
        obtain ⟨dr, v1, v2, v3, v4, v5⟩ := HKEY.out 0 x3 (by unfold clampN; omega) hmx3 hBx3
        have HV := Lib.hid (And.intro v2 (And.intro v3 v4))
        clear v2 v3 v4
        refine wpT_nil ?_
        go_wp2_with fail
        go_roundw
        case rel => exact ⟨j + 1, dr, by omega, by go_num, v1, HV.out.1, HV.out.2.1, HV.out.2.2, v5⟩
        case measure => simp [intOf]; omega
    · obtain rfl : j = rp.length := by omega
      have HQ := Lib.hid (And.intro hq1 (And.intro hq2 hq3))
      clear hq1 hq2 hq3
      go_wp2_with (with_reducible refine st_store ?_)
      refine StopOp.go rfl fun K hK => ?_
      refine wp_store1 (by kernel_rfl) (by rfl) (u := (.slice none 0 0)) (by rfl) ⟨rfl, rfl⟩ hBr.blk (by simp) ?_
      intro x1 hmx1 hBx1
      refine hK _ _ ?_
      clear hK K
      have hB1 : Blk x1 p 138 [.int .i64 (sz : Nat), .slice (some ⟨gD, 0, none⟩) dp.length capD, .slice none 0 0, .map (some M)] := hBx1
      have hM1 := hBr.map.mod hmx1 (by simpa using hBr.map.ne hBr.blk)
      have k3 := hB1.cell' (i := 3) rfl
      clear hBx1
      go_wp2_with (with_reducible refine st_clear ?_)
      refine StopOp.go rfl fun K hK => ?_
      refine wp_clearMap Tryz.underlying135 (by rfl) hM1 ?_
      intro x2 hmx2 hM2
      refine hK _ _ ?_
      clear hK K k3
      go_wp2_with fail
      go_ret
      obtain ⟨hq1, hq2, hq3⟩ := HQ.out
      obtain ⟨u1, u2, u3⟩ := hBr.clear hmx1 hB1 hmx2 hM2
      rw [List.take_of_length_le (by simp)] at hq2
      rw [hq3] at u2 u3
      exact ⟨rfl, _, ⟨_, _, _, _, _, u1, HFIN.out dq hq2, rfl⟩, hMr.trans u3, fun k hk => .inl (u2 k hk)⟩

set_option maxRecDepth 1000000 in
set_option maxHeartbeats 8000000 in
theorem settleC_any (p : Nat) (m : Dm) (L : List Nat) (w : World) (t q : Nat) (G : Nat → Int) (h : Dk w p m L) (hok : m.ok) (hr : m.row.length ≤ 1000000000)
    (HF : ∀ i, i < m.row.length → ∀ w1 D R M, Mod L w w1 → Blk w1 p 138 [.int .i64 (m.sz : Nat), D, R, .map (some M)] → Calls Tryz.prog 130 #[.int .i64 (i : Nat), .pointer (some ⟨t, 0, none⟩), .pointer (some ⟨q, 0, none⟩)] w1 fun e w' => e = .returned (.int .i64 (G i)) ∧ Mod [] w1 w') :
    Calls Tryz.prog 129 #[.pointer (some ⟨p, 0, none⟩), .func (.func 130) #[] #[.pointer (some ⟨t, 0, none⟩), .pointer (some ⟨q, 0, none⟩)]] w fun e w' => e = .returned (.int .i64 0) ∧ DkPost w p (m.settle fun i => clampN (G i) m.sz) L w' := by
  have hs1 := hok.s1
  have hs2 := hok.s2
  have hd := hok.d
  have hrr := hok.r
  obtain ⟨D, R, M, dp, rp, hB, hm, hL⟩ := h
  have e1 : m.dur.length = dp.length := by rw [hm]; simp [Dm.of]
  have e2 : m.row.length = rp.length := by rw [hm]; simp [Dm.of]
  have e3 : ∀ (j : Nat) (hj : j < rp.length), rp[j].1 < dp.length ∧ rp[j].2.2.length = m.sz := fun j hj => by
    rw [← e1]
    exact hrr (rp[j].1, rp[j].2.2) (by rw [hm]; exact List.mem_map.2 ⟨rp[j], List.getElem_mem hj, rfl⟩)
  have e4 : m.dur = dp.map (·.2) := by rw [hm]; rfl
  have e5 : m.row = rp.map fun x => (x.1, x.2.2) := by rw [hm]; rfl
  have hn1 : 0 < dp.length := by have := hok.n1; omega
  rw [e2] at HF hr
  obtain ⟨gD, capD, restD, hDe, hDb, hDc⟩ : ∃ g cap rest, D = .slice (some ⟨g, 0, none⟩) dp.length cap ∧ Blk w g 33 (dp.map (·.1) ++ rest) ∧ dp.length ≤ cap := by
    rcases hB.dur.blk with ⟨_, h0, _⟩ | ⟨g, cap, rest, h1, h2, h3, _⟩
    · omega
    · exact ⟨g, cap, rest, h1, h2, h3⟩
  subst hDe
  obtain ⟨aoR, capR, rfl, hcR, _⟩ := hB.row.sl.form
  have T := fun w h => there_yes p m.sz (.slice (some ⟨gD, 0, none⟩) dp.length capD) (.slice aoR rp.length capR) M w h hs1
  obtain ⟨sz, hsz⟩ : ∃ sz, sz = m.sz := ⟨_, rfl⟩
  have hdl : ∀ b ∈ m.dur, b.length = sz := by rw [hsz]; exact hd
  rw [← hsz] at hB HF T hs1 hs2 e3
  rw [show (m.settle fun i => clampN (G i) m.sz) = ⟨sz, settleD (fun i => clampN (G i) sz) m.row m.dur, []⟩ by rw [hsz]; rfl]
  rw [e4] at hdl
  have hfin : ∀ dq : List (Value × List UInt8), dq.map (·.2) = settleD (fun i => clampN (G i) sz) (rp.map fun x => (x.1, x.2.2)) (dp.map (·.2)) → (⟨sz, settleD (fun i => clampN (G i) sz) m.row m.dur, []⟩ : Dm) = Dm.of sz dq [] := fun dq h => by rw [e5, e4, ← h]; rfl
  have HFIN := Lib.hid hfin
  obtain ⟨FP, hFP⟩ : ∃ F, F = L := ⟨_, rfl⟩
  rw [← hFP] at HF ⊢
  have HL := Lib.hid (hFP.trans hL)
  have c2 := hB.blk.cell' (i := 2) rfl
  clear hm hL hok hd hrr e1 e2 e4 e5 hsz hfin hFP hn1
  go_enter Tryz.func129, Tryz.ntmps129
  go_wp2_with (go_at_call 132; (with_reducible refine (T _ hB.blk).mono ?_); rintro e w1 ⟨rfl, rfl⟩)
  clear c2 T
  go_loopw [15] (fun i wr => ∃ (j : Nat) (dq : List (Value × List UInt8)), j ≤ rp.length ∧ i = .int .i64 j ∧ DkB wr p sz (.slice (some ⟨gD, 0, none⟩) dp.length capD) (.slice aoR rp.length capR) M dq rp ∧ dq.map (·.1) = dp.map (·.1) ∧ dq.map (·.2) = settleD (fun i => clampN (G i) sz) ((rp.map fun x => (x.1, x.2.2)).take j) (dp.map (·.2)) ∧ fpD p (.slice (some ⟨gD, 0, none⟩) dp.length capD) (.slice aoR rp.length capR) M dq rp = FP ∧ Mod FP w wr) (fun i _ => rp.length - (intOf i).toNat)
  case atStart => exact ⟨0, dp, by omega, rfl, hB, rfl, rfl, HL.out.symm, Mod.refl _ _⟩
  case round =>
    obtain ⟨j, dq, hj, rfl, hBr, hq1, hq2, hq3, hMr⟩ := hrel
    by_cases hj2 : j < rp.length
    · have y0 : (j : Int) < rp.length := by omega
      have y1 : (0 : Int) ≤ j := by omega
      have hql : dq.length = dp.length := by simpa using congrArg List.length hq1
      obtain ⟨ha, hbl⟩ := e3 j hj2
      -- the write
      obtain ⟨gR, hRe, hRb⟩ : ∃ g, aoR = some ⟨g, 0, none⟩ ∧ ∃ rest, Blk wr g 257 (wcells rp ++ rest) := by
        rcases hBr.row.blk with ⟨_, h0, _⟩ | ⟨g, cap, rest, h1, h2, _⟩
        · omega
        · injection h1 with h1
          exact ⟨g, h1, rest, h2⟩
      subst hRe
      obtain ⟨restR, hRb⟩ := hRb
      have hwl : 2 * j + 1 < (wcells rp).length := by rw [wcells_len]; omega
      obtain ⟨hw0, hw1⟩ := wcells_at rp j hj2
      have r0 := hRb.cell' (i := j * 2) (by rw [List.getElem?_append_left (by omega), Nat.mul_comm]; exact hw0)
      have r1 := hRb.cell' (i := j * 2 + 1) (by rw [List.getElem?_append_left (by omega), Nat.mul_comm]; exact hw1)
      obtain ⟨a, hae⟩ : ∃ a, a = rp[j].1 := ⟨_, rfl⟩
      obtain ⟨b, hbe⟩ : ∃ b, b = rp[j].2.2 := ⟨_, rfl⟩
      have hbo := (hBr.fam.ob rp[j].2 (List.mem_append_right _ (List.mem_map.2 ⟨rp[j], List.getElem_mem hj2, rfl⟩))).1
      obtain ⟨vb, hvb⟩ : ∃ b, b = rp[j].2.1 := ⟨_, rfl⟩
      rw [← hvb] at r1 hbo
      rw [← hbe] at hbo hbl
      rw [← hae] at r0 ha
      obtain ⟨aob, capb, hvbe, hcb, _⟩ := hbo.bs.form
      rw [hbl] at hvbe hcb
      subst hvbe
      have hrj : (rp.map fun x => (x.1, x.2.2))[j]? = some (a, b) := by rw [List.getElem?_map, List.getElem?_eq_getElem hj2, hae, hbe]; rfl
      -- the sector
      have haq : a < dq.length := by omega
      have hso := (hBr.fam.ob dq[a] (List.mem_append_left _ (List.getElem_mem haq))).1
      have hsl : dq[a].2.length = sz := by
        have h1 : dq[a].2 ∈ dq.map (·.2) := List.mem_map.2 ⟨dq[a], List.getElem_mem haq, rfl⟩
        rw [hq2] at h1
        refine settleD_all _ hdl ?_ _ h1
        intro x hx
        obtain ⟨y, hy, rfl⟩ := List.mem_map.1 (List.mem_of_mem_take hx)
        obtain ⟨q, hq, rfl⟩ := List.getElem_of_mem hy
        have := e3 q hq
        exact ⟨by simpa using this.1, this.2⟩
      obtain ⟨g, caps, rests, hse, hsb, hsc, hsc2, hsc3⟩ := hso.head (by omega)
      rw [hsl] at hse hsc
      obtain ⟨restD, hDb⟩ : ∃ rest, Blk wr gD 33 (dq.map (·.1) ++ rest) := by
        rcases hBr.dur.blk with ⟨h0, _⟩ | ⟨g, cap, rest, h1, h2, _⟩
        · cases h0
        · injection h1 with h1
          injection h1 with h1
          injection h1 with h1
          subst h1
          exact ⟨rest, h2⟩
      have hDa : (dq.map (·.1) ++ restD)[a]? = some (.slice (some ⟨g, 0, none⟩) sz caps) := by
        rw [List.getElem?_append_left (by simpa using haq), List.getElem?_map, List.getElem?_eq_getElem haq]
        exact congrArg some hse
      have c2 := hBr.blk.cell' (i := 2) rfl
      obtain ⟨γ, hγ⟩ : ∃ γ, γ = G j := ⟨_, rfl⟩
      have HFj := HF j hj2
      rw [← hγ] at HFj
      have HG := Lib.hid hγ
      have HDA := Lib.hid hDa
      have HQ := Lib.hid (And.intro hq1 (And.intro hq2 (And.intro hq3 (And.intro hql (And.intro hbl (And.intro hsl (And.intro hse (And.intro hrj hsc3))))))))
      clear hγ hbe hvb hae hq1 hq2 hq3 hql hbl hsl hse hrj hsc3 hDa hw0 hw1 hwl
      go_wp2_with (with_reducible refine st_alloc ?_)
      refine StopOp.go rfl fun K hK => ?_
      refine wp_alloc zero_waits ?_
      intro t x1 ht1 ht2 hmx1 hBx1
      simp only [put_some, List.set_cons_succ, List.set_cons_zero]
      refine hK _ _ ?_
      clear hK K
      go_wp2_with (with_reducible refine st_store ?_)
      refine StopOp.go rfl fun K hK => ?_
      refine wp_store (u := .agg #[.int .i64 (a : Nat), .slice aob sz capb]) (by rfl) (by rfl) (by kernel_rfl) hBx1 (by simp [Value.cells]) (by simp [Value.cells, Value.oneCell']) ?_
      intro x2 hmx2 hBx2
      refine hK _ _ ?_
      clear hK K
      have hT2 : Blk x2 t 257 [.int .i64 (a : Nat), .slice aob sz capb] := hBx2
      have hm02 : Mod [] wr x2 := hmx1.fresh hmx2 (by simpa using ht1)
      clear hBx1 hBx2 hmx1 hmx2 r0 r1 c2
      go_wp2_with fail
      refine wp_region_T [⟨0, true, []⟩, ⟨1, true, []⟩, ⟨2, true, []⟩, ⟨3, true, []⟩, ⟨4, true, []⟩, ⟨5, true, []⟩, ⟨6, true, []⟩, ⟨7, true, []⟩, ⟨8, true, []⟩, ⟨9, true, []⟩, ⟨10, true, []⟩, ⟨11, true, []⟩, ⟨14, true, []⟩, ⟨15, true, []⟩, ⟨16, true, []⟩, ⟨17, true, []⟩, ⟨12, false, [1, 3, 5, 7, 9, 15, 17]⟩, ⟨13, true, []⟩, ⟨18, true, []⟩, ⟨19, true, []⟩, ⟨20, false, []⟩] (by kernel_rfl) (by kernel_rfl) ?_
      have hm0 : Mod [] wr x2.drew := hm02.ext (Mod.drew [] _)
      have hB0 := hBr.ext hm0
      have hD0 := hDb.ext hm0
      have hS0 := hsb.ext hm0
      have hT0 := hT2.ext (Mod.drew [] x2)
      have hb0 := hbo.bs.ext hm0
      obtain ⟨w0, hw0⟩ : ∃ x, x = x2.drew := ⟨_, rfl⟩
      rw [← hw0] at hB0 hD0 hS0 hT0 hb0 hm0 ⊢
      clear hw0 hT2 hm02
      have k0 := hB0.blk.cell' (i := 0) rfl
      have k1 := hB0.blk.cell' (i := 1) rfl
      have t0 := hT0.cell' (i := 0) rfl
      have t1 := hT0.cell' (i := 1) rfl
      have da := hD0.cell' HDA.out
      have y2 : (0 : Int) ≤ a := by omega
      have y3 : (a : Int) < dp.length := by omega
      iterate 16 (refine wpT_n rfl rfl (fun K hK => ?_); go_wp2_with fail)
      refine wpT_e rfl rfl (fun K hK => ?_)
      go_wp2_with (go_at_call 130; (with_reducible refine (HFj _ _ _ _ (hMr.ext hm0) hB0.blk).mono ?_); rintro e x2 ⟨rfl, hmx2⟩)
      refine ⟨agains_cons rfl (again_const (fun _ => rfl)) (agains_cons rfl (again_load rfl rfl (hmx2.block p hB0.blk.lt (by simp)) hB0.blk.kinds) (agains_cons rfl (again_load rfl rfl (hmx2.block t hT0.lt (by simp)) hT0.kinds) (agains_cons rfl (again_load rfl rfl (hmx2.block gD hD0.lt (by simp)) hD0.kinds) (agains_cons rfl (again_load rfl rfl (hmx2.block t hT0.lt (by simp)) hT0.kinds) (agains_cons rfl (again_const (fun _ => rfl)) (agains_cons rfl (again_load rfl rfl (hmx2.block p hB0.blk.lt (by simp)) hB0.blk.kinds) agains_nil)))))), ?_⟩
      have hB1 := hB0.ext hmx2
      have hS1 := hS0.ext hmx2
      have hb1 := hb0.ext hmx2
      have hm1 := hm0.ext hmx2
      clear k0 k1 t0 t1 da hB0 hS0 hb0 hm0 hmx2 hT0 hD0 hbo
      obtain ⟨hq1, hq2, hq3, hql, hbl, hsl, hse, hrj, hsc3⟩ := HQ.out
      have KEY : ∀ (k : Nat) (x3 : World), k = clampN γ sz → Mod [g] x2 x3 → Blk x3 g 5 ((bv (b.take k)).take k ++ (bv dq[a].2).drop k ++ rests) →
          ∃ dr, DkB x3 p sz (.slice (some ⟨gD, 0, none⟩) dp.length capD) (.slice (some ⟨gR, 0, none⟩) rp.length capR) M dr rp ∧ dr.map (·.1) = dp.map (·.1) ∧ dr.map (·.2) = settleD (fun i => clampN (G i) sz) ((rp.map fun x => (x.1, x.2.2)).take (j + 1)) (dp.map (·.2)) ∧ fpD p (.slice (some ⟨gD, 0, none⟩) dp.length capD) (.slice (some ⟨gR, 0, none⟩) rp.length capR) M dr rp = FP ∧ Mod FP w x3 := by
        intro k x3 hk hmx3 hBx3
        rw [bv_tear k b _ (by have := clampN_le γ sz; omega)] at hBx3
        have htl : (tear k b dq[a].2).length = sz := tear_len hbl hsl
        have hob3 : Ob x3 dq[a].1 (tear k b dq[a].2) := by
          rw [hse]
          unfold Ob
          rw [htl]
          refine Ow.of_blk hBx3 hsc hsc2 ?_ (by rw [bv_length, htl, Nat.mul_one])
          rw [List.length_append, bv_length] at hsc3 ⊢
          omega
        obtain ⟨u1, u2, u3⟩ := hB1.turn haq (by rw [hse]; simpa [blks] using hmx3) hob3
        refine ⟨_, u1, ?_, ?_, u2.trans hq3, ?_⟩
        · rw [← hq1, List.map_set]
          apply List.ext_getElem?
          intro i
          rw [List.getElem?_set]
          split
          · subst_vars; simp [haq]
          · rfl
        · have hjl : j < (rp.map fun x => (x.1, x.2.2)).length := by simpa using hj2
          have hjj : (rp.map fun x => (x.1, x.2.2))[j] = (a, b) := by
            rw [List.getElem?_eq_getElem hjl] at hrj
            exact Option.some.inj hrj
          rw [settleD_succ _ _ _ j hjl, hjj, ← hq2, List.map_set]
          unfold stepD
          dsimp only
          rw [hk, HG.out, List.getD_eq_getElem?_getD, List.getElem?_map, List.getElem?_eq_getElem haq]
          rfl
        · rw [hq3] at u3
          exact (hMr.ext hm1).trans u3
      have HKEY := Lib.hid KEY
      have hsl' : (bv dq[a].2).length = sz := by rw [bv_length, hsl]
      have HSL := Lib.hid (And.intro hsl' hbl)
      have hsz0 : (0 : Int) ≤ sz := by omega
      have hsz1 : ¬ ((sz : Int) < 0) := by omega
      clear KEY hq1 hq2 hq3 hql hbl hsl hse hrj hsc3 hsl'
      by_cases hg0 : 0 ≤ γ
      · obtain ⟨gk, rfl⟩ := Int.eq_ofNat_of_zero_le hg0
        by_cases hg1 : gk ≤ sz
        · have hg2 : (gk : Int) ≤ sz := by omega
          have hg3 : ¬ ((sz : Int) < gk) := by omega
          have hg4 : gk ≤ capb := by omega
          have hg5 : (gk : Int) ≤ capb := by omega
          have hsrc : Bs x2 (.slice aob gk capb) (b.take gk) := hb1.pre HSL.out.2.symm (by omega) (by omega)
          have hsr2 : Sl x2 1 (.slice aob gk capb) gk (bv (b.take gk)) := by
            have := hsrc
            unfold Bs at this
            rwa [List.length_take, HSL.out.2, Nat.min_eq_left (by omega)] at this
          iterate 3 (refine wpT_n rfl rfl (fun K hK => ?_); go_wp2_with fail)
          refine wpT_e0 rfl rfl (fun K hK => ?_)
          refine wp_copy_head gk (cap := caps) (by omega) Tryz.underlying33 (by kernel_rfl) (by rfl) (by rfl) hS1 HSL.out.1 hsr2 (bv_one _) ?_
          intro x3 hBx3 hmx3
          simp only [put_some, List.set_cons_succ, List.set_cons_zero]
          refine hK _ _ ?_
          clear hK K
          obtain ⟨dr, v1, v2, v3, v4, v5⟩ := HKEY.out gk x3 (by unfold clampN; simp; omega) hmx3 hBx3
          have HV := Lib.hid (And.intro v2 (And.intro v3 v4))
          clear v2 v3 v4
          refine wpT_nil ?_
          go_wp2_with fail
          go_roundw
          case rel => exact ⟨j + 1, dr, by omega, by go_num, v1, HV.out.1, HV.out.2.1, HV.out.2.2, v5⟩
          case measure => simp [intOf]; omega
        · have hg2 : (sz : Int) < gk := by omega
          have hg3 : (sz : Int) ≤ gk := by omega
          have hg5 : (sz : Int) ≤ capb := by omega
          have hsrc : Bs x2 (.slice aob sz capb) (b.take sz) := hb1.pre HSL.out.2.symm (by omega) (by omega)
          have hsr2 : Sl x2 1 (.slice aob sz capb) sz (bv (b.take sz)) := by
            have := hsrc
            unfold Bs at this
            rwa [List.length_take, HSL.out.2, Nat.min_eq_left (by omega)] at this
          iterate 3 (refine wpT_n rfl rfl (fun K hK => ?_); go_wp2_with fail)
          refine wpT_e0 rfl rfl (fun K hK => ?_)
          refine wp_copy_head sz (cap := caps) (by omega) Tryz.underlying33 (by kernel_rfl) (by rfl) (by rfl) hS1 HSL.out.1 hsr2 (bv_one _) ?_
          intro x3 hBx3 hmx3
          simp only [put_some, List.set_cons_succ, List.set_cons_zero]
          refine hK _ _ ?_
          clear hK K
          obtain ⟨dr, v1, v2, v3, v4, v5⟩ := HKEY.out sz x3 (by unfold clampN; simp; omega) hmx3 hBx3
          have HV := Lib.hid (And.intro v2 (And.intro v3 v4))
          clear v2 v3 v4
          refine wpT_nil ?_
          go_wp2_with fail
          go_roundw
          case rel => exact ⟨j + 1, dr, by omega, by go_num, v1, HV.out.1, HV.out.2.1, HV.out.2.2, v5⟩
          case measure => simp [intOf]; omega
      · have hg2 : γ < 0 := by omega
        have hg3 : γ ≤ 0 := by omega
        have hsrc : Bs x2 (.slice aob 0 capb) (b.take 0) := hb1.pre HSL.out.2.symm (by omega) (by omega)
        have hsr2 : Sl x2 1 (.slice aob 0 capb) 0 (bv (b.take 0)) := by
          have := hsrc
          unfold Bs at this
          rwa [List.length_take, HSL.out.2, Nat.min_eq_left (by omega)] at this
        iterate 3 (refine wpT_n rfl rfl (fun K hK => ?_); go_wp2_with fail)
        refine wpT_e0 rfl rfl (fun K hK => ?_)
        refine wp_copy_head 0 (cap := caps) (by omega) Tryz.underlying33 (by kernel_rfl) (by rfl) (by rfl) hS1 HSL.out.1 hsr2 (bv_one _) ?_
        intro x3 hBx3 hmx3
        simp only [put_some, List.set_cons_succ, List.set_cons_zero]
        refine hK _ _ ?_
        clear hK K
        obtain ⟨dr, v1, v2, v3, v4, v5⟩ := HKEY.out 0 x3 (by unfold clampN; omega) hmx3 hBx3
        have HV := Lib.hid (And.intro v2 (And.intro v3 v4))
        clear v2 v3 v4
        refine wpT_nil ?_
        go_wp2_with fail
        go_roundw
        case rel => exact ⟨j + 1, dr, by omega, by go_num, v1, HV.out.1, HV.out.2.1, HV.out.2.2, v5⟩
        case measure => simp [intOf]; omega
    · obtain rfl : j = rp.length := by omega
      have HQ := Lib.hid (And.intro hq1 (And.intro hq2 hq3))
      clear hq1 hq2 hq3
      go_wp2_with (with_reducible refine st_store ?_)
      refine StopOp.go rfl fun K hK => ?_
      refine wp_store1 (by kernel_rfl) (by rfl) (u := (.slice none 0 0)) (by rfl) ⟨rfl, rfl⟩ hBr.blk (by simp) ?_
      intro x1 hmx1 hBx1
      refine hK _ _ ?_
      clear hK K
      have hB1 : Blk x1 p 138 [.int .i64 (sz : Nat), .slice (some ⟨gD, 0, none⟩) dp.length capD, .slice none 0 0, .map (some M)] := hBx1
      have hM1 := hBr.map.mod hmx1 (by simpa using hBr.map.ne hBr.blk)
      have k3 := hB1.cell' (i := 3) rfl
      clear hBx1
      go_wp2_with (with_reducible refine st_clear ?_)
      refine StopOp.go rfl fun K hK => ?_
      refine wp_clearMap Tryz.underlying135 (by rfl) hM1 ?_
      intro x2 hmx2 hM2
      refine hK _ _ ?_
      clear hK K k3
      go_wp2_with fail
      go_ret
      obtain ⟨hq1, hq2, hq3⟩ := HQ.out
      obtain ⟨u1, u2, u3⟩ := hBr.clear hmx1 hB1 hmx2 hM2
      rw [List.take_of_length_le (by simp)] at hq2
      rw [hq3] at u2 u3
      exact ⟨rfl, _, ⟨_, _, _, _, _, u1, HFIN.out dq hq2, rfl⟩, hMr.trans u3, fun k hk => .inl (u2 k hk)⟩

/-- behind a sync: all that waits is durable -/
def Dm.sync (m : Dm) : Dm := m.settle fun _ => m.sz
def Dm.crash (m : Dm) (F : List (Int × Int)) : Dm := m.settle fun i => clampN (fateK m.sz F i) m.sz
set_option maxHeartbeats 1000000 in
theorem dsync_any (p : Nat) (m : Dm) (L : List Nat) (w : World) (h : Dk w p m L) (hok : m.ok) (hr : m.row.length ≤ 1000000000) :
    Calls Tryz.prog 147 #[.pointer (some ⟨p, 0, none⟩)] w fun e w' => e = .returned (.int .i64 0) ∧ DkPost w p m.sync L w' := by
  have hlt := h.lt
  have e : m.sync = m.settle fun i => clampN ((fun _ => (m.sz : Int)) i) m.sz := by unfold Dm.sync clampN; simp
  rw [e]
  obtain ⟨S, hS⟩ : ∃ S, S = m.settle fun i => clampN ((fun _ => (m.sz : Int)) i) m.sz := ⟨_, rfl⟩
  have SE := fun w1 h1 q HF => settleS_any p m L w1 q (fun _ => (m.sz : Int)) h1 hok hr HF
  rw [← hS] at SE ⊢
  clear hS e
  go_enter Tryz.func147, Tryz.ntmps147
  go_wp2_with (with_reducible refine st_box ?_)
  refine StopOp.go rfl fun K hK => ?_
  refine wp_box (v := .pointer (some ⟨p, 0, none⟩)) (by rfl) ?_
  intro q w1 hq1 hq2 hm1 hB1
  simp only [put_some, List.set_cons_succ, List.set_cons_zero]
  refine hK _ _ ?_
  clear hK K
  have hQ : Blk w1 q 72 [.pointer (some ⟨p, 0, none⟩)] := hB1
  have q0 := hQ.cell' (i := 0) rfl
  have hqL : q ∉ L := fun hh => by have := hlt q hh; omega
  go_wp2_with (go_at_call 129; (with_reducible refine (SE w1 (h.ext hm1) q (fun i hi w2 D R M hm2 hB2 => (sync1_any i q p m.sz D R M w2 (hQ.mod hm2 hqL) hB2).mono (fun e w' ⟨h1, h2⟩ => ⟨h1, h2 ▸ Mod.refl _ _⟩))).mono ?_); rintro e w2 ⟨rfl, L', h1, h2, h3⟩)
  go_ret
  exact ⟨rfl, L', h1, (hm1.weak (by simp)).trans h2, fun k hk => (h3 k hk).imp id fun hh => Nat.le_trans hm1.size hh⟩
set_option maxHeartbeats 1000000 in
theorem settle_no (v f : Value) (w : World) (h : NoDk w v) : Calls Tryz.prog 129 #[v, f] w fun e w' => e = .returned (.int .i64 1) ∧ w = w' := by
  have T := fun w h => there_no v w h
  go_enter Tryz.func129, Tryz.ntmps129
  go_wp2_with (go_at_call 132; (with_reducible refine (T _ h).mono ?_); rintro e w1 ⟨rfl, rfl⟩)
  go_ret
  exact ⟨rfl, rfl⟩
theorem dsync_no (v : Value) (w : World) (h : NoDk w v) : Calls Tryz.prog 147 #[v] w fun e w' => e = .returned (.int .i64 1) ∧ Mod [] w w' := by
  have SE := fun v f w h => settle_no v f w h
  have key : ∀ a, v = .pointer a → Calls Tryz.prog 147 #[v] w fun e w' => e = .returned (.int .i64 1) ∧ Mod [] w w' := by
    rintro a rfl
    go_enter Tryz.func147, Tryz.ntmps147
    go_wp2_with (with_reducible refine st_box ?_)
    refine StopOp.go rfl fun K hK => ?_
    refine wp_box (v := .pointer a) (by rfl) ?_
    intro q w1 hq1 hq2 hm1 hB1
    simp only [put_some, List.set_cons_succ, List.set_cons_zero]
    refine hK _ _ ?_
    clear hK K
    have hQ : Blk w1 q 72 [.pointer a] := hB1
    have q0 := hQ.cell' (i := 0) rfl
    go_wp2_with (go_at_call 129; (with_reducible refine (SE _ _ w1 (h.ext hm1)).mono ?_); rintro e w2 ⟨rfl, rfl⟩)
    go_ret
    exact ⟨rfl, hm1⟩
  rcases h with h' | ⟨p, h', _⟩
  · exact key _ h'
  · exact key _ h'
set_option maxHeartbeats 1000000 in
theorem dcrash_any (p : Nat) (m : Dm) (L : List Nat) (F : List (Int × Int)) (fv : Value) (w : World) (h : Dk w p m L) (hok : m.ok) (hr : m.row.length ≤ 1000000000) (hF : Fs w fv F) (hFL : F ≠ [] → ∀ b ∈ blks fv, b ∉ L) :
    Calls Tryz.prog 72 #[.pointer (some ⟨p, 0, none⟩), fv] w fun e w' => e = .returned (.int .i64 0) ∧ DkPost w p (m.crash F) L w' := by
  have hlt := h.lt
  obtain ⟨S, hS⟩ : ∃ S, S = m.crash F := ⟨_, rfl⟩
  have SE := fun w1 h1 t q HF => settleC_any p m L w1 t q (fateK m.sz F) h1 hok hr HF
  unfold Dm.crash at hS
  rw [← hS] at SE
  rw [show m.crash F = S from hS.symm]
  clear hS
  obtain ⟨ao, cap, rfl, _, _⟩ := hF.form
  go_enter Tryz.func72, Tryz.ntmps72
  go_wp2_with (with_reducible refine st_box ?_)
  refine StopOp.go rfl fun K hK => ?_
  refine wp_box (v := .pointer (some ⟨p, 0, none⟩)) (by rfl) ?_
  intro q w1 hq1 hq2 hm1 hB1
  simp only [put_some, List.set_cons_succ, List.set_cons_zero]
  refine hK _ _ ?_
  clear hK K
  have hQ1 : Blk w1 q 72 [.pointer (some ⟨p, 0, none⟩)] := hB1
  go_wp2_with (with_reducible refine st_box ?_)
  refine StopOp.go rfl fun K hK => ?_
  refine wp_box (v := .slice ao F.length cap) (by rfl) ?_
  intro t w2 ht1 ht2 hm2 hB2
  simp only [put_some, List.set_cons_succ, List.set_cons_zero]
  refine hK _ _ ?_
  clear hK K
  have hT : Blk w2 t 56 [.slice ao F.length cap] := hB2
  have hQ := hQ1.ext hm2
  have hF2 : Fs w2 (.slice ao F.length cap) F := Sl.ext hF (hm1.ext hm2)
  have q0 := hQ.cell' (i := 0) rfl
  have hs1 := hm1.size
  have hqL : q ∉ L := fun hh => by have := hlt q hh; omega
  have htL : t ∉ L := fun hh => by have := hlt t hh; omega
  have HFX : ∀ i, i < m.row.length → ∀ w1 D R M, Mod L w2 w1 → Blk w1 p 138 [.int .i64 (m.sz : Nat), D, R, .map (some M)] → Calls Tryz.prog 130 #[.int .i64 (i : Nat), .pointer (some ⟨t, 0, none⟩), .pointer (some ⟨q, 0, none⟩)] w1 fun e w' => e = .returned (.int .i64 (fateK m.sz F i)) ∧ Mod [] w1 w' :=
    fun i hi w3 D R M hm3 hB3 => crash1_any i F (.slice ao F.length cap) t q p m.sz D R M w3 (hT.mod hm3 htL) (hQ.mod hm3 hqL) (Fs.far hF2 hm3 hFL) hB3
  have SE2 := SE w2 (h.ext (hm1.ext hm2)) t q HFX
  have t0 := hT.cell' (i := 0) rfl
  clear SE HFX
  go_wp2_with (go_at_call 129; (with_reducible refine SE2.mono ?_); rintro e w3 ⟨rfl, L', h1, h2, h3⟩)
  go_ret
  exact ⟨rfl, L', h1, ((hm1.ext hm2).weak (by simp)).trans h2, fun k hk => (h3 k hk).imp id fun hh => Nat.le_trans (hm1.ext hm2).size hh⟩
end Go.Proofs.YtfepggdljhiemaaGreatDoor

/-! Disks: awake. -/
namespace Go.Proofs.YtfepggdljhiemaaGreatDoor
open Go.RowKit Gw

theorem stF : ST Tryz.prog 56 186 (.agg #[.int .i64 0, .int .i64 0]) 2 16 := ⟨Tryz.underlying56, by kernel_rfl, rfl, by decide⟩
/-- a disk that is one's own: it lies in new memory -/
def Own (w0 w : World) (p : Nat) (m : Dm) (L : List Nat) : Prop := Dk w p m L ∧ ∀ k ∈ L, w0.heap.size ≤ k
section
variable {w0 w w' : World} {p : Nat} {m : Dm} {L : List Nat}
theorem Own.ext (h : Own w0 w p m L) (hm : Mod [] w w') : Own w0 w' p m L := ⟨h.1.ext hm, h.2⟩
end
/-- what a call that turns one's own disk leaves -/
def OwnPost (w0 w : World) (p : Nat) (m' : Dm) (w' : World) (L : List Nat) : Prop := ∃ L', Own w0 w' p m' L' ∧ Mod L w w' ∧ ∀ k ∈ L', k ∈ L ∨ w.heap.size ≤ k
theorem DkPost.own {w0 w w' : World} {p : Nat} {m m' : Dm} {L : List Nat} (h : DkPost w p m' L w') (ho : Own w0 w p m L) (hs : w0.heap.size ≤ w.heap.size) : OwnPost w0 w p m' w' L := by
  obtain ⟨L', h1, h2, h3⟩ := h
  exact ⟨L', ⟨h1, fun k hk => (h3 k hk).elim (ho.2 k) (Nat.le_trans hs)⟩, h2, h3⟩
theorem Mod.own {w0 w w' : World} {L : List Nat} (h0 : Mod [] w0 w) (hm : Mod L w w') (hL : ∀ k ∈ L, w0.heap.size ≤ k) : Mod [] w0 w' := h0.fresh hm hL
theorem Ob.headn {w : World} {v : Value} {l : List UInt8} {n : Nat} (h : Ob w v l) (hl : l.length = n) (h0 : 0 < n) : ∃ g cap rest, v = .slice (some ⟨g, 0, none⟩) n cap ∧ Blk w g 5 (bv l ++ rest) ∧ n ≤ cap ∧ cap ≤ 9223372036854775807 ∧ (bv l ++ rest).length = cap := by
  subst hl
  exact h.head h0
/-- the tail of bytes -/
theorem Bs.tail {w : World} {g cap k : Nat} {l : List UInt8} (h : Bs w (.slice (some ⟨g, 0, none⟩) l.length cap) l) (hk : k < l.length) : Bs w (.slice (some ⟨g, k, none⟩) (l.length - k) (cap - k)) (l.drop k) := by
  have hc : l.length ≤ cap := by obtain ⟨_, _, hv, hc, _⟩ := h.form; injection hv with _ _ e; omega
  have := Sl.cut (lo := k) (hi := l.length) (m := cap) h (by omega) (by omega) hc (by omega)
  rw [if_neg (by omega)] at this
  simp only [Nat.mul_one, Addr.add, Option.map_some, Nat.zero_add] at this
  rw [show (if k = 0 then (⟨g, 0, none⟩ : Addr) else ⟨g, k, none⟩) = ⟨g, k, none⟩ by split <;> simp_all] at this
  unfold Bs
  rw [List.length_drop]
  have hb : bv (l.drop k) = (bv l).drop k := by simp [bv, List.map_drop]
  rw [hb]
  have e2 : ((bv l).drop k).take (l.length - k) = (bv l).drop k := List.take_of_length_le (by rw [List.length_drop, bv_length]; omega)
  rw [e2] at this
  exact this
end Go.Proofs.YtfepggdljhiemaaGreatDoor
