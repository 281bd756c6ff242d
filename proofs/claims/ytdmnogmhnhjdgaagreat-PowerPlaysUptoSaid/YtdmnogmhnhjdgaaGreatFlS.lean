import Derived.Test.YtdmnogmhnhjdgaaGreatFlR
import Derived.Test.YtdmnogmhnhjdgaaGreatGMem
/-! flatRows: lists of rows lie apart. -/
set_option linter.unusedVariables false
set_option linter.unusedSimpArgs false
set_option maxRecDepth 100000
namespace Go.Proofs.YtdmnogmhnhjdgaaGreat
open Go.RowKit Gw

def updL (c : Nat → List Value) (k : Nat) (d : List Value) (a : Nat) : List Value := if a = k then d else c a
/-- rows as they stand: so far with marks -/
def RV (w : World) (N : Nat) (V : Nat → Value) (n : Nat → Nat) (c : Nat → List Value) : Prop := ∀ a, a < N → Ow w 32 1 (V a) (n a) (c a)
theorem RV.ext {w w' : World} {N : Nat} {V : Nat → Value} {n : Nat → Nat} {c : Nat → List Value} (h : RV w N V n c) (hm : Mod [] w w') : RV w' N V n c := fun a ha => (h a ha).ext hm
theorem RV.set {w w' : World} {N k : Nat} {V : Nat → Value} {n : Nat → Nat} {c : Nat → List Value} {d : List Value} (h : RV w N V n c) (hd : Dj N V) (hk : k < N) (hm : Mod (blks (V k)) w w') (ho : Ow w' 32 1 (V k) (n k) d) : RV w' N V n (updL c k d) := by
  intro a ha
  unfold updL
  by_cases hak : a = k
  · subst hak
    rw [if_pos rfl]
    exact ho
  · rw [if_neg hak]
    exact Ow.mod (h a ha) hm (hd a k ha hk hak)
theorem kk {w w' : World} {b : Nat} (hm : Mod [] w w') (hl : b < w.heap.size) (h : ∃ c t f, w.heap[b]? = some (.cells c t f)) : ∃ c t f, w'.heap[b]? = some (.cells c t f) := by
  obtain ⟨c, t, f, e⟩ := h
  exact ⟨c, t, f, (hm.block b hl (by simp)).trans e⟩
/-- all rows hold marks -/
def RM (w : World) (N : Nat) (V : Nat → Value) (n : Nat → Nat) : Prop := ∀ a, a < N → RowOk w (V a) (n a) a
theorem RM.ext {w w' : World} {N : Nat} {V : Nat → Value} {n : Nat → Nat} (h : RM w N V n) (hm : Mod [] w w') : RM w' N V n := fun a ha => (h a ha).ext hm
theorem rowsO {w w' : World} {N m : Nat} {V : Nat → Value} {u : Value} {l : List Value} {lv : Value} (hl : Ow w 38 1 lv N (rc V N)) (ho : Ow w 32 1 u m l) (hm : Mod (blks u) w w') : Ow w' 38 1 lv N (rc V N) :=
  Ow.mod hl hm fun b hb hbu => ow_apart ho hl ne_r1 b hbu hb
theorem RowOk.own {w w' : World} {v u : Value} {m m2 : Nat} {k : Int} {ys : List Value} (h : RowOk w v m k) (hm : Mod (blks u) w w') (ho : Ow w 32 1 u m2 ys) (hk : ∀ c, Ow w 32 1 v m c → Ow w' 32 1 v m c) : RowOk w' v m k := by
  obtain ⟨c, h1, h2⟩ := h
  exact ⟨c, hk c h1, h2.own hm ho ne_rows⟩
/-- a row whose first ones are marks -/
def RowPre (w : World) (v : Value) (m m0 : Nat) (k : Int) : Prop := ∃ c, Ow w 32 1 v m c ∧ ∀ (i : Nat) (h : i < c.length), i < m0 → Fz w c[i] (tx k i)
section
variable {w w' : World} {v u : Value} {m m0 g : Nat} {k : Int} {ys : List Value}
theorem RowPre.ext (h : RowPre w v m m0 k) (hm : Mod [] w w') : RowPre w' v m m0 k := by
  obtain ⟨c, h1, h2⟩ := h
  exact ⟨c, h1.ext hm, fun i hi h0 => (h2 i hi h0).ext hm⟩
theorem RowPre.blk (h : RowPre w v m m0 k) (hm : Mod [g] w w') (hB : Blk w g 38 ys) : RowPre w' v m m0 k := by
  obtain ⟨c, h1, h2⟩ := h
  exact ⟨c, Ow.mod h1 hm fun b hb hg => Ow.ne h1 hB ne_r1 (by have e : b = g := (by simpa using hg); exact e ▸ hb), fun i hi h0 => (h2 i hi h0).mod hm fun b hb hbg => (h2 i hi h0).ne hB ne_b2 (by have e : b = g := (by simpa using hbg); exact e ▸ hb)⟩
theorem RowPre.own {m2 : Nat} (h : RowPre w v m m0 k) (hm : Mod (blks u) w w') (ho : Ow w 32 1 u m2 ys) (hk : ∀ c, Ow w 32 1 v m c → Ow w' 32 1 v m c) : RowPre w' v m m0 k := by
  obtain ⟨c, h1, h2⟩ := h
  exact ⟨c, hk c h1, fun i hi h0 => (h2 i hi h0).mod hm ((h2 i hi h0).apart ho ne_rows)⟩
theorem RowPre.form (h : RowPre w v m m0 k) : ∃ ao cap, v = .slice ao m cap ∧ m ≤ cap ∧ cap ≤ 9223372036854775807 := by
  obtain ⟨c, h1, _⟩ := h
  exact h1.sl.form
theorem RowPre.at {ao : Option Addr} {cap : Nat} (h : RowPre w (.slice ao m cap) m m0 k) {i : Nat} (hi0 : i < m0) (hi : i < m) :
    ∃ b x, ao = some ⟨b, 0, none⟩ ∧ Fz w x (tx k i) ∧ (∃ c t f, w.heap[b]? = some (.cells c t f)) ∧ b < w.heap.size ∧ ∀ w', Mod [] w w' → w'.cell? ⟨b, i, none⟩ = some x := by
  obtain ⟨c, h1, h2⟩ := h
  have hl := h1.sl.len
  rw [Nat.mul_one] at hl
  rcases h1.blk with ⟨_, h, _⟩ | ⟨g, cp, rest, hv, hB, _⟩
  · omega
  · injection hv with e1 e2 e3
    exact ⟨g, c[i], e1, h2 i (by omega) hi0, hB.kinds, hB.lt, fun w' hm => (hB.ext hm).cell' (by rw [List.getElem?_append_left (by omega)]; exact List.getElem?_eq_getElem (by omega))⟩
end
set_option maxRecDepth 1000000 in
set_option maxHeartbeats 16000000 in
theorem flatRows_any (V : Nat → Value) (c : Nat → List Value) (n : Nat → Nat) (N : Nat) (lv : Value) (w : World) (hl : Ow w 38 1 lv N (rc V N)) (hr : RV w N V n c) (hd : Dj N V) (hN : N ≤ 1048576) (hn2 : ∀ a, a < N → n a ≤ 1048576) :
    Calls Tryz.prog 85 #[lv] w fun e w' => e = .returned (.bool true) ∧ Mod (LB V N) w w' := by
  obtain ⟨lao, lcap, rfl, hlc, hlc2⟩ := hl.sl.form
  go_enter Tryz.func85, Tryz.ntmps85
  go_wp2_with fail
  go_loopw [3] (fun i wr => ∃ (j : Nat) (c' : Nat → List Value), j ≤ N ∧ i = .int .i64 j ∧ Mod (LB V N) w wr ∧ Ow wr 38 1 (.slice lao N lcap) N (rc V N) ∧ RV wr N V n c' ∧ (∀ a, a < j → Mk wr a (c' a))) (fun i _ => N - (intOf i).toNat)
  case atStart => exact ⟨0, c, by omega, rfl, Mod.refl _ _, hl, hr, fun a ha => by omega⟩
  case round =>
    obtain ⟨j, c1, hj, rfl, hm1, hl1, hr1, hk1⟩ := hrel
    by_cases hlt : j < N
    · have y1 : (j : Int) < N := by omega
      have hnj := hn2 j hlt
      obtain ⟨lb, rfl, _, _, hcw⟩ := row_atG hl1 hlt
      have hc := hcw _ (Mod.refl _ _)
      clear hcw
      obtain ⟨ao, cap, hv, hv1, hv2⟩ := (hr1 j hlt).sl.form
      rw [hv] at hc
      have Hv := Lib.hid hv
      clear hv
      obtain ⟨m, hmj⟩ : ∃ m, m = n j := ⟨_, rfl⟩
      rw [← hmj] at hc Hv hnj hv1
      have Hmj := Lib.hid hmj
      clear hmj
      go_wp2_with fail
      go_loopw [4] (fun i wr => ∃ (i' : Nat) (c' : Nat → List Value), i' ≤ m ∧ i = .int .i64 i' ∧ Mod (LB V N) w wr ∧ Ow wr 38 1 (.slice (some ⟨lb, 0, none⟩) N lcap) N (rc V N) ∧ RV wr N V n c' ∧ (∀ a, a < j → Mk wr a (c' a)) ∧ Mk wr j ((c' j).take i')) (fun i _ => m - (intOf i).toNat)
      case atStart => exact ⟨0, c1, by omega, rfl, hm1, hl1, hr1, hk1, fun i hi => by simp at hi⟩
      case round =>
        clear hc
        obtain ⟨i, c2, hi, rfl, hm2, hl2, hr2, hk2, ht2⟩ := hrel
        obtain ⟨lb', hlb', hkd, hllt, hcw⟩ := row_atG hl2 hlt
        injection hlb' with hlb'
        injection hlb' with hlb'
        subst hlb'
        rw [Hv.out] at hcw
        have hc2 := hcw _ (Mod.refl _ _)
        by_cases hil : i < m
        · have z1 : (i : Int) < m := by omega
          have ho := hr2 j hlt
          rw [Hv.out, ← Hmj.out] at ho
          have hlm : (c2 j).length = m := by have := ho.sl.len; omega
          rcases ho.blk with ⟨_, h0, _⟩ | ⟨g, cp, rest, hvv, hB, hcp1, hcp2, hcp3, hcp4⟩
          · exfalso; omega
          injection hvv with e1 e2 e3
          subst e1 e3
          clear e2
          have Hlm := Lib.hid (And.intro hlm (And.intro hcp3 hcp4))
          clear hlm hcp3 hcp4
          go_wp2_with fail
          refine wp_region_T [⟨0, true, []⟩, ⟨1, true, []⟩, ⟨2, true, []⟩, ⟨3, true, []⟩, ⟨4, true, []⟩, ⟨5, true, []⟩, ⟨6, true, []⟩, ⟨7, false, [3]⟩, ⟨8, true, []⟩, ⟨9, false, []⟩] (by kernel_rfl) (by kernel_rfl) ?_
          have hmD := Mod.drew [] wr
          obtain ⟨xd, hxd⟩ : ∃ xd, xd = wr.drew := ⟨_, rfl⟩
          rw [← hxd] at hmD ⊢
          clear hxd hc2
          have hc2 := hcw _ hmD
          iterate 7 (refine wpT_n rfl rfl (fun K hK => ?_); go_wp2_with fail)
          refine wpT_callh rfl rfl (fun K hK => ?_)
          go_wp2_with (go_at_call 108; (with_reducible refine (markRow_any j i _ (by omega) (by omega) (by omega) (by omega)).mono ?_); rintro e w3 ⟨g3, cap3, rfl, hf3, hg3, hm3⟩)
          refine ⟨agains_cons rfl (again_load rfl rfl (hm3.block lb (Nat.lt_of_lt_of_le hllt hmD.size) (by simp)) (kk hmD hllt hkd)) agains_nil, ?_⟩
          have hm03 := hmD.ext hm3
          have hB3 := hB.ext hm03
          refine wpT_n rfl rfl (fun K hK => ?_)
          go_wp2_with fail
          refine wpT_e0 rfl rfl (fun K hK => ?_)
          refine wp_store1 (by kernel_rfl) (by rfl) (u := .slice (some ⟨g3, 0, none⟩) 8 cap3) (by rfl) ⟨rfl, rfl⟩ hB3 (by rw [List.length_append, Hlm.out.1]; omega) ?_
          intro w4 hm4 hB4
          refine hK _ _ ?_
          clear hK K
          refine wpT_nil ?_
          go_wp2_with fail
          go_roundw
          case rel =>
            have hl3 := (hr2 j hlt)
            rw [List.set_append_left _ _ (by rw [Hlm.out.1]; omega)] at hB4
            have hmg : Mod (blks (V j)) wr w4 := by rw [Hv.out]; exact (hm03.weak (M := [g]) (by simp)).trans hm4
            have ho4 : Ow w4 32 1 (V j) (n j) ((c2 j).set i (.slice (some ⟨g3, 0, none⟩) 8 cap3)) := by
              rw [Hv.out, ← Hmj.out]
              exact Ow.of_blk hB4 hv1 hv2 (by have := Hlm.out.2.1; rw [List.length_append] at this ⊢; rw [List.length_set]; exact this) (by rw [List.length_set]; exact Hlm.out.2.2)
            refine ⟨i + 1, updL c2 j ((c2 j).set i (.slice (some ⟨g3, 0, none⟩) 8 cap3)), by omega, by go_num, hm2.then hmg fun b hb => .inl (mem_LB hlt hb), rowsO hl2 (hr2 j hlt) hmg, hr2.set hd hlt hmg ho4, fun a ha => ?_, ?_⟩
            · unfold updL
              rw [if_neg (by omega)]
              exact (((hk2 a ha).ext hm03)).blk hm4 hB3 ne_rows
            · unfold updL
              rw [if_pos rfl]
              exact Mk.set ((ht2.ext hm03).blk hm4 hB3 ne_rows) (by rw [Hlm.out.1]; exact hil) (hf3.mod hm4 fun b hb hbg => hf3.ne hB3 ne_rows (by have e : b = g := (by simpa using hbg); exact e ▸ hb))
          case measure => simp [intOf]; omega
        · obtain rfl : i = m := by omega
          go_wp2_with fail
          go_roundw
          case rel =>
            refine ⟨j + 1, c2, by omega, by go_num, hm2, hl2, hr2, fun a ha => ?_⟩
            by_cases haj : a < j
            · exact hk2 a haj
            · obtain rfl : a = j := by omega
              have h1 := (hr2 a hlt).sl.len
              rw [List.take_of_length_le (by rw [h1, Hmj.out]; omega)] at ht2
              exact ht2
          case measure => simp [intOf]; omega
    · obtain rfl : j = N := by omega
      have hrM : RM wr j V n := fun a ha => ⟨c1 a, hr1 a ha, hk1 a ha⟩
      clear hr1 hk1 hr hl
      go_wp2_with (with_reducible refine st_make ?_)
      refine StopOp.go rfl fun K hK => ?_
      refine wp_make (nl := j) (nc := j) stRR (by rfl) (by rfl) rfl rfl (Nat.le_refl _) (by omega) (by omega) ?_
      intro gb w2 hgb1 hgb2 hm2 hB2
      simp only [put_some, List.set_cons_succ, List.set_cons_zero]
      refine hK _ _ ?_
      clear hK K
      have hBH : ∃ H, Blk w2 gb 38 (rc H j) := ⟨fun _ => .slice none 0 0, by simpa [rc, Value.cells, List.flatten_replicate_singleton, List.map_const'] using hB2⟩
      obtain ⟨H0, hB2'⟩ := hBH
      have hVlt : ∀ a, a < j → ∀ b ∈ blks (V a), b < w2.heap.size := fun a ha b hb => Nat.lt_of_lt_of_le ((hrM a ha).lt b hb) hm2.size
      have hgbV : w.heap.size ≤ gb := Nat.le_trans hm1.size hgb1
      have hrM2 := hrM.ext hm2
      have hl2 := hl1.ext hm2
      have hm12 := hm1.ext hm2
      have hlgb : ∀ b ∈ blks (.slice lao j lcap), b < gb := fun b hb => Nat.lt_of_lt_of_le (Ow.lt hl1 b hb) hgb1
      clear hB2 hrM hl1 hm1 hm2
      go_wp2_with fail
      go_loopw [6] (fun i wr => ∃ (k : Nat) (H : Nat → Value), k ≤ j ∧ i = .int .i64 k ∧ Mod (LB V j) w wr ∧ w2.heap.size ≤ wr.heap.size ∧ Ow wr 38 1 (.slice lao j lcap) j (rc V j) ∧ RM wr j V n ∧ Blk wr gb 38 (rc H j) ∧ (∀ a, a < k → RowOk wr (H a) (n a + 64) a ∧ ∀ b ∈ blks (H a), b ∈ blks (V a) ∨ w2.heap.size ≤ b)) (fun i _ => j - (intOf i).toNat)
      case atStart => exact ⟨0, H0, by omega, rfl, hm12, Nat.le_refl _, hl2, hrM2, hB2', fun a ha => by omega⟩
      case round =>
        obtain ⟨k, H, hk, rfl, hm3, hs3, hl3, hr3, hB3, hH3⟩ := hrel
        by_cases hlt : k < j
        · have y1 : (k : Int) < j := by omega
          have hnj := hn2 k hlt
          obtain ⟨lb, rfl, _, _, hcw⟩ := row_atG hl3 hlt
          have hc := hcw _ (Mod.refl _ _)
          clear hcw
          obtain ⟨ao, cap, hv, hv1, hv2⟩ := (hr3 k hlt).form
          rw [hv] at hc
          have Hv := Lib.hid hv
          clear hv
          obtain ⟨m, hmj⟩ : ∃ m, m = n k := ⟨_, rfl⟩
          rw [← hmj] at hc Hv hnj hv1
          have Hmj := Lib.hid hmj
          clear hmj
          go_wp2_with fail
          go_loopw [7, 8] (fun x i wr => ∃ (i' : Nat) (ao' : Option Addr) (cap' : Nat), i' ≤ 64 ∧ i = .int .i64 i' ∧ x = .slice ao' (m + i') cap' ∧ Mod (LB V j) w wr ∧ w2.heap.size ≤ wr.heap.size ∧ Ow wr 38 1 (.slice (some ⟨lb, 0, none⟩) j lcap) j (rc V j) ∧ RM wr j V n ∧ Blk wr gb 38 (rc H j) ∧ (∀ a, a < k → RowOk wr (H a) (n a + 64) a ∧ ∀ b ∈ blks (H a), b ∉ blks (.slice ao' (m + i') cap')) ∧ RowOk wr (.slice ao' (m + i') cap') (m + i') k ∧ (∀ b ∈ blks (.slice ao' (m + i') cap'), b ∈ blks (V k) ∨ w2.heap.size ≤ b)) (fun _ i _ => 64 - (intOf i).toNat)
          case atStart =>
            have ho := hr3 k hlt
            rw [Hv.out] at ho
            refine ⟨0, ao, cap, by omega, rfl, by rw [Nat.add_zero], hm3, hs3, hl3, hr3, hB3, fun a ha => ⟨(hH3 a ha).1, fun b hb hb2 => ?_⟩, by rw [Nat.add_zero]; rw [← Hmj.out] at ho; exact ho, fun b hb => .inl (by rw [Hv.out]; simpa using hb)⟩
            have hbk : b ∈ blks (V k) := by rw [Hv.out]; simpa using hb2
            rcases (hH3 a ha).2 b hb with h | h
            · exact hd a k (by omega) hlt (by omega) b h hbk
            · have := hVlt k hlt b hbk
              omega
          case round =>
            clear hc
            obtain ⟨i, ao4, cap4, hi, rfl, rfl, hm4, hs4, hl4, hr4, hB4, hH4, ho4, hb4⟩ := hrel
            obtain ⟨lb', hlb', _, _, hcw⟩ := row_atG hl4 hlt
            injection hlb' with hlb'
            injection hlb' with hlb'
            subst hlb'
            rw [Hv.out] at hcw
            have hc4 := hcw _ (Mod.refl _ _)
            by_cases hil : i < 64
            · have z1 : (i : Int) < 64 := by omega
              go_wp2_with (first
                            | (with_reducible refine st_bslice ?_)
                            | (go_at_call 108; (with_reducible refine (markRow_any k ((m : Int) + i) _ (by omega) (by omega) (by omega) (by omega)).mono ?_); rintro e w3 ⟨g3, cap3, rfl, hf3, hg3, hm3⟩))
              refine StopOp.go rfl fun K hK => ?_
              refine wp_bslice stRow [.slice (some ⟨g3, 0, none⟩) 8 cap3] rfl (by decide) (by rfl) (by simp [Value.cells]) ?_
              intro q w5 hq1 hq2 hm5 hB5
              simp only [put_some, List.set_cons_succ, List.set_cons_zero]
              refine hK _ _ ?_
              clear hK K
              have hm35 := hm3.ext hm5
              have hf5 := hf3.ext hm5
              have hb5 : Sl w5 1 (.slice (some ⟨q, 0, none⟩) 1 1) 1 [.slice (some ⟨g3, 0, none⟩) 8 cap3] := (Ow.of_blk (rest := []) hB5 (Nat.le_refl _) (by omega) rfl rfl : Ow w5 32 1 (.slice (some ⟨q, 0, none⟩) 1 1) 1 [.slice (some ⟨g3, 0, none⟩) 8 cap3]).sl
              obtain ⟨dd, ho5', hk5'⟩ := ho4.ext hm35
              have hdl : dd.length = m + i := by have := ho5'.sl.len; omega
              go_wp2_with (with_reducible refine st_append ?_)
              refine StopOp.go rfl fun K hK => ?_
              refine wp_append_kp stRow (by rfl) (by rfl) ho5' hb5 (by simp [Value.oneCell']) (by omega) (by omega) (by omega) ?_
              intro v6 w6 ho6 hm6 hb6 hkp
              simp only [put_some, List.set_cons_succ, List.set_cons_zero]
              refine hK _ _ ?_
              clear hK K
              rw [Nat.add_assoc] at ho6
              obtain ⟨ao6, cap6, rfl, _, _⟩ := ho6.sl.form
              go_wp2_with fail
              go_roundw
              case rel =>
                have s5 := hm35.size
                have hL : ∀ b ∈ blks (.slice ao4 (m + i) cap4), b ∈ LB V j ∨ w.heap.size ≤ b := fun b hb => (hb4 b hb).imp (mem_LB hlt) fun h => by have := hm12.size; omega
                refine ⟨i + 1, ao6, cap6, by omega, by go_num, rfl, (hm4.ext hm35).then hm6 hL, by have := hm6.size; omega, rowsO (hl4.ext hm35) ho5' hm6, fun a ha => ?_, (hB4.ext hm35).mod hm6 (Ow.ne ho5' (hB4.ext hm35) ne_r1), fun a ha => ⟨?_, fun b hb hb2 => ?_⟩, ?_, fun b hb => ?_⟩
                · refine ((hr4 a ha).ext hm35).own hm6 ho5' fun c hc => hkp _ _ _ hc ?_
                  by_cases hak : a = k
                  · left
                    subst hak
                    rw [← Hmj.out]
                    omega
                  · right
                    intro b hb hb2
                    rcases hb4 b hb2 with h | h
                    · exact hd a k ha hlt hak b hb h
                    · have := hVlt a ha b hb
                      omega
                · exact ((hH4 a ha).1.ext hm35).own hm6 ho5' fun c hc => hkp _ _ _ hc (.inr (hH4 a ha).2)
                · rcases hb6 b hb2 with h | h
                  · exact (hH4 a ha).2 b hb h
                  · have := (hH4 a ha).1.lt b hb
                    omega
                · refine ⟨_, ho6, ?_⟩
                  refine Mk.snoc (hk5'.own hm6 ho5' ne_rows) ?_
                  rw [hdl, show ((m + i : Nat) : Int) = (m : Int) + i by omega]
                  exact hf5.mod hm6 (hf5.apart ho5' ne_rows)
                · rcases hb6 b hb with h | h
                  · exact hb4 b h
                  · right
                    omega
              case measure => simp [intOf]; omega
            · obtain rfl : i = 64 := by omega
              have cg := hB4.cell' (rc_at H hlt)
              go_wp2_with (with_reducible refine st_store ?_)
              refine StopOp.go rfl fun K hK => ?_
              refine wp_store1 (by kernel_rfl) (by rfl) (u := .slice ao4 (m + 64) cap4) (by rfl) ⟨rfl, rfl⟩ hB4 (by rw [rc_length]; exact hlt) ?_
              intro w7 hm7 hB7
              refine hK _ _ ?_
              clear hK K
              rw [rc_set _ _ hlt] at hB7
              go_wp2_with fail
              go_roundw
              case rel =>
                have hlb : lb ≠ gb := fun h => by
                  have h1 := hlgb lb (by simp [blks])
                  omega
                refine ⟨k + 1, _, by omega, by go_num, hm4.then hm7 (by simpa using .inr hgbV), by have := hm7.size; omega, Ow.mod hl4 hm7 (by simpa [blks] using hlb), fun a ha => (hr4 a ha).blk hm7 hB4, hB7, fun a ha => ?_⟩
                by_cases hak : a < k
                · rw [updV_ne _ _ hak]
                  exact ⟨(hH4 a hak).1.blk hm7 hB4, (hH3 a hak).2⟩
                · obtain rfl : a = k := by omega
                  rw [updV_eq, ← Hmj.out]
                  exact ⟨ho4.blk hm7 hB4, hb4⟩
              case measure => simp [intOf]; omega
        · obtain rfl : k = j := by omega
          clear hB2' hrM2 hm12
          obtain ⟨wr0, hwr0⟩ : ∃ x, x = wr := ⟨_, rfl⟩
          subst hwr0
          go_wp2_with fail
          go_loopw [9] (fun i wr => ∃ k' : Nat, k' ≤ k ∧ i = .int .i64 k' ∧ Mod (LB V k) w wr ∧ Mod [] wr0 wr) (fun i _ => k - (intOf i).toNat)
          case atStart => exact ⟨0, by omega, rfl, hm3, Mod.refl _ _⟩
          case round =>
            obtain ⟨a, ha, rfl, hm4, hx4⟩ := hrel
            by_cases hlt : a < k
            · have y1 : (a : Int) < k := by omega
              have hnj := hn2 a hlt
              obtain ⟨lb, rfl, hkl, hltl, hcw⟩ := row_atG hl3 hlt
              have ho0 := hr3 a hlt
              have hoH0 := (hH3 a hlt).1
              obtain ⟨ao, cap, hv, hv1, hv2⟩ := ho0.form
              obtain ⟨aoh, caph, hvh, hvh1, hvh2⟩ := hoH0.form
              have hchw : ∀ w', Mod [] wr0 w' → w'.cell? ⟨gb, a, none⟩ = some (H a) := fun w' hm => (hB3.ext hm).cell' (rc_at H hlt)
              rw [hv] at hcw ho0
              simp only [hvh] at hchw
              rw [hvh] at hoH0
              clear hv hvh
              obtain ⟨m, hmj⟩ : ∃ m, m = n a := ⟨_, rfl⟩
              rw [← hmj] at hcw ho0 hoH0 hnj hv1 hvh1
              simp only [← hmj] at hchw
              clear hmj
              have hc := hcw _ hx4
              have hch := hchw _ hx4
              go_wp2_with fail
              clear hc hch
              go_loopw [10] (fun i wr => ∃ i' : Nat, i' ≤ m + 64 ∧ i = .int .i64 i' ∧ Mod (LB V k) w wr ∧ Mod [] wr0 wr) (fun i _ => m + 64 - (intOf i).toNat)
              case atStart => exact ⟨0, by omega, rfl, hm4, hx4⟩
              case round =>
                obtain ⟨i, hi, rfl, hm5, hx5⟩ := hrel
                have hc5 := hcw _ hx5
                have hch5 := hchw _ hx5
                by_cases hil : i < m + 64
                · have z1 : (i : Int) < m + 64 := by omega
                  obtain ⟨bh, xh, rfl, hFh, hkh, hlh, hchx⟩ := hoH0.at hil
                  have hch6 := hchx _ hx5
                  by_cases him : i < m
                  · have z2 : (i : Int) < m := by omega
                    obtain ⟨bv0, xv, rfl, hFv, hkv, hlv, hcvx⟩ := ho0.at him
                    have hcv6 := hcvx _ hx5
                    obtain ⟨aoxh, capxh, rfl, _, _⟩ := hFh.b.form
                    obtain ⟨aoxv, capxv, rfl, _, _⟩ := hFv.b.form
                    go_wp2_with fail
                    refine wp_region_T [⟨0, true, []⟩, ⟨1, true, []⟩, ⟨2, true, []⟩, ⟨3, true, []⟩, ⟨4, true, []⟩, ⟨5, true, []⟩, ⟨6, true, []⟩, ⟨7, true, []⟩, ⟨8, true, []⟩, ⟨9, false, [3, 6]⟩, ⟨10, false, []⟩, ⟨11, true, []⟩, ⟨12, true, []⟩, ⟨13, true, []⟩, ⟨14, true, []⟩, ⟨15, true, []⟩, ⟨16, true, []⟩, ⟨17, true, []⟩, ⟨18, true, []⟩, ⟨19, true, []⟩, ⟨20, true, []⟩, ⟨21, true, []⟩, ⟨22, true, []⟩, ⟨23, true, []⟩, ⟨24, true, []⟩, ⟨25, true, []⟩, ⟨26, true, []⟩, ⟨27, true, []⟩, ⟨28, true, []⟩, ⟨29, true, []⟩, ⟨30, false, [24, 27]⟩, ⟨31, false, []⟩, ⟨32, true, []⟩, ⟨33, true, []⟩, ⟨34, true, []⟩] (by kernel_rfl) (by kernel_rfl) ?_
                    have hmD := Mod.drew [] wr
                    obtain ⟨xd, hxd⟩ : ∃ xd, xd = wr.drew := ⟨_, rfl⟩
                    rw [← hxd] at hmD ⊢
                    clear hxd hc5 hch5 hch6 hcv6
                    have hxD := hx5.ext hmD
                    have hc5 := hcw _ hxD
                    have hch5 := hchw _ hxD
                    have hch6 := hchx _ hxD
                    iterate 9 (refine wpT_n rfl rfl (fun K hK => ?_); go_wp2_with fail)
                    refine wpT_callh rfl rfl (fun K hK => ?_)
                    go_wp2_with (go_at_call 108; (with_reducible refine (markRow_any a i _ (by omega) (by omega) (by omega) (by omega)).mono ?_); rintro e w6 ⟨g6, cap6, rfl, hf6, hg6, hm6⟩)
                    refine ⟨agains_cons rfl (again_load rfl rfl (hm6.block gb (Nat.lt_of_lt_of_le hB3.lt hxD.size) (by simp)) (kk hxD hB3.lt hB3.kinds)) (agains_cons rfl (again_load rfl rfl (hm6.block bh (Nat.lt_of_lt_of_le hlh hxD.size) (by simp)) (kk hxD hlh hkh)) agains_nil), ?_⟩
                    refine wpT_call rfl rfl (fun K hK => ?_)
                    go_wp2_with (go_at_call 25; (with_reducible refine (same_yes _ _ _ _ _ ((hFh.ext hxD).ext hm6).b hf6.b rfl).mono ?_); rintro e w7 ⟨rfl, hm7⟩)
                    have hx7 := (hxD.ext hm6).ext hm7
                    have hc7 := hcw _ hx7
                    have hcv7 := hcvx _ hx7
                    iterate 2 (refine wpT_n rfl rfl (fun K hK => ?_); go_wp2_with fail)
                    iterate 8 (refine wpT_gq (gi := 12) rfl rfl rfl rfl rfl (fun K hK => ?_); go_wp2_with fail)
                    iterate 9 (refine wpT_gq (gi := 20) rfl rfl rfl rfl rfl (fun K hK => ?_); go_wp2_with fail)
                    refine wpT_gcallh (gi := 20) rfl rfl rfl rfl (fun K hK => ?_)
                    go_wp2_with (go_at_call 108; (with_reducible refine (markRow_any a i _ (by omega) (by omega) (by omega) (by omega)).mono ?_); rintro e w8 ⟨g8, cap8, rfl, hf8, hg8, hm8⟩)
                    refine ⟨agains_cons rfl (again_load rfl rfl (hm8.block lb (Nat.lt_of_lt_of_le hltl hx7.size) (by simp)) (kk hx7 hltl hkl)) (agains_cons rfl (again_load rfl rfl (hm8.block bv0 (Nat.lt_of_lt_of_le hlv hx7.size) (by simp)) (kk hx7 hlv hkv)) agains_nil), ?_⟩
                    refine wpT_gcall (gi := 20) rfl rfl rfl rfl (fun K hK => ?_)
                    go_wp2_with (go_at_call 25; (with_reducible refine (same_yes _ _ _ _ _ ((hFv.ext hx7).ext hm8).b hf8.b rfl).mono ?_); rintro e w9 ⟨rfl, hm9⟩)
                    refine wpT_gq (gi := 20) rfl rfl rfl rfl rfl (fun K hK => ?_)
                    go_wp2_with fail
                    refine wpT_gq (gi := 12) rfl rfl rfl rfl rfl (fun K hK => ?_)
                    go_wp2_with fail
                    refine wpT_n rfl rfl (fun K hK => ?_)
                    go_wp2_with fail
                    refine wpT_nil ?_
                    go_wp2_with fail
                    go_roundw
                    case rel => exact ⟨i + 1, by omega, by go_num, (((((hm5.ext hmD).ext hm6).ext hm7).ext hm8).ext hm9), (hx7.ext hm8).ext hm9⟩
                    case measure => simp [intOf]; omega
                  · have z2 : decide (i < m) = false := decide_eq_false him
                    obtain ⟨aoxh, capxh, rfl, _, _⟩ := hFh.b.form
                    go_wp2_with fail
                    refine wp_region_T [⟨0, true, []⟩, ⟨1, true, []⟩, ⟨2, true, []⟩, ⟨3, true, []⟩, ⟨4, true, []⟩, ⟨5, true, []⟩, ⟨6, true, []⟩, ⟨7, true, []⟩, ⟨8, true, []⟩, ⟨9, false, [3, 6]⟩, ⟨10, false, []⟩, ⟨11, true, []⟩, ⟨12, true, []⟩, ⟨13, true, []⟩, ⟨14, true, []⟩, ⟨15, true, []⟩, ⟨16, true, []⟩, ⟨17, true, []⟩, ⟨18, true, []⟩, ⟨19, true, []⟩, ⟨20, true, []⟩, ⟨21, true, []⟩, ⟨22, true, []⟩, ⟨23, true, []⟩, ⟨24, true, []⟩, ⟨25, true, []⟩, ⟨26, true, []⟩, ⟨27, true, []⟩, ⟨28, true, []⟩, ⟨29, true, []⟩, ⟨30, false, [24, 27]⟩, ⟨31, false, []⟩, ⟨32, true, []⟩, ⟨33, true, []⟩, ⟨34, true, []⟩] (by kernel_rfl) (by kernel_rfl) ?_
                    have hmD := Mod.drew [] wr
                    obtain ⟨xd, hxd⟩ : ∃ xd, xd = wr.drew := ⟨_, rfl⟩
                    rw [← hxd] at hmD ⊢
                    clear hxd hc5 hch5 hch6
                    have hxD := hx5.ext hmD
                    have hc5 := hcw _ hxD
                    have hch5 := hchw _ hxD
                    have hch6 := hchx _ hxD
                    iterate 9 (refine wpT_n rfl rfl (fun K hK => ?_); go_wp2_with fail)
                    refine wpT_callh rfl rfl (fun K hK => ?_)
                    go_wp2_with (go_at_call 108; (with_reducible refine (markRow_any a i _ (by omega) (by omega) (by omega) (by omega)).mono ?_); rintro e w6 ⟨g6, cap6, rfl, hf6, hg6, hm6⟩)
                    refine ⟨agains_cons rfl (again_load rfl rfl (hm6.block gb (Nat.lt_of_lt_of_le hB3.lt hxD.size) (by simp)) (kk hxD hB3.lt hB3.kinds)) (agains_cons rfl (again_load rfl rfl (hm6.block bh (Nat.lt_of_lt_of_le hlh hxD.size) (by simp)) (kk hxD hlh hkh)) agains_nil), ?_⟩
                    refine wpT_call rfl rfl (fun K hK => ?_)
                    go_wp2_with (go_at_call 25; (with_reducible refine (same_yes _ _ _ _ _ ((hFh.ext hxD).ext hm6).b hf6.b rfl).mono ?_); rintro e w7 ⟨rfl, hm7⟩)
                    have hx7 := (hxD.ext hm6).ext hm7
                    have hc7 := hcw _ hx7
                    iterate 2 (refine wpT_n rfl rfl (fun K hK => ?_); go_wp2_with fail)
                    iterate 8 (refine wpT_gq (gi := 12) rfl rfl rfl rfl rfl (fun K hK => ?_); go_wp2_with fail)
                    iterate 12 (refine wpT_gk (gi := 20) rfl rfl rfl rfl rfl rfl (fun K hK => ?_); go_wp2_with fail)
                    refine wpT_gq (gi := 12) rfl rfl rfl rfl rfl (fun K hK => ?_)
                    go_wp2_with fail
                    refine wpT_n rfl rfl (fun K hK => ?_)
                    go_wp2_with fail
                    refine wpT_nil ?_
                    go_wp2_with fail
                    go_roundw
                    case rel => exact ⟨i + 1, by omega, by go_num, (((hm5.ext hmD).ext hm6).ext hm7), hx7⟩
                    case measure => simp [intOf]; omega
                · obtain rfl : i = m + 64 := by omega
                  go_wp2_with fail
                  go_roundw
                  case rel => exact ⟨a + 1, by omega, by go_num, hm5, hx5⟩
                  case measure => simp [intOf]; omega
            · obtain rfl : a = k := by omega
              have hl4 := hl3.ext hx4
              have hr4 : RM wr a V n := hr3.ext hx4
              have hB4 := hB3.ext hx4
              have hs4 := hx4.size
              have hs2 : w2.heap.size ≤ wr.heap.size := Nat.le_trans hs3 hs4
              clear hl3 hr3 hB3 hH3 hm3 hs3
              obtain ⟨wr4, hwr4⟩ : ∃ x, x = wr := ⟨_, rfl⟩
              subst hwr4
              go_wp2_with fail
              go_loopw [11] (fun i wr => ∃ (b : Nat) (H' : Nat → Value), b ≤ a ∧ i = .int .i64 b ∧ Mod (LB V a) w wr ∧ wr4.heap.size ≤ wr.heap.size ∧ Ow wr 38 1 (.slice lao a lcap) a (rc V a) ∧ RM wr a V n ∧ Blk wr gb 38 (rc H' a) ∧ (∀ x, x < b → RowPre wr (H' x) (n x + 64) (n x) x ∧ ∀ y ∈ blks (H' x), y ∈ blks (V x) ∨ wr4.heap.size ≤ y)) (fun i _ => a - (intOf i).toNat)
              case atStart => exact ⟨0, H, by omega, rfl, hm4, Nat.le_refl _, hl4, hr4, hB4, fun x hx => by omega⟩
              case round =>
                obtain ⟨b, H5, hb, rfl, hm5, hs5, hl5, hr5, hB5, hH5⟩ := hrel
                by_cases hlt : b < a
                · have y1 : (b : Int) < a := by omega
                  have hnj := hn2 b hlt
                  obtain ⟨lb, rfl, _, _, hcw⟩ := row_atG hl5 hlt
                  obtain ⟨ao, cap, hv, hv1, hv2⟩ := (hr5 b hlt).form
                  have hvb := hr5 b hlt
                  rw [hv] at hcw hvb
                  have Hv := Lib.hid hv
                  clear hv
                  obtain ⟨m, hmj⟩ : ∃ m, m = n b := ⟨_, rfl⟩
                  rw [← hmj] at hcw Hv hnj hv1 hvb
                  have Hmj := Lib.hid hmj
                  clear hmj
                  go_wp2_with (with_reducible refine st_make ?_)
                  refine StopOp.go rfl fun K hK => ?_
                  refine wp_make (nl := 64) (nc := 64) stRow (by rfl) (by rfl) rfl rfl (Nat.le_refl _) (by omega) (by omega) ?_
                  intro q w6 hq1 hq2 hm6 hB6
                  simp only [put_some, List.set_cons_succ, List.set_cons_zero]
                  refine hK _ _ ?_
                  clear hK K
                  have hB6' : Blk w6 q 32 (List.replicate 64 (.slice none 0 0)) := by simpa [Value.cells, List.flatten_replicate_singleton] using hB6
                  clear hB6
                  obtain ⟨wb, hwb⟩ : ∃ x, x = wr := ⟨_, rfl⟩
                  subst hwb
                  go_wp2_with fail
                  go_loopw [13] (fun i wr => ∃ (i' : Nat) (ml : List Value), i' ≤ 64 ∧ i = .int .i64 i' ∧ Mod [] wb wr ∧ Blk wr q 32 ml ∧ ml.length = 64 ∧ (∀ u ∈ ml, u.oneCell' = true)) (fun i _ => 64 - (intOf i).toNat)
                  case atStart => exact ⟨0, _, by omega, rfl, hm6, hB6', by simp, fun u hu => by rw [List.eq_of_mem_replicate hu]; rfl⟩
                  case round =>
                    obtain ⟨i, ml, hi, rfl, hm7, hB7, hml, hmo⟩ := hrel
                    have Hml := Lib.hid hml
                    clear hml
                    by_cases hil : i < 64
                    · have z1 : (i : Int) < 64 := by omega
                      go_wp2_with (first
                                    | (with_reducible refine st_store ?_)
                                    | (go_at_call 108; (with_reducible refine (markRow_any ((b : Int) + a) i _ (by omega) (by omega) (by omega) (by omega)).mono ?_); rintro e w3 ⟨g3, cap3, rfl, hf3, hg3, hm3⟩; have hB7' := hB7.ext hm3))
                      refine StopOp.go rfl fun K hK => ?_
                      refine wp_store1 (by kernel_rfl) (by rfl) (u := .slice (some ⟨g3, 0, none⟩) 8 cap3) (by rfl) ⟨rfl, rfl⟩ hB7' (by rw [Hml.out]; omega) ?_
                      intro w8 hm8 hB8
                      refine hK _ _ ?_
                      clear hK K
                      go_wp2_with fail
                      go_roundw
                      case rel => exact ⟨i + 1, _, by omega, by go_num, (hm7.ext hm3).fresh hm8 (by simpa using hq1), hB8, by rw [List.length_set]; exact Hml.out, fun u hu => (List.mem_or_eq_of_mem_set hu).elim (hmo u) (fun e => by rw [e]; rfl)⟩
                      case measure => simp [intOf]; omega
                    · obtain rfl : i = 64 := by omega
                      have hq64 : Sl wr 1 (.slice (some ⟨q, 0, none⟩) 64 64) 64 ml := (Ow.of_blk (rest := []) (by rw [List.append_nil]; exact hB7) (Nat.le_refl _) (by omega) (by rw [List.append_nil, Hml.out]) (by rw [Hml.out]) : Ow wr 32 1 (.slice (some ⟨q, 0, none⟩) 64 64) 64 ml).sl
                      have hc8 := hcw _ hm7
                      have hl7 := hl5.ext hm7
                      have hr7 := hr5.ext hm7
                      have hBg7 := hB5.ext hm7
                      obtain ⟨dd, hvb7, hvk7⟩ := hvb.ext hm7
                      have hddl : dd.length = m := by have := hvb7.sl.len; omega
                      have Hddl := Lib.hid hddl
                      clear hm6 hB6' hB7 hddl
                      go_wp2_with (with_reducible refine st_append ?_)
                      refine StopOp.go rfl fun K hK => ?_
                      refine wp_append_kp stRow (by rfl) (by rfl) hvb7 hq64 hmo (by omega) (by omega) (by omega) ?_
                      intro v9 w9 ho9 hm9 hb9 hkp
                      simp only [put_some, List.set_cons_succ, List.set_cons_zero]
                      refine hK _ _ ?_
                      clear hK K
                      obtain ⟨ao9, cap9, rfl, _, _⟩ := ho9.sl.form
                      have hBg9 := hBg7.mod hm9 (Ow.ne hvb7 hBg7 ne_r1)
                      have hl9 := rowsO (u := .slice ao m cap) hl7 hvb7 hm9
                      have hLb : ∀ y ∈ blks (.slice ao m cap), y ∈ LB V a ∨ w.heap.size ≤ y := fun y hy => .inl (mem_LB hlt (by rw [Hv.out]; exact hy))
                      go_wp2_with (with_reducible refine st_store ?_)
                      refine StopOp.go rfl fun K hK => ?_
                      refine wp_store1 (by kernel_rfl) (by rfl) (u := .slice ao9 (m + 64) cap9) (by rfl) ⟨rfl, rfl⟩ hBg9 (by rw [rc_length]; exact hlt) ?_
                      intro w10 hm10 hB10
                      refine hK _ _ ?_
                      clear hK K
                      rw [rc_set _ _ hlt] at hB10
                      go_wp2_with fail
                      go_roundw
                      case rel =>
                        have s7 := hm7.size
                        have s9 := hm9.size
                        have s10 := hm10.size
                        have hlb : lb ≠ gb := fun h => by
                          have h1 := hlgb lb (by simp [blks])
                          omega
                        have hVk : ∀ x, x < a → x ≠ b → ∀ y ∈ blks (V x), y ∉ blks (.slice ao m cap) := fun x hx hxb y hy hy2 => hd x b hx hlt hxb y hy (by rw [Hv.out]; exact hy2)
                        refine ⟨b + 1, _, by omega, by go_num, ((hm5.ext hm7).then hm9 hLb).then hm10 (by simpa using .inr hgbV), by omega, Ow.mod hl9 hm10 (by simpa [blks] using hlb), fun x hx => RowOk.blk ?_ hm10 hBg9, hB10, fun x hx => ?_⟩
                        · refine (hr7 x hx).own hm9 hvb7 fun c hc => hkp _ _ _ hc ?_
                          by_cases hxb : x = b
                          · left
                            subst hxb
                            rw [← Hmj.out]
                            exact Nat.le_refl _
                          · exact .inr (hVk x hx hxb)
                        · by_cases hxb : x < b
                          · rw [updV_ne _ _ hxb]
                            refine ⟨RowPre.blk (RowPre.own ((hH5 x hxb).1.ext hm7) hm9 hvb7 fun c hc => hkp _ _ _ hc (.inr fun y hy hy2 => ?_)) hm10 hBg9, (hH5 x hxb).2⟩
                            rcases (hH5 x hxb).2 y hy with h | h
                            · exact hVk x (by omega) (by omega) y h hy2
                            · have h1 := (hr4 b hlt).lt y (by rw [Hv.out]; exact hy2)
                              omega
                          · obtain rfl : x = b := by omega
                            rw [updV_eq, ← Hmj.out]
                            refine ⟨RowPre.blk ⟨_, ho9, fun j hj hj2 => ?_⟩ hm10 hBg9, fun y hy => ?_⟩
                            · rw [List.getElem_append_left (by rw [Hddl.out]; exact hj2)]
                              exact (hvk7.own hm9 hvb7 ne_rows) j (by rw [Hddl.out]; exact hj2)
                            · rcases hb9 y hy with h | h
                              · left
                                rw [Hv.out]
                                exact h
                              · right
                                omega
                      case measure => simp [intOf]; omega
                · obtain rfl : b = a := by omega
                  obtain ⟨wr5, hwr5⟩ : ∃ x, x = wr := ⟨_, rfl⟩
                  subst hwr5
                  go_wp2_with fail
                  go_loopw [14] (fun i wr => ∃ k' : Nat, k' ≤ b ∧ i = .int .i64 k' ∧ Mod [] wr5 wr) (fun i _ => b - (intOf i).toNat)
                  case atStart => exact ⟨0, by omega, rfl, Mod.refl _ _⟩
                  case round =>
                    obtain ⟨x, hx, rfl, hx6⟩ := hrel
                    by_cases hlt : x < b
                    · have y1 : (x : Int) < b := by omega
                      have hnj := hn2 x hlt
                      obtain ⟨lb, rfl, hkl, hltl, hcw⟩ := row_atG hl5 hlt
                      have ho0 := hr5 x hlt
                      have hoH0 := (hH5 x hlt).1
                      obtain ⟨ao, cap, hv, hv1, hv2⟩ := ho0.form
                      obtain ⟨aoh, caph, hvh, hvh1, hvh2⟩ := hoH0.form
                      have hchw : ∀ w', Mod [] wr5 w' → w'.cell? ⟨gb, x, none⟩ = some (H5 x) := fun w' hm => (hB5.ext hm).cell' (rc_at H5 hlt)
                      rw [hv] at hcw ho0
                      simp only [hvh] at hchw
                      rw [hvh] at hoH0
                      clear hv hvh
                      obtain ⟨m, hmj⟩ : ∃ m, m = n x := ⟨_, rfl⟩
                      rw [← hmj] at hcw ho0 hoH0 hnj hv1 hvh1
                      simp only [← hmj] at hchw
                      clear hmj
                      have hc := hcw _ hx6
                      have hch := hchw _ hx6
                      go_wp2_with fail
                      clear hc hch
                      go_loopw [15] (fun i wr => ∃ i' : Nat, i' ≤ m ∧ i = .int .i64 i' ∧ Mod [] wr5 wr) (fun i _ => m - (intOf i).toNat)
                      case atStart => exact ⟨0, by omega, rfl, hx6⟩
                      case round =>
                        obtain ⟨i, hi, rfl, hx7⟩ := hrel
                        have hc7 := hcw _ hx7
                        have hch7 := hchw _ hx7
                        by_cases hil : i < m
                        · have z1 : (i : Int) < m := by omega
                          have z3 : (i : Int) < m + 64 := by omega
                          obtain ⟨bh, xh, rfl, hFh, hkh, hlh, hchx⟩ := hoH0.at hil (by omega)
                          obtain ⟨bv0, xv, rfl, hFv, hkv, hlv, hcvx⟩ := ho0.at hil
                          obtain ⟨aoxh, capxh, rfl, _, _⟩ := hFh.b.form
                          obtain ⟨aoxv, capxv, rfl, _, _⟩ := hFv.b.form
                          go_wp2_with fail
                          refine wp_region_T [⟨0, true, []⟩, ⟨1, true, []⟩, ⟨2, true, []⟩, ⟨3, true, []⟩, ⟨4, true, []⟩, ⟨5, true, []⟩, ⟨6, true, []⟩, ⟨7, true, []⟩, ⟨8, true, []⟩, ⟨9, false, [3, 6]⟩, ⟨10, false, []⟩, ⟨11, true, []⟩, ⟨12, true, []⟩, ⟨13, true, []⟩, ⟨14, true, []⟩, ⟨15, true, []⟩, ⟨16, true, []⟩, ⟨17, true, []⟩, ⟨18, true, []⟩, ⟨19, true, []⟩, ⟨20, true, []⟩, ⟨21, true, []⟩, ⟨22, false, [16, 19]⟩, ⟨23, false, []⟩, ⟨24, true, []⟩, ⟨25, true, []⟩] (by kernel_rfl) (by kernel_rfl) ?_
                          have hmD := Mod.drew [] wr
                          obtain ⟨xd, hxd⟩ : ∃ xd, xd = wr.drew := ⟨_, rfl⟩
                          rw [← hxd] at hmD ⊢
                          clear hxd hc7 hch7
                          have hxD := hx7.ext hmD
                          have hc7 := hcw _ hxD
                          have hcv7 := hcvx _ hxD
                          iterate 9 (refine wpT_n rfl rfl (fun K hK => ?_); go_wp2_with fail)
                          refine wpT_callh rfl rfl (fun K hK => ?_)
                          go_wp2_with (go_at_call 108; (with_reducible refine (markRow_any x i _ (by omega) (by omega) (by omega) (by omega)).mono ?_); rintro e w6 ⟨g6, cap6, rfl, hf6, hg6, hm6⟩)
                          refine ⟨agains_cons rfl (again_load rfl rfl (hm6.block lb (Nat.lt_of_lt_of_le hltl hxD.size) (by simp)) (kk hxD hltl hkl)) (agains_cons rfl (again_load rfl rfl (hm6.block bv0 (Nat.lt_of_lt_of_le hlv hxD.size) (by simp)) (kk hxD hlv hkv)) agains_nil), ?_⟩
                          refine wpT_call rfl rfl (fun K hK => ?_)
                          go_wp2_with (go_at_call 25; (with_reducible refine (same_yes _ _ _ _ _ ((hFv.ext hxD).ext hm6).b hf6.b rfl).mono ?_); rintro e w7 ⟨rfl, hm7⟩)
                          have hy7 := (hxD.ext hm6).ext hm7
                          have hch8 := hchw _ hy7
                          have hcx8 := hchx _ hy7
                          iterate 2 (refine wpT_n rfl rfl (fun K hK => ?_); go_wp2_with fail)
                          iterate 9 (refine wpT_gq (gi := 12) rfl rfl rfl rfl rfl (fun K hK => ?_); go_wp2_with fail)
                          refine wpT_gcallh (gi := 12) rfl rfl rfl rfl (fun K hK => ?_)
                          go_wp2_with (go_at_call 108; (with_reducible refine (markRow_any x i _ (by omega) (by omega) (by omega) (by omega)).mono ?_); rintro e w8 ⟨g8, cap8, rfl, hf8, hg8, hm8⟩)
                          refine ⟨agains_cons rfl (again_load rfl rfl (hm8.block gb (Nat.lt_of_lt_of_le hB5.lt hy7.size) (by simp)) (kk hy7 hB5.lt hB5.kinds)) (agains_cons rfl (again_load rfl rfl (hm8.block bh (Nat.lt_of_lt_of_le hlh hy7.size) (by simp)) (kk hy7 hlh hkh)) agains_nil), ?_⟩
                          refine wpT_gcall (gi := 12) rfl rfl rfl rfl (fun K hK => ?_)
                          go_wp2_with (go_at_call 25; (with_reducible refine (same_yes _ _ _ _ _ ((hFh.ext hy7).ext hm8).b hf8.b rfl).mono ?_); rintro e w9 ⟨rfl, hm9⟩)
                          refine wpT_gq (gi := 12) rfl rfl rfl rfl rfl (fun K hK => ?_)
                          go_wp2_with fail
                          refine wpT_n rfl rfl (fun K hK => ?_)
                          go_wp2_with fail
                          refine wpT_nil ?_
                          go_wp2_with fail
                          go_roundw
                          case rel => exact ⟨i + 1, by omega, by go_num, (hy7.ext hm8).ext hm9⟩
                          case measure => simp [intOf]; omega
                        · obtain rfl : i = m := by omega
                          go_wp2_with fail
                          go_roundw
                          case rel => exact ⟨x + 1, by omega, by go_num, hx7⟩
                          case measure => simp [intOf]; omega
                    · obtain rfl : x = b := by omega
                      go_wp2_with fail
                      go_ret
                      exact ⟨rfl, hm5.ext hx6⟩
end Go.Proofs.YtdmnogmhnhjdgaaGreat
