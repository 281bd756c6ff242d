import Derived.Test.YtfepggdljhiemaaGreatDoorGDs
import Derived.Test.YtfepggdljhiemaaGreatDoorGFl
import Derived.Test.YtfepggdljhiemaaGreatDoorRegT
/-! Small laws about what lies apart. -/
set_option linter.unusedVariables false
set_option linter.unusedSimpArgs false
set_option maxRecDepth 100000
namespace Go.Proofs.YtfepggdljhiemaaGreatDoor
open Go.RowKit Gw

section
variable {w0 w w' : World} {v : Value} {l : List UInt8} {L L' : List Nat}
/-- bytes that lie apart from a disk keep through what turns it, and lie apart from it still -/
theorem Ob.far (h : Ob w v l) (hd : ∀ b ∈ blks v, b ∉ L) (hm : Mod L w w') (hL : ∀ k ∈ L', k ∈ L ∨ w.heap.size ≤ k) : Ob w' v l ∧ ∀ b ∈ blks v, b ∉ L' :=
  ⟨Ow.mod h hm hd, fun b hb hh => (hL b hh).elim (hd b hb) fun h2 => by have := Ow.lt h b hb; omega⟩
end
theorem Blk.far {w w' : World} {L L' : List Nat} {g : Nat} {t : TypeId} {cs : List Value} (h : Blk w g t cs) (hd : g ∉ L) (hm : Mod L w w') (hL : ∀ k ∈ L', k ∈ L ∨ w.heap.size ≤ k) : Blk w' g t cs ∧ g ∉ L' :=
  ⟨h.mod hm hd, fun hh => (hL g hh).elim hd fun h2 => by have := h.lt; omega⟩
theorem cell_u8 {w : World} {g : Nat} {l : List UInt8} {rest : List Value} (h : Blk w g 5 (bv l ++ rest)) {i : Nat} (hi : i < l.length) : w.cell? ⟨g, i, none⟩ = some (.int .u8 (l[i].toNat : Nat)) := by
  refine h.cell' ?_
  rw [List.getElem?_append_left (by rw [bv_length]; omega)]
  simp [bv, hi]
end Go.Proofs.YtfepggdljhiemaaGreatDoor

/-! Disks: Image, Copy. -/
namespace Go.Proofs.YtfepggdljhiemaaGreatDoor
open Go.RowKit Gw

/-- rows of bytes of one's own: the list and what lies in it, all of it younger than base -/
structure RowsO (w : World) (base : Nat) (v : Value) (L : List (Value × List UInt8)) : Prop where
  ow : Ow w 33 1 v L.length (L.map (·.1))
  fam : Fam w base L
  nw : ∀ k ∈ blks v, base ≤ k
section
variable {w w0 w1 w2 w3 w' : World} {base : Nat} {v v' u : Value} {L : List (Value × List UInt8)} {l : List UInt8} {M : List Nat}
theorem RowsO.nil (w : World) (base : Nat) : RowsO w base (.slice none 0 0) [] := ⟨Ow.nil _ _ _, Fam.nil _ _, by simp [blks]⟩
theorem RowsO.mod (h : RowsO w base v L) (hm : Mod M w w') (hM : ∀ k ∈ M, k < base) : RowsO w' base v L :=
  ⟨h.ow.mod hm fun b hb hM' => by have := h.nw b hb; have := hM b hM'; omega, h.fam.mod hm fun p hp b hb hM' => by have := (h.fam.ob p hp).2 b hb; have := hM b hM'; omega, h.nw⟩
theorem RowsO.ext (h : RowsO w base v L) (hm : Mod [] w w') : RowsO w' base v L := h.mod hm (by simp)
/-- one more row -/
theorem RowsO.snoc (h : RowsO w base v L) (hb : base ≤ w.heap.size) (hm1 : Mod [] w w1) (ho : Ob w1 u l) (hn : New w u) (hm2 : Mod [] w1 w2) (hO : Ow w3 33 1 v' (L.length + 1) (L.map (·.1) ++ [u])) (hm3 : Mod (blks v) w2 w3)
    (hb3 : ∀ k ∈ blks v', k ∈ blks v ∨ w2.heap.size ≤ k) : RowsO w3 base v' (L ++ [(u, l)]) := by
  have h2 := h.ext (hm1.ext hm2)
  refine ⟨by simpa using hO, ?_, fun k hk => (hb3 k hk).elim (h.nw k) fun h => Nat.le_trans hb (Nat.le_trans (hm1.ext hm2).size h)⟩
  have hf : Fam w2 base (L ++ (u, l) :: []) := Fam.ins (by simpa using h.fam) hb (hm1.ext hm2) (ho.ext hm2) hn
  exact hf.atOw h2.ow hm3 (by decide)
theorem RowsO.row (h : RowsO w base v L) {i : Nat} (hi : i < L.length) : Ob w L[i].1 L[i].2 := (h.fam.ob _ (List.getElem_mem hi)).1
end
theorem sl_at {w : World} {ao : Option Addr} {n cap : Nat} {xs : List Value} (h : Sl w 1 (.slice ao n cap) n xs) {i : Nat} (hi : i < xs.length) : ∃ b o, ao = some ⟨b, o, none⟩ ∧ w.cell? ⟨b, o + i, none⟩ = some xs[i] := by
  obtain ⟨b, o, c, hv, _, _, hcell⟩ := h.at (by intro h0; rw [h0] at hi; simp at hi)
  injection hv with e1 e2 e3
  exact ⟨b, o, e1, hcell i _ (List.getElem?_eq_getElem hi)⟩
/-- what Image tells -/
def ImgPost (w : World) (rows : List (List UInt8)) (e : Ending) (w' : World) : Prop := ∃ v dq, e = .returned v ∧ RowsO w' w.heap.size v dq ∧ dq.map (·.2) = rows ∧ Mod [] w w'
theorem dimage_no (v : Value) (w : World) (h : NoDk w v) : Calls Tryz.prog 74 #[v] w fun e w' => e = .returned (.slice none 0 0) ∧ w = w' := by
  have T := fun w h => there_no v w h
  go_enter Tryz.func74, Tryz.ntmps74
  go_wp2_with (go_at_call 132; (with_reducible refine (T _ h).mono ?_); rintro e w1 ⟨rfl, rfl⟩)
  go_ret
  exact ⟨rfl, rfl⟩
set_option maxHeartbeats 2000000 in
theorem dimage_any (p : Nat) (m : Dm) (L : List Nat) (w : World) (h : Dk w p m L) (hok : m.ok) : Calls Tryz.prog 74 #[.pointer (some ⟨p, 0, none⟩)] w (ImgPost w m.dur) := by
  have hs1 := hok.s1
  have hs2 := hok.s2
  have hn2 := hok.n2
  have hd := hok.d
  obtain ⟨D, R, M, dp, rp, hB, hm, hL⟩ := h
  have e1 : m.dur = dp.map (·.2) := by rw [hm]; rfl
  rw [e1] at hd hn2 ⊢
  have hdl : ∀ (j : Nat) (hj : j < dp.length), dp[j].2.length = m.sz := fun j hj => hd _ (List.mem_map.2 ⟨dp[j], List.getElem_mem hj, rfl⟩)
  rw [List.length_map] at hn2
  obtain ⟨aoD, capD, rfl, hcD, _⟩ := hB.dur.sl.form
  have T := fun w h => there_yes p m.sz (.slice aoD dp.length capD) R M w h hs1
  obtain ⟨sz, hsz⟩ : ∃ sz, sz = m.sz := ⟨_, rfl⟩
  rw [← hsz] at hB T hdl hs1 hs2
  clear hm hL hok hd e1 hsz
  have c1 := hB.blk.cell' (i := 1) rfl
  go_enter Tryz.func74, Tryz.ntmps74
  go_wp2_with (go_at_call 132; (with_reducible refine (T _ hB.blk).mono ?_); rintro e w1 ⟨rfl, rfl⟩)
  go_loopw [3, 14] (fun o i wr => ∃ (k : Nat) (dq : List (Value × List UInt8)), k ≤ dp.length ∧ i = .int .i64 k ∧ RowsO wr w.heap.size o dq ∧ dq.map (·.2) = (dp.map (·.2)).take k ∧ Mod [] w wr) (fun _ i _ => dp.length - (intOf i).toNat)
  case atStart => exact ⟨0, [], by omega, rfl, RowsO.nil _ _, by simp, Mod.refl _ _⟩
  case round =>
    obtain ⟨k, dq, hk, rfl, hR, hdq, hmr⟩ := hrel
    by_cases hlt : k < dp.length
    · have y0 : (k : Int) < dp.length := by omega
      have hBr := hB.ext hmr
      obtain ⟨b0, o0, rfl, hc⟩ := sl_at hBr.dur.sl (i := k) (by simpa using hlt)
      have hv := (hBr.fam.ob dp[k] (List.mem_append_left _ (List.getElem_mem hlt))).1
      rw [List.getElem_map] at hc
      have hql : dq.length = k := by have := congrArg List.length hdq; simp at this; omega
      have hl1 := hdl k hlt
      have hsn : (dp.map (·.2)).take (k + 1) = (dp.map (·.2)).take k ++ [dp[k].2] := by
        rw [List.take_succ_eq_append_getElem (by simpa using hlt), List.getElem_map]
      rw [← hdq] at hsn
      obtain ⟨v, hvv⟩ : ∃ v, v = dp[k].1 := ⟨_, rfl⟩
      obtain ⟨l, hll⟩ : ∃ v, v = dp[k].2 := ⟨_, rfl⟩
      rw [← hvv] at hv hc
      rw [← hll] at hv hl1 hsn
      obtain ⟨aov, capv, rfl, _, _⟩ := Bs.form (Ob.bs hv)
      obtain ⟨aoo, capo, rfl, hco, _⟩ := hR.ow.sl.form
      have HSN := Lib.hid hsn
      have HQL := Lib.hid hql
      have hl2 : l.length ≤ 4096 := by omega
      have hl3 : 0 < l.length := by omega
      clear hvv hll hBr hdq hsn hql hl1
      go_wp2_with (first
                    | (with_reducible refine st_bslice ?_)
                    | (go_at_call 133; refine (bclone_any l _ _ (Ob.bs hv) (by omega) (by omega)).mono ?_; rintro e w2 ⟨v2, rfl, ho2, hn2, hm2⟩))
      refine StopOp.go rfl fun K hK => ?_
      refine wp_bslice stDR [v2] rfl (by decide) (by rfl) (by obtain ⟨_, _, rfl, _⟩ := Bs.form (Ob.bs ho2); simp [Value.cells]) ?_
      intro g w3 hg1 hg2 hm3 hB3
      simp only [put_some, List.set_cons_succ, List.set_cons_zero]
      refine hK _ _ ?_
      clear hK K
      have hS3 : Sl w3 1 (.slice (some ⟨g, 0, none⟩) 1 1) 1 [v2] := by
        obtain ⟨_, _, rfl, _⟩ := Bs.form (Ob.bs ho2)
        exact (Ow.of_blk (rest := []) hB3 (Nat.le_refl _) (by omega) rfl rfl : Ow w3 33 1 (.slice (some ⟨g, 0, none⟩) 1 1) 1 [_]).sl
      go_wp2_with (with_reducible refine st_append ?_)
      refine StopOp.go rfl fun K hK => ?_
      refine wp_append_ow stDR (by rfl) (by rfl) (hR.ext (hm2.ext hm3)).ow hS3 (by obtain ⟨_, _, rfl, _⟩ := Bs.form (Ob.bs ho2); simp [Value.oneCell']) (by have := HQL.out; omega) (by have := HQL.out; omega) ?_
      intro v4 w4 ho4 hm4 hb4
      simp only [put_some, List.set_cons_succ, List.set_cons_zero]
      refine hK _ _ ?_
      clear hK K
      have hR4 := hR.snoc hmr.size hm2 ho2 hn2 hm3 ho4 hm4 hb4
      have hM4 : Mod [] w w4 := (hmr.ext (hm2.ext hm3)).fresh hm4 hR.nw
      obtain ⟨ao4, cap4, rfl, _, _⟩ := ho4.sl.form
      go_wp2_with fail
      go_roundw
      case rel => exact ⟨k + 1, _, by omega, by go_num, hR4, by rw [List.map_append, HSN.out]; rfl, hM4⟩
      case measure => simp [intOf]; omega
    · obtain rfl : k = dp.length := by omega
      rw [List.take_of_length_le (by simp)] at hdq
      obtain ⟨aoo, capo, rfl, hco, _⟩ := hR.ow.sl.form
      go_wp2_with fail
      go_ret
      exact ⟨_, dq, rfl, hR, hdq, hmr⟩
end Go.Proofs.YtfepggdljhiemaaGreatDoor

/-! Disks: Copy. -/
namespace Go.Proofs.YtfepggdljhiemaaGreatDoor
open Go.RowKit Gw

/-- a disk of which the first writes wait -/
def Dm.upto (m : Dm) (j : Nat) : Dm := ⟨m.sz, m.dur, m.row.take j⟩
theorem Dm.ok.upto {m : Dm} (h : m.ok) (j : Nat) : (m.upto j).ok := ⟨h.s1, h.s2, h.n1, h.n2, h.d, fun x hx => h.r x (List.mem_of_mem_take hx)⟩
theorem Fam.low {w : World} {base : Nat} {L : List (Value × List UInt8)} (h : Fam w base L) : Fam w 0 L := ⟨fun p hp => ⟨(h.ob p hp).1, fun _ _ => Nat.zero_le _⟩, h.dj⟩
theorem RowsO.weak {w : World} {b c : Nat} {v : Value} {L : List (Value × List UInt8)} (h : RowsO w b v L) (hc : c ≤ b) : RowsO w c v L := ⟨h.ow, ⟨fun p hp => ⟨(h.fam.ob p hp).1, fun k hk => Nat.le_trans hc ((h.fam.ob p hp).2 k hk)⟩, h.fam.dj⟩, fun k hk => Nat.le_trans hc (h.nw k hk)⟩
end Go.Proofs.YtfepggdljhiemaaGreatDoor

/-! The kit's functions over rows and fates: SameRows, LentFates, KeptFates, CopyFates. -/
namespace Go.Proofs.YtfepggdljhiemaaGreatDoor
open Go.RowKit Gw

/-- rows of bytes, readable -/
def RowsR (w : World) (v : Value) (L : List (Value × List UInt8)) : Prop := Sl w 1 v L.length (L.map (·.1)) ∧ ∀ p ∈ L, Bs w p.1 p.2
theorem RowsR.ext {w w' : World} {v : Value} {L : List (Value × List UInt8)} (h : RowsR w v L) (hm : Mod [] w w') : RowsR w' v L := ⟨Sl.ext h.1 hm, fun p hp => (h.2 p hp).ext hm⟩
theorem RowsR.nil (w : World) : RowsR w (.slice none 0 0) [] := ⟨Sl.nil w 1, fun _ h => nomatch h⟩
theorem sl_at' {w : World} {ao : Option Addr} {n cap : Nat} {xs : List Value} (h : Sl w 1 (.slice ao n cap) n xs) {i : Nat} (hi : i < xs.length) : ∃ b o, ao = some ⟨b, o, none⟩ ∧ w.cell? ⟨b, o + i, none⟩ = some xs[i] := by
  obtain ⟨b, o, c, hv, _, _, hcell⟩ := h.at (by intro h0; rw [h0] at hi; simp at hi)
  injection hv with e1 e2 e3
  exact ⟨b, o, e1, hcell i _ (List.getElem?_eq_getElem hi)⟩
set_option maxHeartbeats 2000000 in
theorem sameRows_yes (A B : List (Value × List UInt8)) (va vb : Value) (w : World) (ha : RowsR w va A) (hb : RowsR w vb B) (h : A.map (·.2) = B.map (·.2)) :
    Calls Tryz.prog 22 #[va, vb] w fun e w' => e = .returned (.bool true) ∧ Mod [] w w' := by
  obtain ⟨aoa, capa, rfl, _, _⟩ := ha.1.form
  obtain ⟨aob, capb, rfl, _, _⟩ := hb.1.form
  have hl : A.length = B.length := by simpa using congrArg List.length h
  have hA1 := ha.1.small
  obtain ⟨n, hn⟩ : ∃ n, n = B.length := ⟨_, rfl⟩
  have hnA : A.length = n := by omega
  rw [hnA]
  rw [show B.length = n from hn.symm]
  have HA := Lib.hid hnA
  have HB := Lib.hid hn
  have H := Lib.hid h
  clear hl hn hnA h hA1
  go_enter Tryz.func22, Tryz.ntmps22
  go_wp2_with fail
  go_loopw [5] (fun i wr => ∃ j : Nat, j ≤ n ∧ i = .int .i64 j ∧ Mod [] w wr) (fun i _ => n - (intOf i).toNat)
  case atStart => exact ⟨0, Nat.zero_le _, rfl, Mod.refl _ _⟩
  case round =>
    obtain ⟨j, hj, rfl, hmr⟩ := hrel
    by_cases hlt : j < n
    · have jA : j < A.length := by have := HA.out; omega
      have jB : j < B.length := by have := HB.out; omega
      have haA := ha.ext hmr
      have hbB := hb.ext hmr
      have hsa := haA.1
      have hsb := hbB.1
      rw [HA.out] at hsa
      rw [← HB.out] at hsb
      obtain ⟨b1, o1, rfl, c1⟩ := sl_at' hsa (i := j) (by simpa using jA)
      obtain ⟨b2, o2, rfl, c2⟩ := sl_at' hsb (i := j) (by simpa using jB)
      rw [List.getElem_map] at c1 c2
      have e1 := haA.2 A[j] (List.getElem_mem jA)
      have e2 := hbB.2 B[j] (List.getElem_mem jB)
      have hjj : A[j].2 = B[j].2 := by
        have h1 : (A.map (·.2))[j]? = (B.map (·.2))[j]? := by rw [H.out]
        rw [List.getElem?_map, List.getElem?_map, List.getElem?_eq_getElem jA, List.getElem?_eq_getElem jB] at h1
        exact Option.some.inj h1
      rw [← hjj] at e2
      obtain ⟨l, hl⟩ : ∃ l, l = A[j].2 := ⟨_, rfl⟩
      rw [← hl] at e1 e2
      obtain ⟨u1, hu1⟩ : ∃ u, u = A[j].1 := ⟨_, rfl⟩
      obtain ⟨u2, hu2⟩ : ∃ u, u = B[j].1 := ⟨_, rfl⟩
      rw [← hu1] at e1 c1
      rw [← hu2] at e2 c2
      obtain ⟨ao1, cap1, rfl, _, _⟩ := e1.form
      obtain ⟨ao2, cap2, rfl, _, _⟩ := e2.form
      have y0 : (j : Int) < n := by omega
      have hmr' := hmr.ext (Mod.drew [] _)
      have e1' := e1.ext (Mod.drew [] _)
      have e2' := e2.ext (Mod.drew [] _)
      clear hu1 hu2 hl hjj haA hbB hsa hsb e1 e2
      go_wp2_with fail
      refine wp_region_T [⟨0, true, []⟩, ⟨1, true, []⟩, ⟨2, true, []⟩, ⟨3, true, []⟩, ⟨4, true, []⟩, ⟨5, true, []⟩, ⟨6, true, []⟩, ⟨7, true, []⟩, ⟨8, false, []⟩, ⟨9, true, []⟩] (by kernel_rfl) (by kernel_rfl) ?_
      iterate 8 (refine wpT_n rfl rfl (fun K hK => ?_); go_wp2_with fail)
      refine wpT_call rfl rfl (fun K hK => ?_)
      go_wp2_with (go_at_call 44; refine (same_yes _ _ _ _ _ e1' e2' rfl).mono ?_; rintro e w3 ⟨rfl, hm3⟩)
      refine wpT_n rfl rfl (fun K hK => ?_)
      go_wp2_with fail
      refine wpT_nil ?_
      go_wp2_with fail
      go_roundw
      case rel => exact ⟨j + 1, by omega, by go_num, hmr'.ext hm3⟩
      case measure => simp [intOf]; omega
    · obtain rfl : j = n := by omega
      go_wp2_with fail
      go_ret
      exact ⟨rfl, hmr⟩

/-! ### Fates -/
def fmark (k : Int) (i : Nat) : Int × Int := (0, 1000003 * (k + 7) + i)
def fmarks (k : Int) (n : Nat) : List (Int × Int) := (List.range n).map (fmark k)
theorem fmarks_length (k : Int) (n : Nat) : (fmarks k n).length = n := by simp [fmarks]
theorem fcells_append (A B : List (Int × Int)) : fcells (A ++ B) = fcells A ++ fcells B := by unfold fcells; rw [List.flatMap_append]
theorem fcells_one (A : List (Int × Int)) : ∀ u ∈ fcells A, u.oneCell' = true := by
  intro u hu
  unfold fcells at hu
  obtain ⟨x, _, hx⟩ := List.mem_flatMap.1 hu
  simp at hx
  rcases hx with rfl | rfl <;> rfl
/-- lent fates -/
def LtF (w : World) (g cap : Nat) (F : List (Int × Int)) : Prop :=
  ∃ rest, Blk w g 186 (fcells (F ++ fmarks 1 12) ++ rest) ∧ (fcells (F ++ fmarks 1 12) ++ rest).length = cap * 2 ∧ cap ≤ 9223372036854775807
theorem LtF.mod {w w' : World} {g cap : Nat} {F : List (Int × Int)} {L : List Nat} (h : LtF w g cap F) (hm : Mod L w w') (hg : g ∉ L) : LtF w' g cap F := by
  obtain ⟨r, h1, h2, h3⟩ := h
  exact ⟨r, h1.mod hm hg, h2, h3⟩
theorem LtF.ext {w w' : World} {g cap : Nat} {F : List (Int × Int)} (h : LtF w g cap F) (hm : Mod [] w w') : LtF w' g cap F := h.mod hm (by simp)
theorem LtF.cap {w : World} {g cap : Nat} {F : List (Int × Int)} (h : LtF w g cap F) : F.length + 12 ≤ cap ∧ cap ≤ 9223372036854775807 := by
  obtain ⟨r, h1, h2, h3⟩ := h
  rw [List.length_append, fcells_len, List.length_append, fmarks_length] at h2
  omega
theorem LtF.fs {w : World} {g cap : Nat} {F : List (Int × Int)} (h : LtF w g cap F) : Fs w (.slice (some ⟨g, 0, none⟩) F.length cap) F := by
  have hc := h.cap
  obtain ⟨r, h1, h2, h3⟩ := h
  rw [fcells_append, List.append_assoc] at h1
  exact (Ow.of_blk (n := F.length) (cap := cap) h1 (by omega) h3 (by rw [← List.append_assoc, ← fcells_append]; exact h2) (by rw [fcells_len])).sl
theorem LtF.cell {w : World} {g cap : Nat} {F : List (Int × Int)} (h : LtF w g cap F) {i : Nat} (hi : i < F.length + 12) : ∃ x : Int × Int, x = (F ++ fmarks 1 12)[i]'(by rw [List.length_append, fmarks_length]; exact hi) ∧ w.cell? ⟨g, i * 2, none⟩ = some (.int .i64 x.1) ∧ w.cell? ⟨g, i * 2 + 1, none⟩ = some (.int .i64 x.2) := by
  obtain ⟨r, h1, h2, h3⟩ := h
  have hl : i < (F ++ fmarks 1 12).length := by rw [List.length_append, fmarks_length]; exact hi
  have hc := fcells_at _ i hl
  have hlen := fcells_len (F ++ fmarks 1 12)
  exact ⟨_, rfl, h1.cell' (by rw [List.getElem?_append_left (by omega)]; exact hc.1), h1.cell' (by rw [List.getElem?_append_left (by omega)]; exact hc.2)⟩
theorem copyF_any (F : List (Int × Int)) (v : Value) (w : World) (hv : Fs w v F) (hl : F.length ≤ 8000000000) :
    Calls Tryz.prog 57 #[v] w fun e w' => ∃ v', e = .returned v' ∧ Fs w' v' F ∧ (∀ k ∈ blks v', w.heap.size ≤ k) ∧ Mod [] w w' := by
  go_enter Tryz.func57, Tryz.ntmps57
  go_wp2_with (with_reducible refine st_append ?_)
  refine StopOp.go rfl fun K hK => ?_
  refine wp_append_ow stF (by rfl) (by rfl) (Ow.nil w _ 2) hv (fcells_one F) (by omega) (by omega) ?_
  intro v' w2 ho2 hm2 hn2
  simp only [put_some, List.set_cons_succ, List.set_cons_zero]
  refine hK _ _ ?_
  clear hK K
  go_wp2_with fail
  go_ret
  exact ⟨_, rfl, by simpa [Fs] using ho2.sl, fun k hk => (hn2 k hk).elim (fun h => by simp [blks] at h) id, hm2⟩
end Go.Proofs.YtfepggdljhiemaaGreatDoor
