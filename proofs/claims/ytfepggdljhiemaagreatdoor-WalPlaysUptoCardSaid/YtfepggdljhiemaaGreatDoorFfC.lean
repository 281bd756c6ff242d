import Derived.Test.YtfepggdljhiemaaGreatDoorFfB
import Derived.Test.YtfepggdljhiemaaGreatDoorGFl
/-! Lists of frames that lie apart: the bag with two kinds, ApartFrames. -/
set_option linter.unusedVariables false
set_option linter.unusedSimpArgs false
set_option maxRecDepth 100000
namespace Go.Proofs.YtfepggdljhiemaaGreatDoor
open Go.RowKit Gw

def bagC (vb vf : Value) : List Value := [.slice none 0 0, .slice none 0 0, .slice none 0 0, .slice none 0 0, vb, .slice none 0 0, .slice none 0 0, .slice none 0 0, vf, .slice none 0 0, .slice none 0 0, .slice none 0 0, .slice none 0 0, .slice none 0 0, .slice none 0 0, .slice none 0 0, .slice none 0 0, .slice none 0 0, .slice none 0 0]
theorem ne_bag3 : 40 ≠ 122 := by decide
theorem ne_bag4 : 97 ≠ 122 := by decide
theorem ne_bf : 33 ≠ 40 := by decide
theorem ne_bf2 : 97 ≠ 33 := by decide
set_option maxHeartbeats 2000000 in
theorem fputB_any (b k : Nat) (vb vf : Value) (ao : Option Addr) (n cap : Nat) (xs : List Value) (w : World) (hB : Blk w b 122 (bagC vb vf)) (ho : Ow w 33 1 vb k xs) (hk : k ≤ 1048576) :
    Calls Tryz.prog 150 #[.pointer (some ⟨b, 0, none⟩), .slice ao n cap] w fun e w' => ∃ v', e = .returned (.tuple #[]) ∧ Blk w' b 122 (bagC v' vf) ∧ Ow w' 33 1 v' (k + 1) (xs ++ [.slice ao n cap]) ∧ Mod (b :: blks vb) w w' ∧ (∀ y ∈ blks v', y ∈ blks vb ∨ w.heap.size ≤ y) := by
  obtain ⟨aov, capv, rfl, _, _⟩ := ho.sl.form
  have c4 := hB.cell' (i := 4) rfl
  go_enter Tryz.func150, Tryz.ntmps150
  go_wp2_with (with_reducible refine st_bslice ?_)
  refine StopOp.go rfl fun K hK => ?_
  refine wp_bslice stRow [.slice ao n cap] rfl (by decide) (by rfl) (by simp [Value.cells]) ?_
  intro q w1 hq1 hq2 hm1 hB1
  simp only [put_some, List.set_cons_succ, List.set_cons_zero]
  refine hK _ _ ?_
  clear hK K
  have hs1 : Sl w1 1 (.slice (some ⟨q, 0, none⟩) 1 1) 1 [.slice ao n cap] := (Ow.of_blk (rest := []) hB1 (Nat.le_refl _) (by omega) rfl rfl : Ow w1 33 1 (.slice (some ⟨q, 0, none⟩) 1 1) 1 [.slice ao n cap]).sl
  have ho1 := ho.ext hm1
  go_wp2_with (with_reducible refine st_append ?_)
  refine StopOp.go rfl fun K hK => ?_
  refine wp_append_ow stRow (by rfl) (by rfl) ho1 hs1 (by simp [Value.oneCell']) (by omega) (by omega) ?_
  intro v2 w2 ho2 hm2 hb2
  simp only [put_some, List.set_cons_succ, List.set_cons_zero]
  refine hK _ _ ?_
  clear hK K
  have hB2 := (hB.ext hm1).mod hm2 (Ow.ne ho1 (hB.ext hm1) ne_bag)
  go_wp2_with (with_reducible refine st_store ?_)
  refine StopOp.go rfl fun K hK => ?_
  refine wp_store1 (by kernel_rfl) (by rfl) (by rfl) ho2.sl.one hB2 (by simp [bagC]) ?_
  intro w3 hm3 hB3
  refine hK _ _ ?_
  clear hK K
  go_wp2_with fail
  go_end0
  have s1 := hm1.size
  refine ⟨v2, rfl, hB3, Ow.mod ho2 hm3 (fun y hy hyb => ?_), ((hm1.weak (by simp)).trans (hm2.weak fun g hg => .inl (List.mem_cons_of_mem _ hg))).trans (hm3.weak fun g hg => .inl (by have : g = b := (by simpa using hg); simp [this])), fun y hy => (hb2 y hy).imp id fun h => by omega⟩
  have : y = b := by simpa using hyb
  exact Ow.ne ho2 hB2 ne_bag (this ▸ hy)
set_option maxHeartbeats 2000000 in
theorem fone_any (b k : Nat) (vb vf : Value) (x : Ce) (xs : List Value) (w : World) (hx : ∃ ao n cap, x.v = .slice ao n cap) (hB : Blk w b 122 (bagC vb vf)) (ho : Ow w 33 1 vb k xs) (hk : k ≤ 1048576) :
    Calls Tryz.prog 102 #[.pointer (some ⟨b, 0, none⟩), .agg #[.int .u64 (x.e : Nat), .int .u64 (x.s : Nat), x.v]] w fun e w' => ∃ v', e = .returned (.tuple #[]) ∧ Blk w' b 122 (bagC v' vf) ∧ Ow w' 33 1 v' (k + 1) (xs ++ [x.v]) ∧ Mod (b :: blks vb) w w' ∧ (∀ y ∈ blks v', y ∈ blks vb ∨ w.heap.size ≤ y) := by
  obtain ⟨e, s, v⟩ := x
  obtain ⟨ao, n, cap, hv⟩ := hx
  dsimp only at hv ⊢
  subst hv
  go_enter Tryz.func102, Tryz.ntmps102
  go_wp2_with (with_reducible refine st_box ?_)
  refine StopOp.go rfl fun K hK => ?_
  refine wp_box (v := .agg #[.int .u64 (e : Nat), .int .u64 (s : Nat), .slice ao n cap]) (by rfl) ?_
  intro h w1 hh1 hh2 hm1 hB1
  simp only [put_some, List.set_cons_succ, List.set_cons_zero]
  refine hK _ _ ?_
  clear hK K
  have hX : Blk w1 h 97 [.int .u64 (e : Nat), .int .u64 (s : Nat), .slice ao n cap] := hB1
  have c2 := hX.cell' (i := 2) rfl
  have hBb := hB.ext hm1
  have hob := ho.ext hm1
  clear hB1
  go_wp2_with (go_at_call 150; refine (fputB_any b k vb vf ao n cap xs _ hBb hob hk).mono ?_; rintro e w2 ⟨v2, rfl, hB2, ho2, hm2, hb2⟩)
  go_end0
  have s1 := hm1.size
  exact ⟨v2, rfl, hB2, ho2, (hm1.weak (by simp)).trans hm2, fun y hy => (hb2 y hy).imp id fun h => by omega⟩
theorem cv_cell {w : World} {ao : Option Addr} {n cap i : Nat} {l : List Ce} {x : Ce} (h : Of w (.slice ao n cap) l) (hi : l[i]? = some x) :
    ∃ g, ao = some ⟨g, 0, none⟩ ∧ w.cell? ⟨g, i * 3, none⟩ = some (.int .u64 (x.e : Nat)) ∧ w.cell? ⟨g, i * 3 + 1, none⟩ = some (.int .u64 (x.s : Nat)) ∧ w.cell? ⟨g, i * 3 + 2, none⟩ = some x.v := by
  rcases Ow.blk h with ⟨_, h1, _⟩ | ⟨g, c, r, h1, hB, _⟩
  · rw [List.eq_nil_of_length_eq_zero h1] at hi
    simp at hi
  · injection h1 with e1 e2 e3
    obtain ⟨c0, c1, c2⟩ := cv_at r l i _ hi
    exact ⟨g, e1, hB.cell' c0, hB.cell' c1, hB.cell' c2⟩
/-- what lies in the blocks of a list of frames is turned by no put -/
theorem Of.bag {w w' : World} {v vb vf : Value} {l : List Ce} {b k kf : Nat} {xs xf : List Value} (h : Of w v l) (hB : Blk w b 122 (bagC vb vf)) (ho : Ow w 33 1 vb k xs) (hf : Ow w 40 1 vf kf xf) (hm : Mod (b :: (blks vb ++ blks vf)) w w') : Of w' v l :=
  Ow.mod h hm fun y hy hh => by
    rcases List.mem_cons.1 hh with e | hh
    · exact Ow.ne h hB ne_bag4 (e ▸ hy)
    · rcases List.mem_append.1 hh with hh | hh
      · exact ow_apart h ho ne_bf2 y hy hh
      · exact ow_apart h hf ne_frows y hy hh
set_option maxHeartbeats 4000000 in
theorem fputF_any (b k kf : Nat) (vb vf : Value) (ao : Option Addr) (n cap : Nat) (L : List Ce) (xs xf : List Value) (w : World) (hB : Blk w b 122 (bagC vb vf)) (ho : Ow w 33 1 vb k xs) (hf : Ow w 40 1 vf kf xf)
    (hL : Of w (.slice ao n cap) L) (hn : L.length = n) (hLv : ∀ x ∈ L, ∃ ao n cap, x.v = .slice ao n cap) (hk : k + n ≤ 1048576) (hkf : kf ≤ 1048576) :
    Calls Tryz.prog 46 #[.pointer (some ⟨b, 0, none⟩), .slice ao n cap] w fun e w' => ∃ vb' vf', e = .returned (.tuple #[]) ∧ Blk w' b 122 (bagC vb' vf') ∧ Ow w' 33 1 vb' (k + n) (xs ++ L.map Ce.v) ∧ Ow w' 40 1 vf' (kf + 1) (xf ++ [.slice ao n cap]) ∧ Mod (b :: (blks vb ++ blks vf)) w w' ∧ (∀ y ∈ blks vb' ++ blks vf', y ∈ blks vb ++ blks vf ∨ w.heap.size ≤ y) := by
  obtain ⟨aov, capv, rfl, _, _⟩ := hf.sl.form
  obtain ⟨aob, capb, rfl, _, _⟩ := ho.sl.form
  have c8 := hB.cell' (i := 8) rfl
  go_enter Tryz.func46, Tryz.ntmps46
  go_wp2_with (with_reducible refine st_bslice ?_)
  refine StopOp.go rfl fun K hK => ?_
  refine wp_bslice stFrow [.slice ao n cap] rfl (by decide) (by rfl) (by simp [Value.cells]) ?_
  intro q w1 hq1 hq2 hm1 hB1
  simp only [put_some, List.set_cons_succ, List.set_cons_zero]
  refine hK _ _ ?_
  clear hK K
  have hs1 : Sl w1 1 (.slice (some ⟨q, 0, none⟩) 1 1) 1 [.slice ao n cap] := (Ow.of_blk (rest := []) hB1 (Nat.le_refl _) (by omega) rfl rfl : Ow w1 40 1 (.slice (some ⟨q, 0, none⟩) 1 1) 1 [.slice ao n cap]).sl
  have hf1 := hf.ext hm1
  have ho1 := ho.ext hm1
  go_wp2_with (with_reducible refine st_append ?_)
  refine StopOp.go rfl fun K hK => ?_
  refine wp_append_ow stFrow (by rfl) (by rfl) hf1 hs1 (by simp [Value.oneCell']) (by omega) (by omega) ?_
  intro v2 w2 hf2 hm2 hb2
  simp only [put_some, List.set_cons_succ, List.set_cons_zero]
  refine hK _ _ ?_
  clear hK K
  obtain ⟨ao2, cap2, rfl, _, _⟩ := hf2.sl.form
  have hB1' := hB.ext hm1
  have hB2 := hB1'.mod hm2 (Ow.ne hf1 hB1' ne_bag3)
  have ho2 := ho1.mod hm2 (fun y hy => ow_apart ho1 hf1 ne_bf y hy)
  have hL2 : Of w2 (.slice ao n cap) L := Ow.mod (hL.ext hm1) hm2 (fun y hy => ow_apart (hL.ext hm1) hf1 ne_frows y hy)
  go_wp2_with (with_reducible refine st_store ?_)
  refine StopOp.go rfl fun K hK => ?_
  refine wp_store1 (by kernel_rfl) (by rfl) (u := .slice ao2 (kf + 1) cap2) (by rfl) ⟨rfl, rfl⟩ hB2 (by simp [bagC]) ?_
  intro w3 hm3 hB3
  refine hK _ _ ?_
  clear hK K
  have hB3' : Blk w3 b 122 (bagC (.slice aob k capb) (.slice ao2 (kf + 1) cap2)) := hB3
  have ho3 := ho2.mod hm3 (fun y hy hh => Ow.ne ho2 hB2 ne_bag (by have e : y = b := (by simpa using hh); exact e ▸ hy))
  have hf3 := hf2.mod hm3 (fun y hy hh => Ow.ne hf2 hB2 ne_bag3 (by have e : y = b := (by simpa using hh); exact e ▸ hy))
  have hL3 : Of w3 (.slice ao n cap) L := Ow.mod hL2 hm3 (fun y hy hh => Ow.ne hL2 hB2 ne_bag4 (by have e : y = b := (by simpa using hh); exact e ▸ hy))
  have hM3 : Mod (b :: (blks (.slice aob k capb) ++ blks (.slice aov kf capv))) w w3 := ((hm1.weak (by simp)).then hm2 (fun g hg => .inl (by simp [hg]))).then hm3 (fun g hg => .inl (by simp at hg; simp [hg]))
  have hN3 : ∀ y ∈ blks (.slice ao2 (kf + 1) cap2), y ∈ blks (.slice aob k capb) ++ blks (.slice aov kf capv) ∨ w.heap.size ≤ y := fun y hy => (hb2 y hy).elim (fun h => .inl (List.mem_append_right _ h)) (fun h => .inr (by have := hm1.size; omega))
  clear hB hB1 hB1' hB2 hB3 ho ho1 ho2 hf hf1 hf2 hL hL2 hs1 hm1 hm2 hm3 hb2 c8
  obtain ⟨w3', hw3'⟩ : ∃ x, x = w3 := ⟨_, rfl⟩
  subst hw3'
  have HN := Lib.hid hn
  clear hn
  go_wp2_with fail
  go_loopw [4] (fun iv wr => ∃ (j : Nat) (v : Value), j ≤ n ∧ iv = .int .i64 j ∧ Blk wr b 122 (bagC v (.slice ao2 (kf + 1) cap2)) ∧ Ow wr 33 1 v (k + j) (xs ++ (L.take j).map Ce.v) ∧ Ow wr 40 1 (.slice ao2 (kf + 1) cap2) (kf + 1) (xf ++ [.slice ao n cap]) ∧ Of wr (.slice ao n cap) L ∧ Mod (b :: (blks (.slice aob k capb) ++ blks (.slice aov kf capv))) w wr ∧ (∀ y ∈ blks v, y ∈ blks (.slice aob k capb) ∨ w.heap.size ≤ y)) (fun iv _ => n - (intOf iv).toNat)
  case atStart => exact ⟨0, _, Nat.zero_le _, rfl, hB3', by simpa using ho3, hf3, hL3, hM3, fun y hy => .inl hy⟩
  case round =>
    obtain ⟨j, v, hj, rfl, hBr, hor, hfr, hLr, hMr, hvr⟩ := hrel
    by_cases hlt : j < n
    · have y1 : (j : Int) < n := by omega
      have hjL : j < L.length := by rw [HN.out]; exact hlt
      obtain ⟨g, rfl, c0, c1, c2⟩ := cv_cell hLr (List.getElem?_eq_getElem hjL)
      have hxv := hLv _ (List.getElem_mem hjL)
      have htk : (L.take (j + 1)).map Ce.v = (L.take j).map Ce.v ++ [L[j].v] := by rw [List.take_succ_eq_append_getElem hjL, List.map_append]; rfl
      obtain ⟨x, hx⟩ : ∃ x, x = L[j] := ⟨_, rfl⟩
      rw [← hx] at c0 c1 c2 hxv htk
      have HTK := Lib.hid htk
      have HLV := Lib.hid hLv
      clear htk hx hLv
      have ON := fun w h1 h2 => fone_any b (k + j) v (.slice ao2 (kf + 1) cap2) x (xs ++ (L.take j).map Ce.v) w hxv h1 h2 (by omega)
      obtain ⟨aox, nx, capx, hxv'⟩ := hxv
      rw [hxv'] at c2 ON
      have HXV := Lib.hid hxv'
      clear hxv'
      go_wp2_with (go_at_call 102; refine (ON _ hBr hor).mono ?_; rintro e w4 ⟨v4, rfl, hB4, ho4, hm4, hb4⟩)
      have hmw : Mod (b :: (blks v ++ blks (.slice ao2 (kf + 1) cap2))) wr w4 := hm4.weak (fun y hy => .inl (by rcases List.mem_cons.1 hy with e | e <;> simp [e]))
      have hf4 := hfr.mod hm4 (fun y hy hh => by
        rcases List.mem_cons.1 hh with e | hh
        · exact Ow.ne hfr hBr ne_bag3 (e ▸ hy)
        · exact ow_apart hor hfr ne_bf y hh hy)
      have hL4 := hLr.bag hBr hor hfr hmw
      have hM4 := hMr.then hm4 (fun y hy => by
        rcases List.mem_cons.1 hy with e | e
        · exact .inl (by simp [e])
        · exact (hvr y e).imp (fun h => by simp [h]) id)
      have sM := hMr.size
      go_roundw
      case rel =>
        refine ⟨j + 1, v4, by omega, by go_num, hB4, ?_, hf4, hL4, hM4, fun y hy => (hb4 y hy).elim (hvr y) (fun h => .inr (by omega))⟩
        rw [HTK.out, HXV.out, ← Nat.add_assoc, ← List.append_assoc]
        exact ho4
      case measure => simp [intOf]; omega
    · obtain rfl : j = n := by omega
      go_wp2_with fail
      go_end0
      refine ⟨v, _, rfl, hBr, ?_, hfr, hMr, fun y hy => ?_⟩
      · rw [List.take_of_length_le (by rw [HN.out]; exact Nat.le_refl _)] at hor
        exact hor
      · rcases List.mem_append.1 hy with h | h
        · exact (hvr y h).imp (fun h => List.mem_append_left _ h) id
        · exact hN3 y h
set_option maxRecDepth 1000000 in
set_option maxHeartbeats 8000000 in
theorem fbagApart_any (b : Nat) (V : Nat → Value) (c : Nat → List UInt8) (n : Nat → Nat) (N : Nat) (lv : Value) (VF : Nat → Value) (cF : Nat → List Ce) (nF : Nat → Nat) (NF : Nat) (lf : Value) (w0 : World) (hB : Blk w0 b 122 (bagC lv lf))
    (hl : Ow w0 33 1 lv N (rc V N)) (hr : RS w0 N V c) (hd : Dj N V) (hN : N ≤ 1048576) (hn : ∀ a, (c a).length = n a) (hn2 : ∀ a, a < N → n a ≤ 140737488355000)
    (hlF : Ow w0 40 1 lf NF (rc VF NF)) (hrF : RSf w0 NF VF cF) (hdF : Dj NF VF) (hNF : NF ≤ 1048576) (hnF : ∀ a, (cF a).length = nF a) (hn2F : ∀ a, a < NF → nF a ≤ 1048576) :
    Calls Tryz.prog 47 #[.pointer (some ⟨b, 0, none⟩)] w0 fun e w' => e = .returned (.bool true) ∧ Mod (LB V N ++ LB VF NF) w0 w' := by
  obtain ⟨lao, lcap, rfl, hlc, hlc2⟩ := hl.sl.form
  obtain ⟨laf, lcf, rfl, hlcF, hlc2F⟩ := hlF.sl.form
  have d0 := hB.cell' (i := 0) rfl
  have hM0 : Mod (LB V N ++ LB VF NF) w0 w0 := Mod.refl _ _
  have hE0 : Mod [] w0 w0 := Mod.refl _ _
  have hBn : b ∉ LB V N ++ LB VF NF := fun h => by
    rcases List.mem_append.1 h with h | h
    · obtain ⟨a, ha, hb⟩ := of_LB h
      exact Ow.ne (hr a ha) hB ne_bag2 hb
    · obtain ⟨a, ha, hb⟩ := of_LB h
      exact Ow.ne (hrF a ha) hB ne_bag4 hb
  have keepF : ∀ {x : World}, Mod (LB V N) w0 x → Ow x 40 1 (.slice laf NF lcf) NF (rc VF NF) ∧ RSf x NF VF cF := fun hm => ⟨hlF.mod hm (fun y hy hh => by
      obtain ⟨a, ha, hb⟩ := of_LB hh
      exact ow_apart hlF (hr a ha) (by decide) y hy hb), fun a ha => Ow.mod (hrF a ha) hm (fun y hy hh => by
      obtain ⟨a', ha', hb⟩ := of_LB hh
      exact ow_apart (hrF a ha) (hr a' ha') (by decide) y hy hb)⟩
  go_enter Tryz.func47, Tryz.ntmps47
  go_wp2_with (first
                | (go_at_call 103; refine (flatLimbs_nil _).mono ?_; rintro e w1 ⟨rfl, hx1⟩; have hE1 := hE0.ext hx1; have hM1 := hM0.ext hx1; have d1 := (hB.mod hM1 hBn).cell' (i := 1) rfl)
                | (go_at_call 104; refine (flatInts_nil _).mono ?_; rintro e w2 ⟨rfl, hx2⟩; have hE2 := hE1.ext hx2; have hM2 := hM1.ext hx2; have d2 := (hB.mod hM2 hBn).cell' (i := 2) rfl)
                | (go_at_call 105; refine (flatLongs_nil _).mono ?_; rintro e w3 ⟨rfl, hx3⟩; have hE3 := hE2.ext hx3; have hM3 := hM2.ext hx3; have d3 := (hB.mod hM3 hBn).cell' (i := 3) rfl)
                | (go_at_call 106; refine (flatTexts_nil _).mono ?_; rintro e w4 ⟨rfl, hx4⟩; have hE4 := hE3.ext hx4; have hM4 := hM3.ext hx4; have d4 := (hB.mod hM4 hBn).cell' (i := 4) rfl)
                | (go_at_call 107; refine (flatBytes_any V c n N _ _ (hl.ext hE4) (hr.ext hE4) hd hN hn hn2).mono ?_; rintro e w5 ⟨rfl, hx5⟩; have hM5 := hM4.trans (hx5.weak (fun y hy => .inl (List.mem_append_left _ hy))); have hE5 := ((hE4.weak (by simp) : Mod (LB V N) w0 w4).trans hx5); have d5 := (hB.mod hM5 hBn).cell' (i := 5) rfl)
                | (go_at_call 108; refine (flatReals_nil _).mono ?_; rintro e w6 ⟨rfl, hx6⟩; have hE6 := hE5.ext hx6; have hM6 := hM5.ext hx6; have d6 := (hB.mod hM6 hBn).cell' (i := 6) rfl)
                | (go_at_call 109; refine (flatFates_nil _).mono ?_; rintro e w7 ⟨rfl, hx7⟩; have hE7 := hE6.ext hx7; have hM7 := hM6.ext hx7; have d7 := (hB.mod hM7 hBn).cell' (i := 7) rfl)
                | (go_at_call 110; refine (flatSpans_nil _).mono ?_; rintro e w8 ⟨rfl, hx8⟩; have hE8 := hE7.ext hx8; have hM8 := hM7.ext hx8; have d8 := (hB.mod hM8 hBn).cell' (i := 8) rfl)
                | (go_at_call 111; refine (flatFrames_any VF cF nF NF _ _ (keepF hE8).1 (keepF hE8).2 hdF hNF hnF (fun a ha => by have := hn2F a ha; omega)).mono ?_; rintro e w9 ⟨rfl, hx9⟩; have hM9 := hM8.trans (hx9.weak (fun y hy => .inl (List.mem_append_right _ hy))); have d9 := (hB.mod hM9 hBn).cell' (i := 9) rfl)
                | (go_at_call 112; refine (flatCabins_nil _).mono ?_; rintro e w10 ⟨rfl, hx10⟩; have hM10 := hM9.ext hx10; have d10 := (hB.mod hM10 hBn).cell' (i := 10) rfl)
                | (go_at_call 113; refine (flatRecords_nil _).mono ?_; rintro e w11 ⟨rfl, hx11⟩; have hM11 := hM10.ext hx11; have d11 := (hB.mod hM11 hBn).cell' (i := 11) rfl)
                | (go_at_call 114; refine (flatBookings_nil _).mono ?_; rintro e w12 ⟨rfl, hx12⟩; have hM12 := hM11.ext hx12; have d12 := (hB.mod hM12 hBn).cell' (i := 12) rfl)
                | (go_at_call 115; refine (flatRequests_nil _).mono ?_; rintro e w13 ⟨rfl, hx13⟩; have hM13 := hM12.ext hx13; have d13 := (hB.mod hM13 hBn).cell' (i := 13) rfl)
                | (go_at_call 116; refine (flatReplies_nil _).mono ?_; rintro e w14 ⟨rfl, hx14⟩; have hM14 := hM13.ext hx14; have d14 := (hB.mod hM14 hBn).cell' (i := 14) rfl)
                | (go_at_call 117; refine (flatFares_nil _).mono ?_; rintro e w15 ⟨rfl, hx15⟩; have hM15 := hM14.ext hx15; have d15 := (hB.mod hM15 hBn).cell' (i := 15) rfl)
                | (go_at_call 118; refine (flatWaits_nil _).mono ?_; rintro e w16 ⟨rfl, hx16⟩; have hM16 := hM15.ext hx16; have d16 := (hB.mod hM16 hBn).cell' (i := 16) rfl)
                | (go_at_call 119; refine (flatLines_nil _).mono ?_; rintro e w17 ⟨rfl, hx17⟩; have hM17 := hM16.ext hx17; have d17 := (hB.mod hM17 hBn).cell' (i := 17) rfl)
                | (go_at_call 120; refine (flatTurns_nil _).mono ?_; rintro e w18 ⟨rfl, hx18⟩; have hM18 := hM17.ext hx18; have d18 := (hB.mod hM18 hBn).cell' (i := 18) rfl)
                | (go_at_call 121; refine (flatCommands_nil _).mono ?_; rintro e w19 ⟨rfl, hx19⟩; have hM19 := hM18.ext hx19))
  go_ret
  exact ⟨rfl, hM19⟩
/-- the frames of the first lists -/
def cat (c : Nat → List Ce) (k : Nat) : List Ce := (List.range k).flatMap c
theorem cat_succ (c : Nat → List Ce) (k : Nat) : cat c (k + 1) = cat c k ++ c k := by simp [cat, List.range_succ]
theorem cat_mono (c : Nat → List Ce) {j k : Nat} (h : j ≤ k) : (cat c j).length ≤ (cat c k).length := by
  induction k with
  | zero => obtain rfl : j = 0 := by omega
            exact Nat.le_refl _
  | succ k ih =>
    rw [cat_succ, List.length_append]
    by_cases h1 : j = k + 1
    · subst h1; rw [cat_succ, List.length_append]; exact Nat.le_refl _
    · have := ih (by omega); omega
set_option maxHeartbeats 4000000 in
theorem apartFrames_any (VF : Nat → Value) (cF : Nat → List Ce) (nF : Nat → Nat) (N : Nat) (lv : Value) (D : List (Value × List UInt8)) (base : Nat) (w : World) (hl : Sl w 1 lv N (rc VF N)) (hr : RSf w N VF cF) (hd : Dj N VF) (hn : ∀ a, (cF a).length = nF a)
    (hDm : D.map (·.1) = (cat cF N).map Ce.v) (hf : Fam w base D) (hD : D.length ≤ 1048576) (hDb : ∀ p ∈ D, p.2.length ≤ 140737488355000) (hN : N ≤ 1048576) :
    Calls Tryz.prog 15 #[lv] w fun e w' => e = .returned (.bool true) ∧ ∃ M, Mod M w w' ∧ ∀ y ∈ M, (∃ a, a < N ∧ y ∈ blks (VF a)) ∨ ∃ p ∈ D, y ∈ blks p.1 := by
  obtain ⟨lao, lcap, rfl, hlc, hlc2⟩ := hl.form
  have hDl : D.length = (cat cF N).length := by simpa using congrArg List.length hDm
  have hLv : ∀ x ∈ cat cF N, ∃ ao n cap, x.v = .slice ao n cap := fun x hx => by
    have h1 : x.v ∈ D.map (·.1) := by rw [hDm]; exact List.mem_map.2 ⟨x, hx, rfl⟩
    obtain ⟨p, hp, he⟩ := List.mem_map.1 h1
    obtain ⟨ao, cap, h, _⟩ := (hf.ob p hp).1.sl.form
    exact ⟨ao, _, cap, by rw [← he]; exact h⟩
  have hmem : ∀ a, a < N → ∀ x ∈ cF a, x ∈ cat cF N := fun a ha x hx => List.mem_flatMap.2 ⟨a, List.mem_range.2 ha, hx⟩
  have hcl : ∀ k, k < N → (cat cF k).length + nF k ≤ 1048576 := fun k hk => by
    have h1 := cat_mono cF (show k + 1 ≤ N from hk)
    rw [cat_succ, List.length_append, hn] at h1
    omega
  have hnFs : ∀ a, a < N → nF a ≤ 1048576 := fun a ha => by have := hcl a ha; omega
  go_enter Tryz.func15, Tryz.ntmps15
  go_wp2_with (with_reducible refine st_box ?_)
  refine StopOp.go rfl fun K hK => ?_
  refine wp_box (v := .agg #[.slice none 0 0, .slice none 0 0, .slice none 0 0, .slice none 0 0, .slice none 0 0, .slice none 0 0, .slice none 0 0, .slice none 0 0, .slice none 0 0, .slice none 0 0, .slice none 0 0, .slice none 0 0, .slice none 0 0, .slice none 0 0, .slice none 0 0, .slice none 0 0, .slice none 0 0, .slice none 0 0, .slice none 0 0]) (by rfl) ?_
  intro b w1 hb1 hb2 hm1 hB1
  simp only [put_some, List.set_cons_succ, List.set_cons_zero]
  refine hK _ _ ?_
  clear hK K
  have hB1' : Blk w1 b 122 (bagC (.slice none 0 0) (.slice none 0 0)) := hB1
  have HD := Lib.hid (And.intro hDm (And.intro hDl (And.intro hLv (And.intro hmem (And.intro hcl hnFs)))))
  clear hB1 hDm hDl hLv hmem hcl hnFs
  go_wp2_with fail
  go_loopw [4] (fun i wr => ∃ (k : Nat) (vb vf : Value), k ≤ N ∧ i = .int .i64 k ∧ Mod [] w wr ∧ Blk wr b 122 (bagC vb vf) ∧ Ow wr 33 1 vb (cat cF k).length ((cat cF k).map Ce.v) ∧ Ow wr 40 1 vf k (rc VF k) ∧ (∀ y ∈ blks vb ++ blks vf, w.heap.size ≤ y)) (fun i _ => N - (intOf i).toNat)
  case atStart => exact ⟨0, _, _, by omega, rfl, hm1, hB1', Ow.nil _ _ _, Ow.nil _ _ _, by simp [blks]⟩
  case round =>
    obtain ⟨k, vb, vf, hk, rfl, hm2, hB2, ho2, hf2, hy2⟩ := hrel
    by_cases hlt : k < N
    · have y1 : (k : Int) < N := by omega
      have hl2 := hl.ext hm2
      obtain ⟨lb, lo, lc, he, _, _, hcell⟩ := Sl.at hl2 (fun h => by have := congrArg List.length h; rw [rc_length] at this; simp at this; omega)
      injection he with he1 he2 he3
      subst he1 he3
      have hc := hcell k _ (rc_at VF hlt)
      have hrk := (hr k hlt).ext hm2
      obtain ⟨ao, cap, hv, hv1, hv2⟩ := hrk.n (hn k)
      rw [hv] at hc hrk
      have PF := fun w h1 h2 h3 h4 => fputF_any b (cat cF k).length k vb vf ao (nF k) cap (cF k) ((cat cF k).map Ce.v) (rc VF k) w h1 h2 h3 h4 (hn k) (fun x hx => HD.out.2.2.1 x (HD.out.2.2.2.1 k hlt x hx)) (HD.out.2.2.2.2.1 k hlt) (by omega)
      have Hv := Lib.hid hv
      clear hv hcell
      have hnk := hn k
      obtain ⟨m, hmj⟩ : ∃ m, m = nF k := ⟨_, rfl⟩
      rw [← hmj] at hc Hv hv1 PF hrk hnk
      obtain ⟨K, hK⟩ : ∃ x, x = (cat cF k).length := ⟨_, rfl⟩
      rw [← hK] at PF ho2
      have HK := Lib.hid (And.intro hK hnk)
      clear hmj hK hnk
      go_wp2_with (go_at_call 46; refine (PF _ hB2 ho2 hf2 hrk).mono ?_; rintro e w3 ⟨vb3, vf3, rfl, hB3, ho3, hf3, hm3, hy3⟩)
      go_roundw
      case rel =>
        have s2 := hm2.size
        refine ⟨k + 1, vb3, vf3, by omega, by go_num, hm2.fresh hm3 (fun y hy => (List.mem_cons.1 hy).elim (fun e => e ▸ hb1) (hy2 y)), hB3, ?_, by rw [rc_succ, Hv.out]; exact hf3, fun y hy => (hy3 y hy).elim (hy2 y) fun h => by omega⟩
        rw [cat_succ, List.length_append, List.map_append, ← HK.out.1, HK.out.2]
        exact ho3
      case measure => simp [intOf]; omega
    · obtain rfl : k = N := by omega
      obtain ⟨aov, capv, rfl, _, _⟩ := ho2.sl.form
      let d : Value × List UInt8 := (.slice none 0 0, [])
      have hf' := hf.ext hm2
      have AP := fun w h1 h2 h3 h4 h5 => fbagApart_any b (fun a => (D.getD a d).1) (fun a => (D.getD a d).2) (fun a => (D.getD a d).2.length) D.length (.slice aov (cat cF k).length capv) VF cF nF k vf w h1 h2 h3 (hf.dj' d) hD (fun _ => rfl) (fun a ha => hDb _ (getD_mem d D a ha)) h4 h5 hd hN hn (fun a ha => HD.out.2.2.2.2.2 a ha)
      have ho2' : Ow wr 33 1 (.slice aov (cat cF k).length capv) D.length (rc (fun a => (D.getD a d).1) D.length) := by rw [rc_getD, HD.out.1, HD.out.2.1]; exact ho2
      have hrB : RS wr D.length (fun a => (D.getD a d).1) (fun a => (D.getD a d).2) := fun a ha => (hf'.ob _ (getD_mem d D a ha)).1
      have hrF := hr.ext hm2
      go_wp2_with (go_at_call 47; refine (AP _ hB2 ho2' hrB hf2 hrF).mono ?_; rintro e w4 ⟨rfl, hm4⟩)
      go_ret
      refine ⟨rfl, _, (hm2.weak (by simp)).trans hm4, fun y hy => ?_⟩
      rcases List.mem_append.1 hy with hy | hy
      · obtain ⟨a, ha, hb⟩ := of_LB hy
        exact .inr ⟨_, getD_mem d D a ha, hb⟩
      · obtain ⟨a, ha, hb⟩ := of_LB hy
        exact .inl ⟨a, ha, hb⟩
end Go.Proofs.YtfepggdljhiemaaGreatDoor
