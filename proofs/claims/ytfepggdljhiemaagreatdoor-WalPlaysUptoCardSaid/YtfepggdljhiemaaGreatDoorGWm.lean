import Derived.Test.YtfepggdljhiemaaGreatDoorGWs
import Derived.Test.YtfepggdljhiemaaGreatDoorGRh
import Derived.Test.YtfepggdljhiemaaGreatDoorRegT
import Derived.Test.YtfepggdljhiemaaGreatDoorRegB
import Derived.Test.YtfepggdljhiemaaGreatDoorGWl
import Derived.Test.YtfepggdljhiemaaGreatDoorSwG
/-! Wal: the document's log in memory. -/
set_option linter.unusedVariables false
set_option linter.unusedSimpArgs false
set_option maxRecDepth 100000
namespace Go.Proofs.YtfepggdljhiemaaGreatDoor
open Go.RowKit Gw

/-- the frames of such bodies -/
def fvs (e : Nat) : Nat → List (List UInt8) → List Fv
  | _, [] => []
  | s, l :: ls => ⟨e, s + 1, l⟩ :: fvs e (s + 1) ls
theorem fvs_len (e : Nat) : ∀ (s : Nat) (ls : List (List UInt8)), (fvs e s ls).length = ls.length
  | _, [] => rfl
  | s, l :: ls => by unfold fvs; rw [List.length_cons, fvs_len e (s + 1) ls, List.length_cons]
theorem fvs_cat (e : Nat) : ∀ (s : Nat) (ls : List (List UInt8)), (fvs e s ls).flatMap Fv.b = catB e s ls
  | _, [] => rfl
  | s, l :: ls => by
    unfold fvs catB
    rw [List.flatMap_cons, fvs_cat e (s + 1) ls]
    rfl
theorem fvs_snoc (e : Nat) (l : List UInt8) : ∀ (s : Nat) (ls : List (List UInt8)), fvs e s (ls ++ [l]) = fvs e s ls ++ [⟨e, s + ls.length + 1, l⟩]
  | s, [] => rfl
  | s, x :: ls => by
    rw [List.cons_append]
    unfold fvs
    rw [fvs_snoc e l (s + 1) ls, List.cons_append, List.length_cons, show s + 1 + ls.length + 1 = s + (ls.length + 1) + 1 by omega]
theorem fvs_take (e : Nat) : ∀ (k s : Nat) (ls : List (List UInt8)), (fvs e s ls).take k = fvs e s (ls.take k)
  | 0, _, _ => by simp [fvs]
  | k + 1, s, [] => by simp [fvs]
  | k + 1, s, x :: ls => by
    rw [List.take_succ_cons]
    unfold fvs
    rw [List.take_succ_cons, fvs_take e k]
theorem fvs_drop (e : Nat) : ∀ (k s : Nat) (ls : List (List UInt8)), k ≤ ls.length → (fvs e s ls).drop k = fvs e (s + k) (ls.drop k)
  | 0, _, _, _ => rfl
  | k + 1, s, [], h => absurd h (by simp)
  | k + 1, s, x :: ls, h => by
    rw [List.drop_succ_cons]
    show (fvs e (s + 1) ls).drop k = _
    rw [fvs_drop e k (s + 1) ls (by simpa using h), show s + (k + 1) = s + 1 + k by omega]
theorem fvs_mem {e : Nat} : ∀ {s : Nat} {ls : List (List UInt8)} {x : Fv}, x ∈ fvs e s ls → x.e = e ∧ x.s ≤ s + ls.length ∧ x.l ∈ ls
  | s, [], x, h => nomatch h
  | s, l :: ls, x, h => by
    rcases List.mem_cons.1 (show x ∈ ⟨e, s + 1, l⟩ :: fvs e (s + 1) ls from h) with rfl | h
    · exact ⟨rfl, by simp, by simp⟩
    · obtain ⟨h1, h2, h3⟩ := fvs_mem h
      exact ⟨h1, by rw [List.length_cons]; omega, by simp [h3]⟩
def dcC (h e f : Nat) (fv : Value) (dn : Nat) : List Value := [.pointer (some ⟨h, 0, none⟩), .int .u64 (e : Nat), .int .u64 (f : Nat), fv, .int .i64 (dn : Nat)]
/-- the document's log in memory -/
structure Dg (w : World) (m h base : Nat) (fv : Value) (K : List Fi) (e f dn : Nat) : Prop where
  b : Blk w m 69 (dcC h e f fv dn)
  fr : Frs w base fv K
theorem Dg.ext {w w' : World} {m h base : Nat} {fv : Value} {K : List Fi} {e f dn : Nat} (H : Dg w m h base fv K e f dn) (hm : Mod [] w w') : Dg w' m h base fv K e f dn := ⟨H.b.ext hm, H.fr.ext hm⟩
/-- all blocks of a list of frames -/
def dB (fv : Value) (K : List Fi) : List Nat := blks fv ++ K.flatMap fun x => blks x.v
theorem dB_v {fv : Value} {K : List Fi} {k : Nat} (h : k ∈ blks fv) : k ∈ dB fv K := List.mem_append_left _ h
theorem dB_x {fv : Value} {K : List Fi} {x : Fi} {k : Nat} (hx : x ∈ K) (h : k ∈ blks x.v) : k ∈ dB fv K := List.mem_append_right _ (List.mem_flatMap.2 ⟨x, hx, h⟩)
theorem Frs.modB {w w' : World} {base : Nat} {fv : Value} {K : List Fi} {G : List Nat} (h : Frs w base fv K) (hm : Mod G w w') (hG : ∀ k ∈ dB fv K, k ∉ G) : Frs w' base fv K := h.mod hm (fun k hk => hG k (dB_v hk)) (fun x hx k hk => hG k (dB_x hx hk))
theorem Frs.ltB {w : World} {base : Nat} {fv : Value} {K : List Fi} (h : Frs w base fv K) : ∀ k ∈ dB fv K, k < w.heap.size ∧ base ≤ k := fun k hk => by
  rcases List.mem_append.1 hk with hk | hk
  · exact ⟨Ow.lt h.ow k hk, h.nw k hk⟩
  · obtain ⟨x, hx, hk⟩ := List.mem_flatMap.1 hk
    exact ⟨Ow.lt (h.ob hx).1 k hk, (h.ob hx).2 k hk⟩
theorem dnew_any10 (h e f : Nat) (w : World) : Calls Tryz.prog 17 #[.pointer (some ⟨h, 0, none⟩), .int .u64 (e : Nat), .int .u64 (f : Nat)] w fun en w' => ∃ m, en = .returned (.pointer (some ⟨m, 0, none⟩)) ∧ Dg w' m h w.heap.size (.slice none 0 0) [] e f 0 ∧ w.heap.size ≤ m ∧ Mod [] w w' := by
  go_enter Tryz.func17, Tryz.ntmps17
  go_wp2_with (with_reducible refine st_box ?_)
  refine StopOp.go rfl fun K hK => ?_
  refine wp_box (v := .agg #[.pointer (some ⟨h, 0, none⟩), .int .u64 (e : Nat), .int .u64 (f : Nat), .slice none 0 0, .int .i64 0]) (by rfl) ?_
  intro m w2 hl1 hl2 hm2 hB2
  simp only [put_some, List.set_cons_succ, List.set_cons_zero]
  refine hK _ _ ?_
  clear hK K
  go_wp2_with fail
  go_ret
  exact ⟨m, rfl, ⟨hB2, Frs.nil _ _⟩, hl1, hm2⟩
theorem dLast_any (m h base : Nat) (fv : Value) (K : List Fi) (e f dn : Nat) (w : World) (H : Dg w m h base fv K e f dn) (hf : f + K.length < 18446744073709551616) (hK : K.length ≤ 1048576) : Calls Tryz.prog 60 #[.pointer (some ⟨m, 0, none⟩)] w fun en w' => en = .returned (.int .u64 (f + K.length : Nat)) ∧ Mod [] w w' := by
  obtain ⟨ao, cap, rfl, hc1, hc2⟩ := Sl.form H.fr.ow.sl
  have hb := H.b
  unfold dcC at hb
  have y1 : (f : Int) + (K.length : Int) ≤ 18446744073709551615 := by omega
  have y2 : (K.length : Int) ≤ 1048576 := by omega
  clear H hf
  go_enter Tryz.func60, Tryz.ntmps60
  go_wp2_with fail
  refine wp_region_T [⟨0, true, []⟩, ⟨1, true, []⟩, ⟨2, true, []⟩, ⟨3, true, []⟩, ⟨4, true, []⟩, ⟨5, true, []⟩, ⟨6, true, []⟩, ⟨7, true, []⟩, ⟨8, true, []⟩, ⟨9, true, []⟩, ⟨10, true, []⟩, ⟨11, true, []⟩] (by kernel_rfl) (by kernel_rfl) ?_
  have hm0 := Mod.drew [] w
  obtain ⟨x, hx⟩ : ∃ x, x = w.drew := ⟨_, rfl⟩
  rw [← hx] at hm0 ⊢
  clear hx
  have hb0 := hb.ext hm0
  have c2 := Blk.cell' hb0 (i := 2) rfl
  have c3 := Blk.cell' hb0 (i := 3) rfl
  iterate 12 (refine wpT_n rfl rfl (fun K hK => ?_); go_wp2_with fail)
  refine wpT_nil ?_
  go_wp2_with fail
  go_ret
  exact ⟨by simp, hm0⟩
theorem dDurable_any (m h base : Nat) (fv : Value) (K : List Fi) (e f dn : Nat) (w : World) (H : Dg w m h base fv K e f dn) (hf : f + dn < 18446744073709551616) (hK : dn ≤ 1048576) : Calls Tryz.prog 61 #[.pointer (some ⟨m, 0, none⟩)] w fun en w' => en = .returned (.int .u64 (f + dn : Nat)) ∧ Mod [] w w' := by
  have hb := H.b
  unfold dcC at hb
  have y1 : (f : Int) + (dn : Int) ≤ 18446744073709551615 := by omega
  have y2 : (dn : Int) ≤ 1048576 := by omega
  clear H hf
  go_enter Tryz.func61, Tryz.ntmps61
  go_wp2_with fail
  refine wp_region_T [⟨0, true, []⟩, ⟨1, true, []⟩, ⟨2, true, []⟩, ⟨3, true, []⟩, ⟨4, true, []⟩, ⟨5, true, []⟩, ⟨6, true, []⟩, ⟨7, true, []⟩, ⟨8, true, []⟩, ⟨9, true, []⟩, ⟨10, true, []⟩] (by kernel_rfl) (by kernel_rfl) ?_
  have hm0 := Mod.drew [] w
  obtain ⟨x, hx⟩ : ∃ x, x = w.drew := ⟨_, rfl⟩
  rw [← hx] at hm0 ⊢
  clear hx
  have hb0 := hb.ext hm0
  have c2 := Blk.cell' hb0 (i := 2) rfl
  have c4 := Blk.cell' hb0 (i := 4) rfl
  iterate 11 (refine wpT_n rfl rfl (fun K hK => ?_); go_wp2_with fail)
  refine wpT_nil ?_
  go_wp2_with fail
  go_ret
  exact ⟨by simp, hm0⟩
set_option maxHeartbeats 4000000 in
/-- the bytes of frames -/
theorem dbytes_any (K : List Fi) (fv : Value) (w : World) (hF : FrsR w fv K) (hok : ∀ x ∈ K, x.f.l.length ≤ 32 ∧ x.f.e < 18446744073709551616 ∧ x.f.s < 18446744073709551616) (hK : K.length ≤ 100000) :
    Calls Tryz.prog 124 #[fv] w fun en w' => ∃ v, en = .returned v ∧ Ob w' v ((K.map Fi.f).flatMap Fv.b) ∧ New w v ∧ Mod [] w w' := by
  obtain ⟨ao, cap, rfl, hc1, hc2⟩ := Sl.form hF.1
  go_enter Tryz.func124, Tryz.ntmps124
  go_wp2_with fail
  go_loopw [3, 4, 5, 6] (fun ov iw _ _ wr => ∃ j : Nat, iw = .int .i64 j ∧ j ≤ K.length ∧ Ob wr ov (((K.take j).map Fi.f).flatMap Fv.b) ∧ (∀ k ∈ blks ov, w.heap.size ≤ k) ∧ Mod [] w wr ∧ (((K.take j).map Fi.f).flatMap Fv.b).length ≤ j * 54) (fun _ iw _ _ _ => K.length - (intOf iw).toNat)
  case atStart => exact ⟨0, rfl, Nat.zero_le _, Ob.nil _, by simp [blks], Mod.refl _ _, Nat.le_refl _⟩
  case round =>
    obtain ⟨j, rfl, hj, ho, hn, hmr, hl⟩ := hrel
    by_cases hlt : j < K.length
    · obtain ⟨b1, o1, rfl, c0, c1, c2, e1⟩ := (hF.ext hmr).at3 hlt
      obtain ⟨h32, hel, hsl⟩ := hok _ (List.getElem_mem hlt)
      have hK1 : K.take (j + 1) = K.take j ++ [K[j]] := (List.take_append_getElem hlt).symm
      obtain ⟨x, hx⟩ : ∃ x, x = K[j] := ⟨_, rfl⟩
      rw [← hx] at c0 c1 c2 e1 h32 hel hsl hK1
      obtain ⟨xp, xv, ⟨xe, xs, xl⟩⟩ := x
      dsimp only at c0 c1 c2 e1 h32 hel hsl
      have PU := fun w hv => rfput_any xe xs xl xv w hv hel hsl
      unfold PutF at PU
      rw [if_neg (by omega), if_neg (by omega)] at PU
      have hfl := frame_len xe xs xl
      have hgo : ((K.take (j + 1)).map Fi.f).flatMap Fv.b = ((K.take j).map Fi.f).flatMap Fv.b ++ frame xe xs xl := by
        rw [hK1, List.map_append, List.flatMap_append]
        simp [Fv.b]
      obtain ⟨acc, hacc⟩ : ∃ a, a = ((K.take j).map Fi.f).flatMap Fv.b := ⟨_, rfl⟩
      rw [← hacc] at ho hl hgo
      obtain ⟨fr, hfr⟩ : ∃ a, a = frame xe xs xl := ⟨_, rfl⟩
      rw [← hfr] at PU hfl hgo
      have y0 : (j : Int) < K.length := by omega
      have HG := Lib.hid hgo
      clear hacc hfr hgo hx hK1
      go_wp2_with (first
                    | (with_reducible refine st_append ?_)
                    | (go_at_call 172; (with_reducible refine (PU _ e1).mono ?_); rintro e w3 ⟨v3, rfl, ho3, hn3, hm3⟩))
      have hob : Ow w3 5 1 _ acc.length (bv acc) := Ow.ext ho hm3
      have hos : Sl w3 1 v3 fr.length (bv fr) := ho3.bs
      refine StopOp.go rfl fun K hK => ?_
      refine wp_append_kp stB (by rfl) (by rfl) hob hos (bv_one _) (by omega) (by omega) (by omega) ?_
      intro v4 w4 ho4 hm4 hn4 hkp
      simp only [put_some, List.set_cons_succ, List.set_cons_zero]
      refine hK _ _ ?_
      clear hK K
      go_wp2_with fail
      go_roundw
      case rel =>
        refine ⟨j + 1, by go_num, by omega, ?_, fun k hk => (hn4 k hk).elim (hn k) (fun h => by have := hmr.size; have := hm3.size; omega), (hmr.ext hm3).fresh hm4 (fun k hk => hn k hk), by rw [HG.out, List.length_append]; omega⟩
        rw [HG.out]
        show Ow w4 5 1 _ (acc ++ fr).length (bv (acc ++ fr))
        rw [List.length_append, bv_append]
        exact ho4
      case measure => simp [intOf]; omega
    · obtain rfl : j = K.length := by omega
      rw [List.take_length] at ho
      go_wp2_with fail
      go_ret
      exact ⟨_, rfl, ho, hn, hmr⟩
end Go.Proofs.YtfepggdljhiemaaGreatDoor

/-! Wal: the document's log: Used, Room, Fits, Reset, Scan. -/
namespace Go.Proofs.YtfepggdljhiemaaGreatDoor
open Go.RowKit Gw

/-- the document's log, told by the bodies since its last reset: dn of them are durable -/
structure Dq (w : World) (m h base : Nat) (fv : Value) (K : List Fi) (e f dn : Nat) (ls : List (List UInt8)) : Prop where
  g : Dg w m h base fv K e f dn
  kf : K.map Fi.f = fvs e f ls
  l32 : ∀ x ∈ ls, x.length ≤ 32
  el : e < 18446744073709551616
  fl : f + ls.length < 18446744073709551616
  nl : ls.length ≤ 10000
  dl : dn ≤ ls.length
section
variable {w w' : World} {m h base : Nat} {fv : Value} {K : List Fi} {e f dn : Nat} {ls : List (List UInt8)}
theorem Dq.len (H : Dq w m h base fv K e f dn ls) : K.length = ls.length := by
  have := congrArg List.length H.kf
  rw [List.length_map, fvs_len] at this
  exact this
theorem Dq.ok (H : Dq w m h base fv K e f dn ls) : ∀ x ∈ K, x.f.l.length ≤ 32 ∧ x.f.e < 18446744073709551616 ∧ x.f.s < 18446744073709551616 := fun x hx => by
  have h1 : x.f ∈ fvs e f ls := by rw [← H.kf]; exact List.mem_map.2 ⟨x, hx, rfl⟩
  obtain ⟨a1, a2, a3⟩ := fvs_mem h1
  exact ⟨H.l32 _ a3, by rw [a1]; exact H.el, by have := H.fl; omega⟩
theorem Dq.ext (H : Dq w m h base fv K e f dn ls) (hm : Mod [] w w') : Dq w' m h base fv K e f dn ls := ⟨H.g.ext hm, H.kf, H.l32, H.el, H.fl, H.nl, H.dl⟩
end
theorem dLastQ (m h base : Nat) (fv : Value) (K : List Fi) (e f dn : Nat) (ls : List (List UInt8)) (w : World) (H : Dq w m h base fv K e f dn ls) : Calls Tryz.prog 60 #[.pointer (some ⟨m, 0, none⟩)] w fun en w' => en = .returned (.int .u64 (f + ls.length : Nat)) ∧ Mod [] w w' := by
  have := dLast_any m h base fv K e f dn w H.g (by have := H.len; have := H.fl; omega) (by have := H.len; have := H.nl; omega)
  rw [H.len] at this
  exact this
theorem dUsed_any (m h base : Nat) (fv : Value) (K : List Fi) (e f dn : Nat) (ls : List (List UInt8)) (w : World) (H : Dq w m h base fv K e f dn ls) : Calls Tryz.prog 62 #[.pointer (some ⟨m, 0, none⟩)] w fun en w' => en = .returned (.int .i64 ((catB e f ls).length : Nat)) ∧ Mod [] w w' := by
  have BY := fun w hF => dbytes_any K fv w hF H.ok (by have := H.len; have := H.nl; omega)
  rw [H.kf, fvs_cat] at BY
  have hb := H.g.b
  unfold dcC at hb
  have hF := H.g.fr.r
  obtain ⟨N, hN⟩ : ∃ N, N = (catB e f ls).length := ⟨_, rfl⟩
  rw [← hN]
  have HN := Lib.hid hN
  clear hN H
  have c3 := Blk.cell' hb (i := 3) rfl
  go_enter Tryz.func62, Tryz.ntmps62
  go_wp2_with (go_at_call 124; (with_reducible refine (BY _ hF).mono ?_); rintro e w3 ⟨v3, rfl, ho3, _, hm3⟩; obtain ⟨ao3, cap3, rfl, _, _⟩ := Ob.nxR (n := N) ho3 HN.out.symm)
  go_ret
  exact ⟨rfl, hm3⟩
theorem dRoom_any (m h base P Q c : Nat) (u : Pv) (M : List Nat) (fv : Value) (K : List Fi) (e f dn : Nat) (ls : List (List UInt8)) (w : World) (H : Dq w m h base fv K e f dn ls) (hR : Rgr w h P 1 c) (hE : Pr w P Q u M) (hz : u.m.sz = 64) (hc : c ≤ 1000) (hn : (catB e f ls).length ≤ 1000000) : Calls Tryz.prog 64 #[.pointer (some ⟨m, 0, none⟩)] w fun en w' => en = .returned (.int .i64 (((c * 64 : Nat) : Int) - ((catB e f ls).length : Nat))) ∧ Mod [] w w' := by
  have BY := fun w hR hE => hBytes_any h P Q 1 c 64 u M w hR hE hz (by omega)
  have US := fun w H => dUsed_any m h base fv K e f dn ls w H
  have hb := H.g.b
  unfold dcC at hb
  have c0 := Blk.cell' hb (i := 0) rfl
  obtain ⟨N, hN⟩ : ∃ N, N = c * 64 := ⟨_, rfl⟩
  obtain ⟨U, hU⟩ : ∃ U, U = (catB e f ls).length := ⟨_, rfl⟩
  have hNs : N ≤ 64000 := by omega
  rw [← hN] at BY ⊢
  rw [← hU] at US hn ⊢
  clear hN hU
  go_enter Tryz.func64, Tryz.ntmps64
  go_wp2_with (first
                | (go_at_call 126; (with_reducible refine (BY _ hR hE).mono ?_); rintro e w1 ⟨rfl, hm1⟩; have H1 := H.ext hm1)
                | (go_at_call 62; (with_reducible refine (US _ H1).mono ?_); rintro e w2 ⟨rfl, hm2⟩))
  go_ret
  exact ⟨rfl, hm1.ext hm2⟩
def dfit (T U N : Nat) (n : Int) : Bool := decide ((0 ≤ n ∧ n ≤ 32) ∧ T ≠ 18446744073709551615 ∧ 22 + n ≤ (N : Int) - (U : Nat))
set_option maxHeartbeats 2000000 in
theorem dFits_any (m h base P Q c : Nat) (u : Pv) (M : List Nat) (fv : Value) (K : List Fi) (e f dn : Nat) (ls : List (List UInt8)) (n : Int) (w : World) (wn : i64 n) (H : Dq w m h base fv K e f dn ls) (hR : Rgr w h P 1 c) (hE : Pr w P Q u M) (hz : u.m.sz = 64) (hc : c ≤ 1000) (hn : (catB e f ls).length ≤ 1000000) : Calls Tryz.prog 54 #[.pointer (some ⟨m, 0, none⟩), .int .i64 n] w fun en w' => en = .returned (.bool (dfit (f + ls.length) (catB e f ls).length (c * 64) n)) ∧ Mod [] w w' := by
  have RO := fun w H hR hE => dRoom_any m h base P Q c u M fv K e f dn ls w H hR hE hz hc hn
  have LA := fun w H => dLastQ m h base fv K e f dn ls w H
  obtain ⟨x1, x2⟩ := wn
  have hfl := H.fl
  obtain ⟨N, hN⟩ : ∃ N, N = c * 64 := ⟨_, rfl⟩
  obtain ⟨U, hU⟩ : ∃ U, U = (catB e f ls).length := ⟨_, rfl⟩
  obtain ⟨T, hT⟩ : ∃ T, T = f + ls.length := ⟨_, rfl⟩
  rw [← hT, ← hU, ← hN]
  rw [← hU, ← hN] at RO
  rw [← hT] at LA
  clear hN hU hT hn
  by_cases g1 : 0 ≤ n
  · have e1 : decide (0 ≤ n) = true := decide_eq_true g1
    by_cases g2 : n ≤ 32
    · have e2 : decide (n ≤ 32) = true := decide_eq_true g2
      by_cases g3 : T = 18446744073709551615
      · have hf : dfit T U N n = false := decide_eq_false (fun h => h.2.1 g3)
        rw [hf]
        have e3 : decide ((T : Int) = 18446744073709551615) = true := decide_eq_true (by omega)
        subst g3
        rw [show ((18446744073709551615 : Nat) : Int) = 18446744073709551615 from rfl] at LA
        go_enter Tryz.func54, Tryz.ntmps54
        go_wp2_with (go_at_call 60; (with_reducible refine (LA _ H).mono ?_); rintro e w1 ⟨rfl, hm1⟩)
        go_ret
        exact ⟨rfl, hm1⟩
      · have hf : dfit T U N n = decide (22 + n ≤ (N : Int) - (U : Nat)) := by
          unfold dfit
          rw [decide_eq_decide]
          exact ⟨fun h => h.2.2, fun h => ⟨⟨g1, g2⟩, g3, h⟩⟩
        rw [hf]
        have e3 : ((T : Int) != 18446744073709551615) = true := by rw [bne_iff_ne]; omega
        clear hf
        go_enter Tryz.func54, Tryz.ntmps54
        go_wp2_with (first
                      | (go_at_call 60; (with_reducible refine (LA _ H).mono ?_); rintro e w1 ⟨rfl, hm1⟩; have H1 := H.ext hm1; have R1 := Rgr.ext hR hm1; have E1 := hE.ext hm1)
                      | (go_at_call 64; (with_reducible refine (RO _ H1 R1 E1).mono ?_); rintro e w2 ⟨rfl, hm2⟩))
        go_ret
        exact ⟨rfl, hm1.ext hm2⟩
    · have hf : dfit T U N n = false := decide_eq_false (fun h => g2 h.1.2)
      rw [hf]
      have e2 : decide (n ≤ 32) = false := decide_eq_false g2
      go_enter Tryz.func54, Tryz.ntmps54
      go_wp2_with fail
      go_ret
      exact ⟨rfl, Mod.refl _ _⟩
  · have hf : dfit T U N n = false := decide_eq_false (fun h => g1 h.1.1)
    rw [hf]
    have e2 : decide (0 ≤ n) = false := decide_eq_false g1
    go_enter Tryz.func54, Tryz.ntmps54
    go_wp2_with fail
    go_ret
    exact ⟨rfl, Mod.refl _ _⟩
theorem dReset_any (m h base : Nat) (fv : Value) (K : List Fi) (e f dn : Nat) (ls : List (List UInt8)) (e' : Nat) (w : World) (H : Dq w m h base fv K e f dn ls) (he : e' < 18446744073709551616) : Calls Tryz.prog 52 #[.pointer (some ⟨m, 0, none⟩), .int .u64 (e' : Nat)] w fun en w' => en = .returned (.tuple #[]) ∧ Dq w' m h base (.slice none 0 0) [] e' (f + ls.length) 0 [] ∧ Mod [m] w w' := by
  have LA := fun w H => dLastQ m h base fv K e f dn ls w H
  have hfl := H.fl
  obtain ⟨T, hT⟩ : ∃ T, T = f + ls.length := ⟨_, rfl⟩
  rw [← hT] at LA hfl ⊢
  clear hT
  go_enter Tryz.func52, Tryz.ntmps52
  go_wp2_with (first
                | (with_reducible refine st_store ?_)
                | (go_at_call 60; (with_reducible refine (LA _ H).mono ?_); rintro e w1 ⟨rfl, hm1⟩; have hb1 := (H.ext hm1).g.b; unfold dcC at hb1))
  refine StopOp.go rfl fun K hK => ?_
  refine wp_store1 (by kernel_rfl) (by rfl) (u := .int .u64 (T : Nat)) (by rfl) ⟨rfl, rfl⟩ hb1 (by simp) ?_
  intro w2 hm2 hB2
  refine hK _ _ ?_
  clear hK K
  go_wp2_with (with_reducible refine st_store ?_)
  refine StopOp.go rfl fun K hK => ?_
  refine wp_store1 (by kernel_rfl) (by rfl) (u := .slice none 0 0) (by rfl) ⟨rfl, rfl⟩ hB2 (by simp) ?_
  intro w3 hm3 hB3
  refine hK _ _ ?_
  clear hK K
  go_wp2_with (with_reducible refine st_store ?_)
  refine StopOp.go rfl fun K hK => ?_
  refine wp_store1 (by kernel_rfl) (by rfl) (u := .int .i64 0) (by rfl) ⟨rfl, rfl⟩ hB3 (by simp) ?_
  intro w4 hm4 hB4
  refine hK _ _ ?_
  clear hK K
  go_wp2_with (with_reducible refine st_store ?_)
  refine StopOp.go rfl fun K hK => ?_
  refine wp_store1 (by kernel_rfl) (by rfl) (u := .int .u64 (e' : Nat)) (by rfl) ⟨rfl, rfl⟩ hB4 (by simp) ?_
  intro w5 hm5 hB5
  refine hK _ _ ?_
  clear hK K
  go_wp2_with fail
  go_end0
  exact ⟨rfl, ⟨⟨hB5, Frs.nil _ _⟩, rfl, (fun x hx => nomatch hx), he, hfl, Nat.zero_le _, Nat.le_refl _⟩, ((((hm1.weak (by simp)).trans hm2).trans hm3).trans hm4).trans hm5⟩
theorem rscan_any (b : List UInt8) (e s : Nat) (v : Value) (w : World) (hb : Bs w v b) (hl : b.length ≤ 1099511627776) (hs : s < 18446744073709551616) (he : e < 18446744073709551616) : Calls Tryz.prog 136 #[v, .int .u64 (e : Nat), .int .u64 (s : Nat)] w (ScanP b e s w) := by
  have RW := fun w hb => row_any b e s v w hb hl hs he
  unfold RowP at RW
  unfold ScanP
  obtain ⟨EN, hEN⟩ : ∃ n, n = endF (rowS b e s 0) 0 := ⟨_, rfl⟩
  rw [← hEN] at RW ⊢
  clear hEN
  go_enter Tryz.func136, Tryz.ntmps136
  go_wp2_with (go_at_call 175; (with_reducible refine (RW _ hb).mono ?_); rintro e w1 ⟨v1, pv, L, rfl, hL, hF, _, _, hm1⟩)
  refine bodyPost_ret (v := .tuple #[v1, .int .i64 (EN : Nat)]) (by simp [results, Tryz.results136, go_sem]) rfl ?_
  exact ⟨v1, L, rfl, hL, hF, hm1⟩
/-- what the document's Scan tells -/
def DScP (w : World) (P Q : Nat) (M : List Nat) (R : Pv × Int × List UInt8) (e s : Nat) (en : Ending) (w' : World) : Prop :=
  Pr w' P Q R.1 M ∧ Mod [P] w w' ∧ ((R.2.1 ≠ 0 ∧ en = .returned (.tuple #[.slice none 0 0, .int .i64 0, .int .i64 R.2.1])) ∨
    (R.2.1 = 0 ∧ ∃ v K, en = .returned (.tuple #[v, .int .i64 (endF (rowS R.2.2 e s 0) 0 : Nat), .int .i64 0]) ∧ K.map Fi.d = rowS R.2.2 e s 0 ∧ Frs w' w.heap.size v K))
set_option maxHeartbeats 4000000 in
theorem dscan_any (h P Q c e s : Nat) (u : Pv) (M : List Nat) (w : World) (hR : Rgr w h P 1 c) (hE : Pr w P Q u M) (hz : u.m.sz = 64) (hd : 1 + c ≤ u.m.dur.length) (hn : u.n ≤ 500000) (hc : c ≤ 1000) (he : e < 18446744073709551616) (hs : s < 18446744073709551616) :
    Calls Tryz.prog 76 #[.pointer (some ⟨h, 0, none⟩), .int .u64 (e : Nat), .int .u64 (s : Nat)] w (DScP w P Q M (rdA 1 c 64 u (0 : Nat) (c * 64 : Nat)) e s) := by
  have BY := fun w hR hE => hBytes_any h P Q 1 c 64 u M w hR hE hz (by omega)
  have RD := fun w hE hR => hRead_any h P Q 1 c 64 u M (0 : Nat) (c * 64 : Nat) w hE hR hz hd (by omega) ⟨by omega, by omega⟩ ⟨by omega, by omega⟩
  have hlen : (rdA 1 c 64 u (0 : Nat) (c * 64 : Nat)).2.2.length ≤ 1099511627776 := by
    have := rdA_len 1 c 64 u (0 : Nat) ((c * 64 : Nat) : Int)
    omega
  unfold HRdP at RD
  unfold DScP
  have h00 : ((0 : Nat) : Int) = 0 := rfl
  rw [h00] at RD hlen ⊢
  obtain ⟨R, hRR⟩ : ∃ R, R = rdA 1 c 64 u 0 (c * 64 : Nat) := ⟨_, rfl⟩
  rw [← hRR] at RD hlen ⊢
  obtain ⟨v1, e1, b⟩ := R
  dsimp only at RD hlen ⊢
  obtain ⟨N, hN⟩ : ∃ N, N = c * 64 := ⟨_, rfl⟩
  rw [← hN] at BY RD
  clear hRR hN
  by_cases g1 : e1 = 0
  · subst g1
    have SC := fun w v hb => rscan_any b e s v w hb hlen hs he
    unfold ScanP at SC
    obtain ⟨EN, hEN⟩ : ∃ n, n = endF (rowS b e s 0) 0 := ⟨_, rfl⟩
    rw [← hEN] at SC ⊢
    clear hEN
    go_enter Tryz.func76, Tryz.ntmps76
    go_wp2_with (first
                  | (go_at_call 126; (with_reducible refine (BY _ hR hE).mono ?_); rintro e w2 ⟨rfl, hm2⟩; have hR2 := Rgr.ext hR hm2; have hE2 := hE.ext hm2)
                  | (go_at_call 135; (with_reducible refine (RD _ hE2 hR2).mono ?_); rintro e w3 ⟨rv, rfl, ho3, hn3, hP3, hm3⟩; have hs3 := ho3.bs)
                  | (go_at_call 136; (with_reducible refine (SC _ _ hs3).mono ?_); rintro e w4 ⟨fv, K, rfl, hK, hF4, hm4⟩))
    refine bodyPost_ret (v := .tuple #[fv, .int .i64 (EN : Nat), .int .i64 0]) (by simp [results, Tryz.results76, go_sem]) rfl ?_
    have hm13 : Mod [P] w w3 := (hm2.weak (by simp)).trans hm3
    exact ⟨hP3.ext hm4, hm13.ext hm4, .inr ⟨by trivial, fv, K, rfl, hK, hF4.le (by have := hm13.size; omega)⟩⟩
  · have d2 : decide (e1 = 0) = false := decide_eq_false g1
    go_enter Tryz.func76, Tryz.ntmps76
    go_wp2_with (first
                  | (go_at_call 126; (with_reducible refine (BY _ hR hE).mono ?_); rintro e w2 ⟨rfl, hm2⟩; have hR2 := Rgr.ext hR hm2; have hE2 := hE.ext hm2)
                  | (go_at_call 135; (with_reducible refine (RD _ hE2 hR2).mono ?_); rintro e w3 ⟨rv, rfl, ho3, hn3, hP3, hm3⟩))
    refine bodyPost_ret (v := .tuple #[.slice none 0 0, .int .i64 0, .int .i64 e1]) (by simp [results, Tryz.results76, go_sem]) rfl ?_
    exact ⟨hP3, (hm2.weak (by simp)).trans hm3, .inl ⟨g1, rfl⟩⟩
end Go.Proofs.YtfepggdljhiemaaGreatDoor

/-! Wal: the document's Append. -/
namespace Go.Proofs.YtfepggdljhiemaaGreatDoor
open Go.RowKit Gw

theorem again_addW {P : Program} {o : Oper} {a : Act} {w w' : World} {k : IntKind} {n1 n2 : Int} {t t' : TypeId} {x y : Operand} (ho : o.op = .binOp .add t x y t') (hx : a.eval x = .int k n1) (hy : a.eval y = .int k n2) : Again P o a w w' :=
  again_const (v := .int k (k.wrap (n1 + n2))) fun w => by
    unfold execOp
    rw [ho]
    dsimp only
    rw [hx, hy]
    simp [Op.intArith, Go.binOp, eqGuard]
/-- what the document's Append answers -/
def dappE (T U N n : Nat) : Int := if 32 < n then 3 else if dfit T U N n = true then 0 else 6
def DApP (w : World) (m h base : Nat) (fv : Value) (K : List Fi) (e f dn : Nat) (ls : List (List UInt8)) (N : Nat) (body : List UInt8) (en : Ending) (w' : World) : Prop :=
  en = .returned (.tuple #[.int .u64 (if dappE (f + ls.length) (catB e f ls).length N body.length = 0 then f + ls.length + 1 else 0 : Nat), .int .i64 (dappE (f + ls.length) (catB e f ls).length N body.length)]) ∧
  ∃ fv' K', Dq w' m h base fv' K' e f dn (if dappE (f + ls.length) (catB e f ls).length N body.length = 0 then ls ++ [body] else ls) ∧ Mod (m :: blks fv) w w' ∧ ∀ k ∈ dB fv' K', k ∈ dB fv K ∨ w.heap.size ≤ k
set_option maxRecDepth 1000000 in
set_option maxHeartbeats 20000000 in
theorem dappend_any (m h base P Q c : Nat) (u : Pv) (M : List Nat) (fv : Value) (K0 : List Fi) (e f dn : Nat) (ls : List (List UInt8)) (body : List UInt8) (xv : Value) (w : World) (H : Dq w m h base fv K0 e f dn ls) (hbase : base ≤ w.heap.size) (hR : Rgr w h P 1 c) (hE : Pr w P Q u M) (hz : u.m.sz = 64) (hc : c ≤ 1000) (hn : (catB e f ls).length ≤ 1000000) (hv : Bs w xv body) (hbl : body.length ≤ 1048576) (hls : ls.length ≤ 1000) :
    Calls Tryz.prog 50 #[.pointer (some ⟨m, 0, none⟩), xv] w (DApP w m h base fv K0 e f dn ls (c * 64) body) := by
  obtain ⟨aox, capx, rfl, _, _⟩ := hv.form
  have FI := fun w H hR hE => dFits_any m h base P Q c u M fv K0 e f dn ls (body.length : Nat) w ⟨by omega, by omega⟩ H hR hE hz hc hn
  have LA := fun w H => dLastQ m h base fv K0 e f dn ls w H
  unfold DApP
  obtain ⟨N, hN0⟩ : ∃ N, N = c * 64 := ⟨_, rfl⟩
  obtain ⟨U, hU⟩ : ∃ U, U = (catB e f ls).length := ⟨_, rfl⟩
  obtain ⟨T, hT⟩ : ∃ T, T = f + ls.length := ⟨_, rfl⟩
  have hfl := H.fl
  rw [← hT, ← hU, ← hN0]
  rw [← hT, ← hU, ← hN0] at FI
  rw [← hT] at LA hfl
  clear hN0 hU
  unfold dappE
  by_cases g1 : 32 < body.length
  · rw [if_pos g1, if_neg (by decide), if_neg (by decide)]
    have d1 : decide ((32 : Int) < (body.length : Int)) = true := decide_eq_true (by omega)
    have d2 : decide ((body.length : Int) > 32) = true := decide_eq_true (by omega)
    clear hT FI LA
    go_enter Tryz.func50, Tryz.ntmps50
    go_wp2_with fail
    refine bodyPost_ret (v := .tuple #[.int .u64 0, .int .i64 3]) (by simp [results, Tryz.results50, go_sem]) rfl ?_
    exact ⟨rfl, fv, K0, H, Mod.refl _ _, fun k hk => .inl hk⟩
  · rw [if_neg g1]
    have d1 : decide ((32 : Int) < (body.length : Int)) = false := decide_eq_false (by omega)
    have d2 : decide ((body.length : Int) > 32) = false := decide_eq_false (by omega)
    cases g2 : dfit T U N (body.length : Nat) with
    | false =>
      rw [if_neg (by decide), if_neg (by decide), if_neg (by decide)]
      rw [g2] at FI
      clear hT LA
      go_enter Tryz.func50, Tryz.ntmps50
      go_wp2_with (go_at_call 54; (with_reducible refine (FI _ H hR hE).mono ?_); rintro e w1 ⟨rfl, hm1⟩)
      refine bodyPost_ret (v := .tuple #[.int .u64 0, .int .i64 6]) (by simp [results, Tryz.results50, go_sem]) rfl ?_
      exact ⟨rfl, fv, K0, H.ext hm1, hm1.weak (by simp), fun k hk => .inl hk⟩
    | true =>
      rw [if_pos rfl, if_pos rfl, if_pos rfl]
      rw [g2] at FI
      have gg := of_decide_eq_true g2
      have y1 : (T : Int) ≤ 18446744073709551614 := by have := gg.2.1; omega
      have hT1 : T + 1 < 18446744073709551616 := by omega
      have hKl : K0.length ≤ 1000 := by have := H.len; omega
      have hN : (((T + 1 : Nat)) : Int) = (T : Int) + 1 := Int.natCast_succ T
      have hFo := H.g.fr.ow
      have hFb := H.g.fr.ltB
      have out : ∀ (ao3 : Option Addr) (cap3 : Nat) (ao5 : Option Addr) (n5 cap5 : Nat), (∀ k ∈ blks (.slice ao3 body.length cap3), w.heap.size ≤ k) → (∀ k ∈ blks (.slice ao5 n5 cap5), k ∈ blks fv ∨ w.heap.size ≤ k) → ∀ k ∈ dB (.slice ao5 n5 cap5) (K0 ++ [⟨0, .slice ao3 body.length cap3, ⟨e, T + 1, body⟩⟩]), k ∈ dB fv K0 ∨ w.heap.size ≤ k := fun ao3 cap3 ao5 n5 cap5 h1 h2 k hk => by
        rcases List.mem_append.1 hk with hk | hk
        · exact (h2 k hk).imp dB_v id
        · obtain ⟨x, hx, hk⟩ := List.mem_flatMap.1 hk
          rcases List.mem_append.1 hx with hx | hx
          · exact .inl (dB_x hx hk)
          · rw [List.mem_singleton.1 hx] at hk
            exact .inr (h1 k hk)
      have fin : ∀ (g4 : Nat) (w3 w4 w5 w6 : World) (ao3 : Option Addr) (cap3 : Nat) (ao5 : Option Addr) (cap5 : Nat), Mod [] w w3 → Mod [] w3 w4 → Ob w3 (.slice ao3 body.length cap3) body → (∀ k ∈ blks (.slice ao3 body.length cap3), w.heap.size ≤ k) →
          Ow w5 97 3 (.slice ao5 (K0.length + 1) cap5) (K0.length + 1) (K0.flatMap Fi.cells ++ [.int .u64 (e : Nat), .int .u64 ((T : Int) + 1), .slice ao3 body.length cap3]) → Mod (blks fv) w4 w5 → (∀ k ∈ blks (.slice ao5 (K0.length + 1) cap5), k ∈ blks fv ∨ w4.heap.size ≤ k) → Mod [m] w5 w6 →
          Blk w6 m 69 ((dcC h e f fv dn).set 3 (.slice ao5 (K0.length + 1) cap5)) → Dq w6 m h base (.slice ao5 (K0.length + 1) cap5) (K0 ++ [⟨0, .slice ao3 body.length cap3, ⟨e, T + 1, body⟩⟩]) e f dn (ls ++ [body]) := fun g4 w3 w4 w5 w6 ao3 cap3 ao5 cap5 h3 h4 ob hnb h5 hm5 hn5 hm6 hB => by
        have hz3 := h3.size
        have hz4 := h4.size
        have F4 := (H.g.fr.ext h3).ext h4
        have F5 : Frs w5 base (.slice ao5 (K0.length + 1) cap5) (K0 ++ [⟨0, .slice ao3 body.length cap3, ⟨e, T + 1, body⟩⟩]) := F4.snoc (B := w.heap.size) ⟨0, .slice ao3 body.length cap3, ⟨e, T + 1, body⟩⟩ hbase (by omega) (fun y hy k hk => (hFb k (dB_x hy hk)).1) (ob.ext h4) hnb (by
          have : Fi.cells ⟨0, .slice ao3 body.length cap3, ⟨e, T + 1, body⟩⟩ = [.int .u64 (e : Nat), .int .u64 ((T : Int) + 1), .slice ao3 body.length cap3] := by unfold Fi.cells; rw [← hN]
          rw [this]
          exact h5) hm5 hn5
        have hmt : ∀ k ∈ dB (.slice ao5 (K0.length + 1) cap5) (K0 ++ [⟨0, .slice ao3 body.length cap3, ⟨e, T + 1, body⟩⟩]), k ∉ [m] := fun k hk hh => by
          have e : k = m := by simpa using hh
          subst e
          have hbm : Blk w4 k 69 (dcC h _ f fv dn) := (H.g.b.ext h3).ext h4
          have hbm5 : Blk w5 k 69 (dcC h _ f fv dn) := hbm.mod hm5 (Ow.ne F4.ow hbm (by decide))
          rcases List.mem_append.1 hk with hk | hk
          · exact Ow.ne F5.ow hbm5 (by decide) hk
          · obtain ⟨x, hx, hk⟩ := List.mem_flatMap.1 hk
            exact Ow.ne (F5.ob hx).1 hbm5 (by decide) hk
        refine ⟨⟨hB, F5.modB hm6 hmt⟩, ?_, ?_, H.el, ?_, ?_, ?_⟩
        · rw [List.map_append, H.kf, fvs_snoc, hT]
          rfl
        · intro x hx
          rcases List.mem_append.1 hx with hx | hx
          · exact H.l32 x hx
          · rw [List.mem_singleton.1 hx]; omega
        · rw [List.length_append]; simp; omega
        · rw [List.length_append]; simp; omega
        · have := H.dl
          rw [List.length_append]; omega
      have HT := Lib.hid hT
      clear g2 gg hT
      go_enter Tryz.func50, Tryz.ntmps50
      go_wp2_with (go_at_call 54; (with_reducible refine (FI _ H hR hE).mono ?_); rintro e w1 ⟨rfl, hm1⟩)
      refine wp_region_T2 10 12 [⟨0, true, []⟩, ⟨1, true, []⟩, ⟨2, true, []⟩, ⟨3, true, []⟩, ⟨4, true, []⟩, ⟨5, true, []⟩, ⟨6, true, []⟩, ⟨7, true, []⟩, ⟨8, true, []⟩, ⟨9, true, []⟩, ⟨13, true, []⟩, ⟨10, false, [2, 4, 6, 8]⟩, ⟨11, true, []⟩, ⟨12, false, [2, 4, 6, 8, 11]⟩, ⟨14, false, [2, 4, 6, 8, 11]⟩, ⟨15, true, []⟩, ⟨16, false, [2, 4]⟩, ⟨17, false, []⟩, ⟨18, true, []⟩, ⟨19, true, []⟩, ⟨20, false, []⟩] [⟨0, true, []⟩, ⟨1, true, []⟩, ⟨2, true, []⟩, ⟨3, true, []⟩, ⟨4, true, []⟩, ⟨5, true, []⟩, ⟨6, true, []⟩, ⟨7, true, []⟩, ⟨8, true, []⟩, ⟨9, true, []⟩, ⟨13, true, []⟩, ⟨12, false, [2, 4, 6, 8]⟩, ⟨10, false, [2, 4, 6, 8]⟩, ⟨11, true, []⟩, ⟨14, false, [2, 4, 6, 8, 11]⟩, ⟨15, true, []⟩, ⟨16, false, [2, 4]⟩, ⟨17, false, []⟩, ⟨18, true, []⟩, ⟨19, true, []⟩, ⟨20, false, []⟩] (by kernel_rfl) (by kernel_rfl) (by kernel_rfl) (by kernel_rfl) (by kernel_rfl) ?_ ?_
      all_goals have hm1d := Mod.drew [] w1
      all_goals obtain ⟨x, hx⟩ : ∃ z, z = w1.drew := ⟨_, rfl⟩
      all_goals rw [← hx] at hm1d ⊢
      all_goals clear hx
      all_goals have hmD := hm1.ext hm1d
      all_goals have HD := H.ext hmD
      all_goals have hbD := HD.g.b
      all_goals unfold dcC at hbD
      all_goals have c3 := Blk.cell' hbD (i := 3) rfl
      all_goals have c1 := Blk.cell' hbD (i := 1) rfl
      · iterate 11 (refine wpT_n rfl rfl (fun K hK => ?_); go_wp2_with fail)
        refine wpT_callh rfl rfl (fun K hK => ?_)
        go_wp2_with (go_at_call 60; (with_reducible refine (LA _ HD).mono ?_); rintro e wa ⟨rfl, hma⟩)
        refine ⟨(agains_cons rfl (again_const (fun _ => rfl)) (agains_cons rfl (again_load rfl rfl (hma.block m hbD.lt (by simp)) hbD.kinds) (agains_cons rfl (again_const (fun _ => rfl)) (agains_cons rfl (again_load rfl rfl (hma.block m hbD.lt (by simp)) hbD.kinds) agains_nil)))), ?_⟩
        refine wpT_n rfl rfl (fun K hK => ?_)
        go_wp2_with fail
        have hbA : Blk wa m 69 _ := hbD.ext hma
        refine wpT_e rfl rfl (fun K hK => ?_)
        refine wp_bslice stB [] rfl (by decide) (by rfl) (by simp) ?_
        intro g0 w2 hg01 hg02 hm2 hX0
        simp only [put_some, List.set_cons_succ, List.set_cons_zero]
        refine hK _ _ ⟨(agains_cons rfl (again_const (fun _ => rfl)) (agains_cons rfl (again_load rfl rfl (hm2.block m hbA.lt (by simp)) hbA.kinds) (agains_cons rfl (again_const (fun _ => rfl)) (agains_cons rfl (again_load rfl rfl (hm2.block m hbA.lt (by simp)) hbA.kinds) (agains_cons rfl (again_addW rfl (by rfl) (by rfl)) agains_nil))))), ?_⟩
        clear hK K
        have hm02 := hma.ext hm2
        have hX2 := hX0
        have hgx : x.heap.size ≤ g0 := by have := hma.size; omega
        have hbx2 : Blk w2 m 69 _ := hbD.ext hm02
        have hs2 := hv.ext (hmD.ext hm02)
        have hE2 : Ow w2 5 1 (.slice (some ⟨g0, 0, none⟩) 0 0) 0 [] := Ow.of_blk (rest := []) (by simpa using hX2) (Nat.le_refl _) (by omega) rfl rfl
        refine wpT_e rfl rfl (fun K hK => ?_)
        refine wp_append_ow stB (by rfl) (by rfl) hE2 hs2 (bv_one _) (by omega) (by omega) ?_
        intro v3 w3 ho3 hm3 hn3
        simp only [put_some, List.set_cons_succ, List.set_cons_zero]
        have hm23 : Mod [] x w3 := hm02.fresh hm3 (fun k hk => by have e : k = g0 := (by simpa [blks] using hk); exact e ▸ hgx)
        have hm3g : m ∉ blks (.slice (some ⟨g0, 0, none⟩) 0 0) := fun hh => by have e : m = g0 := (by simpa [blks] using hh); have := hbD.lt; omega
        refine hK _ _ ⟨(agains_cons rfl (again_const (fun _ => rfl)) (agains_cons rfl (again_load rfl rfl (hm3.block m hbx2.lt hm3g) hbx2.kinds) (agains_cons rfl (again_const (fun _ => rfl)) (agains_cons rfl (again_load rfl rfl (hm3.block m hbx2.lt hm3g) hbx2.kinds) (agains_cons rfl (again_addW rfl (by rfl) (by rfl)) agains_nil))))), ?_⟩
        clear hK K
        obtain ⟨ao3, cap3, rfl, _, _⟩ := Sl.form (Ow.sl ho3)
        have ho3' : Ob w3 (.slice ao3 (0 + body.length) cap3) body := by rw [Nat.zero_add] at ho3 ⊢; exact ho3
        rw [Nat.zero_add] at ho3' ⊢
        refine wpT_n rfl rfl (fun K hK => ?_)
        go_wp2_with fail
        have hb3 : Blk w3 m 69 _ := hbD.ext hm23
        have hn3' : ∀ k ∈ blks (.slice ao3 body.length cap3), x.heap.size ≤ k := fun k hk => by
          rw [Nat.zero_add] at hn3
          rcases hn3 k hk with h | h
          · have e : k = g0 := (by simpa [blks] using h)
            omega
          · have := hm02.size
            omega
        refine wpT_e rfl rfl (fun K hK => ?_)
        refine wp_bslice stFr [.agg #[.int .u64 (e : Nat), .int .u64 ((T : Int) + 1), .slice ao3 body.length cap3]] rfl (by decide) (by rfl) (by simp [Value.cells]) ?_
        intro g4 w4 hg41 hg42 hm4 hX4
        simp only [put_some, List.set_cons_succ, List.set_cons_zero]
        refine hK _ _ ⟨(agains_cons rfl (again_const (fun _ => rfl)) (agains_cons rfl (again_load rfl rfl (hm4.block m hb3.lt (by simp)) hb3.kinds) agains_nil)), ?_⟩
        clear hK K
        have hm24 := hm23.ext hm4
        have hF4 : Ow w4 97 3 fv K0.length (K0.flatMap Fi.cells) := hFo.ext (hmD.ext hm24)
        have hS4 : Sl w4 3 (.slice (some ⟨g4, 0, none⟩) 1 1) 1 [.int .u64 (e : Nat), .int .u64 ((T : Int) + 1), .slice ao3 body.length cap3] := (Ow.of_blk (rest := []) (show Blk w4 g4 97 ([.int .u64 (e : Nat), .int .u64 ((T : Int) + 1), .slice ao3 body.length cap3] ++ []) from hX4) (Nat.le_refl _) (by omega) rfl rfl : Ow w4 97 3 (.slice (some ⟨g4, 0, none⟩) 1 1) 1 [.int .u64 (e : Nat), .int .u64 ((T : Int) + 1), .slice ao3 body.length cap3]).sl
        refine wpT_e0 rfl rfl (fun K hK => ?_)
        refine wp_append_ow stFr (by rfl) (by rfl) hF4 hS4 (by simp [Value.oneCell']) (by omega) (by omega) ?_
        intro v5 w5 ho5 hm5 hn5
        simp only [put_some, List.set_cons_succ, List.set_cons_zero]
        refine hK _ _ ?_
        clear hK K
        obtain ⟨ao5, cap5, rfl, _, _⟩ := Sl.form (Ow.sl ho5)
        have hb5 : Blk w5 m 69 _ := (hb3.ext hm4).mod hm5 (Ow.ne hF4 (hb3.ext hm4) (by decide))
        iterate 2 (refine wpT_n rfl rfl (fun K hK => ?_); go_wp2_with fail)
        refine wpT_e0 rfl rfl (fun K hK => ?_)
        refine wp_store1 (by kernel_rfl) (by rfl) (u := .slice ao5 (K0.length + 1) cap5) (by rfl) ⟨rfl, rfl⟩ hb5 (by simp) ?_
        intro w6 hm6 hB6
        refine hK _ _ ?_
        clear hK K
        refine wpT_nil ?_
        have H6 : Dq w6 m h base (.slice ao5 (K0.length + 1) cap5) (K0 ++ [⟨0, .slice ao3 body.length cap3, ⟨e, T + 1, body⟩⟩]) e f dn (ls ++ [body]) := fin g4 w3 w4 w5 w6 ao3 cap3 ao5 cap5 (hmD.ext hm23) hm4 ho3' (fun k hk => by have := hn3' k hk; have := hmD.size; omega) ho5 hm5 hn5 hm6 hB6
        have hM6 : Mod (m :: blks fv) w w6 := (((hmD.ext hm24).weak (by simp) : Mod (m :: blks fv) w w4).then hm5 (fun g hg => .inl (by simp [hg]))).then hm6 (fun g hg => .inl (by simp at hg; simp [hg]))
        have LA6 := fun w H => dLastQ m h base (.slice ao5 (K0.length + 1) cap5) (K0 ++ [⟨0, .slice ao3 body.length cap3, ⟨e, T + 1, body⟩⟩]) e f dn (ls ++ [body]) w H
        rw [show f + (ls ++ [body]).length = T + 1 by have hT := HT.out; rw [List.length_append]; simp; omega] at LA6
        go_wp2_with (go_at_call 60; (with_reducible refine (LA6 _ H6).mono ?_); rintro e w7 ⟨rfl, hm7⟩)
        refine bodyPost_ret (v := .tuple #[.int .u64 ((T : Int) + 1), .int .i64 0]) (by simp [results, Tryz.results50, go_sem]) rfl ?_
        exact ⟨by rw [hN], _, _, H6.ext hm7, hM6.ext hm7, out _ _ _ _ _ (fun k hk => by have := hn3' k hk; have := hmD.size; omega) (fun k hk => (hn5 k hk).imp id (fun h => by have := (hmD.ext hm24).size; omega))⟩
      · iterate 11 (refine wpT_n rfl rfl (fun K hK => ?_); go_wp2_with fail)
        refine wpT_e rfl rfl (fun K hK => ?_)
        refine wp_bslice stB [] rfl (by decide) (by rfl) (by simp) ?_
        intro g0 wa hg01 hg02 hma hX0
        simp only [put_some, List.set_cons_succ, List.set_cons_zero]
        refine hK _ _ ⟨(agains_cons rfl (again_const (fun _ => rfl)) (agains_cons rfl (again_load rfl rfl (hma.block m hbD.lt (by simp)) hbD.kinds) (agains_cons rfl (again_const (fun _ => rfl)) (agains_cons rfl (again_load rfl rfl (hma.block m hbD.lt (by simp)) hbD.kinds) agains_nil)))), ?_⟩
        clear hK K
        have hbA : Blk wa m 69 _ := hbD.ext hma
        have HA := HD.ext hma
        refine wpT_callh rfl rfl (fun K hK => ?_)
        go_wp2_with (go_at_call 60; (with_reducible refine (LA _ HA).mono ?_); rintro e w2 ⟨rfl, hm2⟩)
        refine ⟨(agains_cons rfl (again_const (fun _ => rfl)) (agains_cons rfl (again_load rfl rfl (hm2.block m hbA.lt (by simp)) hbA.kinds) (agains_cons rfl (again_const (fun _ => rfl)) (agains_cons rfl (again_load rfl rfl (hm2.block m hbA.lt (by simp)) hbA.kinds) agains_nil)))), ?_⟩
        refine wpT_n rfl rfl (fun K hK => ?_)
        go_wp2_with fail
        have hm02 := hma.ext hm2
        have hX2 := hX0.ext hm2
        have hgx : x.heap.size ≤ g0 := hg01
        have hbx2 : Blk w2 m 69 _ := hbD.ext hm02
        have hs2 := hv.ext (hmD.ext hm02)
        have hE2 : Ow w2 5 1 (.slice (some ⟨g0, 0, none⟩) 0 0) 0 [] := Ow.of_blk (rest := []) (by simpa using hX2) (Nat.le_refl _) (by omega) rfl rfl
        refine wpT_e rfl rfl (fun K hK => ?_)
        refine wp_append_ow stB (by rfl) (by rfl) hE2 hs2 (bv_one _) (by omega) (by omega) ?_
        intro v3 w3 ho3 hm3 hn3
        simp only [put_some, List.set_cons_succ, List.set_cons_zero]
        have hm23 : Mod [] x w3 := hm02.fresh hm3 (fun k hk => by have e : k = g0 := (by simpa [blks] using hk); exact e ▸ hgx)
        have hm3g : m ∉ blks (.slice (some ⟨g0, 0, none⟩) 0 0) := fun hh => by have e : m = g0 := (by simpa [blks] using hh); have := hbD.lt; omega
        refine hK _ _ ⟨(agains_cons rfl (again_const (fun _ => rfl)) (agains_cons rfl (again_load rfl rfl (hm3.block m hbx2.lt hm3g) hbx2.kinds) (agains_cons rfl (again_const (fun _ => rfl)) (agains_cons rfl (again_load rfl rfl (hm3.block m hbx2.lt hm3g) hbx2.kinds) (agains_cons rfl (again_addW rfl (by rfl) (by rfl)) agains_nil))))), ?_⟩
        clear hK K
        obtain ⟨ao3, cap3, rfl, _, _⟩ := Sl.form (Ow.sl ho3)
        have ho3' : Ob w3 (.slice ao3 (0 + body.length) cap3) body := by rw [Nat.zero_add] at ho3 ⊢; exact ho3
        rw [Nat.zero_add] at ho3' ⊢
        refine wpT_n rfl rfl (fun K hK => ?_)
        go_wp2_with fail
        have hb3 : Blk w3 m 69 _ := hbD.ext hm23
        have hn3' : ∀ k ∈ blks (.slice ao3 body.length cap3), x.heap.size ≤ k := fun k hk => by
          rw [Nat.zero_add] at hn3
          rcases hn3 k hk with h | h
          · have e : k = g0 := (by simpa [blks] using h)
            omega
          · have := hm02.size
            omega
        refine wpT_e rfl rfl (fun K hK => ?_)
        refine wp_bslice stFr [.agg #[.int .u64 (e : Nat), .int .u64 ((T : Int) + 1), .slice ao3 body.length cap3]] rfl (by decide) (by rfl) (by simp [Value.cells]) ?_
        intro g4 w4 hg41 hg42 hm4 hX4
        simp only [put_some, List.set_cons_succ, List.set_cons_zero]
        refine hK _ _ ⟨(agains_cons rfl (again_const (fun _ => rfl)) (agains_cons rfl (again_load rfl rfl (hm4.block m hb3.lt (by simp)) hb3.kinds) agains_nil)), ?_⟩
        clear hK K
        have hm24 := hm23.ext hm4
        have hF4 : Ow w4 97 3 fv K0.length (K0.flatMap Fi.cells) := hFo.ext (hmD.ext hm24)
        have hS4 : Sl w4 3 (.slice (some ⟨g4, 0, none⟩) 1 1) 1 [.int .u64 (e : Nat), .int .u64 ((T : Int) + 1), .slice ao3 body.length cap3] := (Ow.of_blk (rest := []) (show Blk w4 g4 97 ([.int .u64 (e : Nat), .int .u64 ((T : Int) + 1), .slice ao3 body.length cap3] ++ []) from hX4) (Nat.le_refl _) (by omega) rfl rfl : Ow w4 97 3 (.slice (some ⟨g4, 0, none⟩) 1 1) 1 [.int .u64 (e : Nat), .int .u64 ((T : Int) + 1), .slice ao3 body.length cap3]).sl
        refine wpT_e0 rfl rfl (fun K hK => ?_)
        refine wp_append_ow stFr (by rfl) (by rfl) hF4 hS4 (by simp [Value.oneCell']) (by omega) (by omega) ?_
        intro v5 w5 ho5 hm5 hn5
        simp only [put_some, List.set_cons_succ, List.set_cons_zero]
        refine hK _ _ ?_
        clear hK K
        obtain ⟨ao5, cap5, rfl, _, _⟩ := Sl.form (Ow.sl ho5)
        have hb5 : Blk w5 m 69 _ := (hb3.ext hm4).mod hm5 (Ow.ne hF4 (hb3.ext hm4) (by decide))
        iterate 2 (refine wpT_n rfl rfl (fun K hK => ?_); go_wp2_with fail)
        refine wpT_e0 rfl rfl (fun K hK => ?_)
        refine wp_store1 (by kernel_rfl) (by rfl) (u := .slice ao5 (K0.length + 1) cap5) (by rfl) ⟨rfl, rfl⟩ hb5 (by simp) ?_
        intro w6 hm6 hB6
        refine hK _ _ ?_
        clear hK K
        refine wpT_nil ?_
        have H6 : Dq w6 m h base (.slice ao5 (K0.length + 1) cap5) (K0 ++ [⟨0, .slice ao3 body.length cap3, ⟨e, T + 1, body⟩⟩]) e f dn (ls ++ [body]) := fin g4 w3 w4 w5 w6 ao3 cap3 ao5 cap5 (hmD.ext hm23) hm4 ho3' (fun k hk => by have := hn3' k hk; have := hmD.size; omega) ho5 hm5 hn5 hm6 hB6
        have hM6 : Mod (m :: blks fv) w w6 := (((hmD.ext hm24).weak (by simp) : Mod (m :: blks fv) w w4).then hm5 (fun g hg => .inl (by simp [hg]))).then hm6 (fun g hg => .inl (by simp at hg; simp [hg]))
        have LA6 := fun w H => dLastQ m h base (.slice ao5 (K0.length + 1) cap5) (K0 ++ [⟨0, .slice ao3 body.length cap3, ⟨e, T + 1, body⟩⟩]) e f dn (ls ++ [body]) w H
        rw [show f + (ls ++ [body]).length = T + 1 by have hT := HT.out; rw [List.length_append]; simp; omega] at LA6
        go_wp2_with (go_at_call 60; (with_reducible refine (LA6 _ H6).mono ?_); rintro e w7 ⟨rfl, hm7⟩)
        refine bodyPost_ret (v := .tuple #[.int .u64 ((T : Int) + 1), .int .i64 0]) (by simp [results, Tryz.results50, go_sem]) rfl ?_
        exact ⟨by rw [hN], _, _, H6.ext hm7, hM6.ext hm7, out _ _ _ _ _ (fun k hk => by have := hn3' k hk; have := hmD.size; omega) (fun k hk => (hn5 k hk).imp id (fun h => by have := (hmD.ext hm24).size; omega))⟩
end Go.Proofs.YtfepggdljhiemaaGreatDoor

/-! Wal: the document's Flush. -/
namespace Go.Proofs.YtfepggdljhiemaaGreatDoor
open Go.RowKit Gw

theorem flat_drop3 : ∀ (k : Nat) (L : List Fi), (L.flatMap Fi.cells).drop (k * 3) = (L.drop k).flatMap Fi.cells
  | 0, _ => by simp
  | k + 1, [] => by simp
  | k + 1, x :: L => by
    rw [List.drop_succ_cons, List.flatMap_cons, ← flat_drop3 k L, show (k + 1) * 3 = k * 3 + 3 by omega]
    rfl
theorem FrsR.dropW {w : World} {ao : Option Addr} {n cap p : Nat} {L : List Fi} (h : FrsR w (.slice ao n cap) L) (hn : n = L.length) (hp : p ≤ n) (hc : n ≤ cap) : FrsR w (.slice (if cap = p then ao else Option.map (fun x => x.add (p * 3)) ao) (n - p) (cap - p)) (L.drop p) := by
  subst hn
  have h2 := Sl.cut (lo := p) (hi := L.length) (m := cap) h.1 hp (Nat.le_refl _) hc (Nat.le_refl _)
  have hl : (L.drop p).length = L.length - p := List.length_drop
  refine ⟨?_, fun x hx => h.2 x (List.mem_of_mem_drop hx)⟩
  rw [hl]
  have e : (L.drop p).flatMap Fi.cells = ((L.flatMap Fi.cells).drop (p * 3)).take ((L.length - p) * 3) := by
    rw [flat_drop3, List.take_of_length_le (by rw [flen3, hl]; exact Nat.le_refl _)]
  rw [e]
  exact h2
/-- what the document's Flush answers: the device, how many are durable, the error -/
def dflG (c : Nat) (v : Pv) (e f dn : Nat) (ls : List (List UInt8)) : Pv × Nat × Int :=
  if dn = ls.length then (v, dn, 0) else ((putG 1 c 64 v ((catB e f (ls.take dn)).length : Nat) (catB e (f + dn) (ls.drop dn))).1, if (putG 1 c 64 v ((catB e f (ls.take dn)).length : Nat) (catB e (f + dn) (ls.drop dn))).2 = 0 then ls.length else dn, (putG 1 c 64 v ((catB e f (ls.take dn)).length : Nat) (catB e (f + dn) (ls.drop dn))).2)
def DFlP (w : World) (m h base P Q : Nat) (fv : Value) (K : List Fi) (e f : Nat) (ls : List (List UInt8)) (M : List Nat) (R : Pv × Nat × Int) (en : Ending) (w' : World) : Prop :=
  ∃ M', en = .returned (.int .i64 R.2.2) ∧ Dq w' m h base fv K e f R.2.1 ls ∧ Pr w' P Q R.1 M' ∧ Mod (m :: P :: M) w w' ∧ ∀ k ∈ M', k ∈ M ∨ w.heap.size ≤ k
theorem Dq.to {w w' : World} {m h base : Nat} {fv : Value} {K : List Fi} {e f dn d2 : Nat} {ls : List (List UInt8)} (H : Dq w m h base fv K e f dn ls) (hb : Blk w' m 69 (dcC h e f fv d2)) (hf : Frs w' base fv K) (hd : d2 ≤ ls.length) : Dq w' m h base fv K e f d2 ls := ⟨⟨hb, hf⟩, H.kf, H.l32, H.el, H.fl, H.nl, hd⟩
set_option maxRecDepth 1000000 in
set_option maxHeartbeats 20000000 in
theorem dflush_any (m h base P Q c : Nat) (u : Pv) (M : List Nat) (fv : Value) (Kf : List Fi) (e f dn : Nat) (ls : List (List UInt8)) (w : World) (H : Dq w m h base fv Kf e f dn ls) (hR : Rgr w h P 1 c) (hP : Pr w P Q u M) (hhM : h ∉ P :: M) (hmM : m ∉ P :: M) (hKM : ∀ k ∈ dB fv Kf, k ∉ P :: M) (hc : c ≤ 1000) (hz : u.m.sz = 64) (hd : 1 + c ≤ u.m.dur.length) (hn : u.n ≤ 500000) (hr : u.m.row.length ≤ 500000) (hcl : (catB e f ls).length ≤ 1000000) :
    Calls Tryz.prog 51 #[.pointer (some ⟨m, 0, none⟩)] w (DFlP w m h base P Q fv Kf e f ls M (dflG c u e f dn ls)) := by
  have hb := H.g.b
  have HFr := H.g.fr
  have hlen := H.len
  have hdl := H.dl
  obtain ⟨ao, cap, rfl, hc1, hc2⟩ := Sl.form H.g.fr.ow.sl
  unfold DFlP dflG
  by_cases g1 : dn = ls.length
  · rw [if_pos g1]
    have d1 : ((dn : Int) == (Kf.length : Int)) = true := beq_iff_eq.2 (by omega)
    have G1 := Lib.hid g1
    have HLEN := Lib.hid hlen
    clear g1 hlen
    unfold dcC at hb
    go_enter Tryz.func51, Tryz.ntmps51
    go_wp2_with fail
    refine wp_region_T [⟨0, true, []⟩, ⟨1, true, []⟩, ⟨2, true, []⟩, ⟨3, true, []⟩, ⟨4, true, []⟩, ⟨5, true, []⟩, ⟨6, true, []⟩, ⟨7, true, []⟩, ⟨8, true, []⟩, ⟨9, true, []⟩] (by kernel_rfl) (by kernel_rfl) ?_
    have hm0 := Mod.drew [] w
    obtain ⟨x, hxx⟩ : ∃ z, z = w.drew := ⟨_, rfl⟩
    rw [← hxx] at hm0 ⊢
    clear hxx
    have b0 := hb.ext hm0
    have x3 := Blk.cell' b0 (i := 3) rfl
    have x4 := Blk.cell' b0 (i := 4) rfl
    iterate 10 (refine wpT_n rfl rfl (fun K hK => ?_); go_wp2_with fail)
    refine wpT_nil ?_
    go_wp2_with fail
    go_ret
    exact ⟨M, rfl, H.ext hm0, hP.ext hm0, hm0.weak (by simp), fun k hk => .inl hk⟩
  · rw [if_neg g1]
    have d1 : ((dn : Int) == (Kf.length : Int)) = false := beq_eq_false_iff_ne.2 (by omega)
    have hct : ¬ cap = dn := by omega
    have hdk : dn ≤ Kf.length := by omega
    have hdc : dn ≤ cap := by omega
    have y1 : (dn : Int) ≤ Kf.length := by omega
    have y2 : (dn : Int) ≤ cap := by omega
    have y3 : (Kf.length : Int) ≤ cap := by omega
    obtain ⟨g, hg⟩ : ∃ g, g = (catB e f (ls.take dn)).length := ⟨_, rfl⟩
    obtain ⟨D, hD⟩ : ∃ D, D = catB e (f + dn) (ls.drop dn) := ⟨_, rfl⟩
    have hcat : catB e f (ls.take dn) ++ D = catB e f ls := by rw [hD]; exact catB_add _ _ _ _ hdl
    have hgD : g + D.length ≤ 1000000 := by rw [hg, ← List.length_append, hcat]; exact hcl
    have BT := fun w hF => dbytes_any (Kf.take dn) (.slice ao dn cap) w hF (fun x hx => H.ok x (List.mem_of_mem_take hx)) (by rw [List.length_take]; have := H.nl; omega)
    rw [List.map_take, H.kf, fvs_take, fvs_cat] at BT
    have BD := fun w hF => dbytes_any (Kf.drop dn) (.slice (Option.map (fun x => x.add (dn * 3)) ao) (Kf.length - dn) (cap - dn)) w hF (fun x hx => H.ok x (List.mem_of_mem_drop hx)) (by rw [List.length_drop]; have := H.nl; omega)
    rw [List.map_drop, H.kf, fvs_drop _ _ _ _ hdl, fvs_cat, ← hD] at BD
    have WR := fun w bw hP hR hb hbp => hWrite_any h P Q 1 c 64 u M (g : Nat) D bw w hP hR hb hz hd (by omega) (by omega) ⟨by omega, by omega⟩ hhM hbp
    unfold HWrP PrP at WR
    have hsz := wrA_sz 1 c 64 u (g : Nat) D
    rw [← hg, ← hD]
    unfold putG
    obtain ⟨X, hX⟩ : ∃ X, X = wrA 1 c 64 u (g : Nat) D := ⟨_, rfl⟩
    rw [← hX] at WR hsz ⊢
    obtain ⟨v1, e1⟩ := X
    dsimp only at WR hsz ⊢
    have HS := Lib.hid (And.intro hsz (And.intro hc (And.intro hn hr)))
    have HG := Lib.hid hg
    have HLEN := Lib.hid hlen
    have hb' := hb
    clear hsz hX hg hD hcat hlen
    unfold dcC at hb
    have w1 : i64 (g : Nat) := ⟨by omega, by omega⟩
    by_cases g2 : e1 = 0
    · subst g2
      rw [if_pos rfl]
      dsimp only
      have SY := fun w L hR hP => hSync_any h P Q 1 c v1 L w hR hP (by have := HS.out; omega) (by have := HS.out; omega)
      unfold PrP at SY
      obtain ⟨e2, he2⟩ : ∃ e2, e2 = v1.e 0 := ⟨_, rfl⟩
      rw [← he2] at SY ⊢
      clear he2
      by_cases g3 : e2 = 0
      · subst g3
        rw [if_pos rfl]
        go_enter Tryz.func51, Tryz.ntmps51
        go_wp2_with fail
        refine wp_region_T [⟨0, true, []⟩, ⟨1, true, []⟩, ⟨2, true, []⟩, ⟨3, true, []⟩, ⟨4, true, []⟩, ⟨5, true, []⟩, ⟨6, true, []⟩, ⟨7, true, []⟩, ⟨8, true, []⟩, ⟨9, true, []⟩] (by kernel_rfl) (by kernel_rfl) ?_
        have hm0 := Mod.drew [] w
        obtain ⟨x, hxx⟩ : ∃ z, z = w.drew := ⟨_, rfl⟩
        rw [← hxx] at hm0 ⊢
        clear hxx
        have b0 := hb.ext hm0
        have x3 := Blk.cell' b0 (i := 3) rfl
        have x4 := Blk.cell' b0 (i := 4) rfl
        iterate 10 (refine wpT_n rfl rfl (fun K hK => ?_); go_wp2_with fail)
        refine wpT_nil ?_
        go_wp2_with fail
        refine wp_region_T [⟨0, true, []⟩, ⟨1, true, []⟩, ⟨2, true, []⟩, ⟨3, true, []⟩, ⟨4, true, []⟩, ⟨5, true, []⟩, ⟨6, true, []⟩, ⟨7, true, []⟩, ⟨8, true, []⟩, ⟨9, true, []⟩, ⟨10, true, []⟩, ⟨11, true, []⟩, ⟨12, true, []⟩, ⟨15, true, []⟩, ⟨16, true, []⟩, ⟨17, true, []⟩, ⟨18, true, []⟩, ⟨19, true, []⟩, ⟨20, true, []⟩, ⟨21, true, []⟩, ⟨22, true, []⟩, ⟨23, true, []⟩, ⟨13, false, [1, 3, 16, 18, 20, 22]⟩, ⟨14, true, []⟩, ⟨24, false, [1, 3, 14]⟩, ⟨25, false, []⟩, ⟨26, true, []⟩] (by kernel_rfl) (by kernel_rfl) ?_
        have hm00 := Mod.drew [] x
        obtain ⟨y, hxx⟩ : ∃ z, z = x.drew := ⟨_, rfl⟩
        rw [← hxx] at hm00 ⊢
        clear hxx
        have hm01 := hm0.ext hm00
        have b1 := hb.ext hm01
        have HF1 := HFr.ext hm01
        have c0 := Blk.cell' b1 (i := 0) rfl
        have c3 := Blk.cell' b1 (i := 3) rfl
        have c4 := Blk.cell' b1 (i := 4) rfl
        have HT := HF1.r.take rfl (k := dn) (by omega) (by omega)
        iterate 22 (refine wpT_n rfl rfl (fun K hK => ?_); go_wp2_with fail)
        refine wpT_callh rfl rfl (fun K hK => ?_)
        go_wp2_with (go_at_call 124; (with_reducible refine (BT _ HT).mono ?_); rintro e w3 ⟨v3, rfl, ho3, hn3, hm3⟩; obtain ⟨ao3, cap3, rfl, _, _⟩ := Ob.nxR (n := g) ho3 HG.out.symm)
        refine ⟨(agains_cons rfl (again_const (fun _ => rfl)) (agains_cons rfl (again_load rfl rfl (hm3.block m b1.lt (by simp)) b1.kinds) (agains_cons rfl (again_const (fun _ => rfl)) (agains_cons rfl (again_load rfl rfl (hm3.block m b1.lt (by simp)) b1.kinds) (agains_cons rfl (again_const (fun _ => rfl)) (agains_cons rfl (again_load rfl rfl (hm3.block m b1.lt (by simp)) b1.kinds) agains_nil)))))), ?_⟩
        refine wpT_n rfl rfl (fun K hK => ?_)
        go_wp2_with fail
        have b3 := b1.ext hm3
        have HD := (HF1.ext hm3).r.dropW rfl (p := dn) (by omega) hc1
        rw [if_neg hct] at HD
        refine wpT_callh rfl rfl (fun K hK => ?_)
        go_wp2_with (go_at_call 124; (with_reducible refine (BD _ HD).mono ?_); rintro e w4 ⟨v4, rfl, ho4, hn4, hm4⟩)
        refine ⟨(agains_cons rfl (again_const (fun _ => rfl)) (agains_cons rfl (again_load rfl rfl (hm4.block m b3.lt (by simp)) b3.kinds) (agains_cons rfl (again_len rfl (by rfl) (by kernel_rfl)) agains_nil))), ?_⟩
        have hm14 := hm3.ext hm4
        have hm04 := hm01.ext hm14
        have b4 := b3.ext hm4
        have hP4 := hP.ext hm04
        have hR4 := Rgr.ext hR hm04
        have hbB : D ≠ [] → ∀ k ∈ blks v4, k < w4.heap.size ∧ k ∉ P :: M := fun _ k hk => ⟨Ow.lt ho4 k hk, fun hh => by have h1 := hn4 k hk; have h2 := hP.lt1 k hh; have h3 := (hm01.ext hm3).size; omega⟩
        have z4 := hm04.size
        refine wpT_call rfl rfl (fun K hK => ?_)
        go_wp2_with (go_at_call 123; (with_reducible refine (WR _ _ hP4 hR4 ho4.bs hbB).mono ?_); rintro e w5 ⟨rfl, L1, hP5, hm5, hL1⟩)
        have hL1' : ∀ k ∈ L1, k ∈ M ∨ w.heap.size ≤ k := fun k hk => (hL1 k hk).imp id (fun h => by omega)
        have z5 := hm5.size
        have hF5 : Frs w5 base (.slice ao Kf.length cap) Kf := ((HFr.ext hm04).modB hm5 hKM)
        have b5 : Blk w5 m 69 _ := b4.mod hm5 hmM
        have hR5 := Rgr.mod hR4 hm5 hhM
        have m5 : Mod (m :: P :: M) w w5 := (hm04.weak (by simp) : Mod (m :: P :: M) w w4).then hm5 (fun g hg => .inl (by simp at hg; simp [hg]))
        refine wpT_n rfl rfl (fun K hK => ?_)
        go_wp2_with fail
        refine wpT_nil ?_
        have c0' := Blk.cell' b5 (i := 0) rfl
        have no : ∀ g, g < w.heap.size → g ∉ P :: M → g ∉ P :: L1 := fun g hg h hh => (List.mem_cons.1 hh).elim (fun e => h (by simp [e])) (fun hh => (hL1' g hh).elim (fun hh => h (by simp [hh])) (fun hh => by omega))
        have nom := no m hb.lt hmM
        go_wp2_with (first
                      | (with_reducible refine st_store ?_)
                      | (go_at_call 125; (with_reducible refine (SY _ _ hR5 hP5).mono ?_); rintro e w6 ⟨rfl, L2, hP6, hm6, hL2⟩; have b6 : Blk w6 m 69 _ := b5.mod hm6 nom; have c3' := Blk.cell' b6 (i := 3) rfl))
        have hL2' : ∀ k ∈ L2, k ∈ M ∨ w.heap.size ≤ k := fun k hk => (hL2 k hk).elim (fun hk => hL1' k hk) (fun hk => .inr (by omega))
        have hF6 := hF5.modB hm6 (fun k hk => no k (HFr.ltB k hk).1 (hKM k hk))
        have m6 : Mod (m :: P :: M) w w6 := m5.then hm6 (fun g hg => (List.mem_cons.1 hg).elim (fun e => .inl (by simp [e])) (fun hg => (hL1' g hg).imp (fun h => by simp [h]) id))
        refine StopOp.go rfl fun K hK => ?_
        refine wp_store1 (by kernel_rfl) (by rfl) (u := .int .i64 (Kf.length : Nat)) (by rfl) ⟨rfl, rfl⟩ b6 (by simp) ?_
        intro w7 hm7 hB7
        refine hK _ _ ?_
        clear hK K
        go_wp2_with fail
        go_ret
        have hB7' : Blk w7 m 69 (dcC h e f (.slice ao Kf.length cap) ls.length) := by rw [← HLEN.out]; exact hB7
        have hF7 := hF6.modB hm7 (fun k hk hh => by
          have e : k = m := by simpa using hh
          subst e
          rcases List.mem_append.1 hk with hk | hk
          · exact Ow.ne hF6.ow b6 (by decide) hk
          · obtain ⟨x, hx, hk⟩ := List.mem_flatMap.1 hk
            exact Ow.ne (hF6.ob hx).1 b6 (by decide) hk)
        have hl2 : m ∉ P :: L2 := fun hh => (List.mem_cons.1 hh).elim (fun e => hmM (by simp [e])) (fun hh => (hL2' m hh).elim (fun hh => hmM (by simp [hh])) (fun hh => by have := hb.lt; omega))
        exact ⟨L2, rfl, H.to hB7' hF7 (Nat.le_refl _), hP6.keep1 hm7 (fun k hk hh => by simp at hh; exact hl2 (hh ▸ hk)), m6.then hm7 (fun g hg => .inl (by simp at hg; simp [hg])), hL2'⟩
      · rw [if_neg g3]
        have d3 : (e2 == 0) = false := beq_eq_false_iff_ne.2 g3
        go_enter Tryz.func51, Tryz.ntmps51
        go_wp2_with fail
        refine wp_region_T [⟨0, true, []⟩, ⟨1, true, []⟩, ⟨2, true, []⟩, ⟨3, true, []⟩, ⟨4, true, []⟩, ⟨5, true, []⟩, ⟨6, true, []⟩, ⟨7, true, []⟩, ⟨8, true, []⟩, ⟨9, true, []⟩] (by kernel_rfl) (by kernel_rfl) ?_
        have hm0 := Mod.drew [] w
        obtain ⟨x, hxx⟩ : ∃ z, z = w.drew := ⟨_, rfl⟩
        rw [← hxx] at hm0 ⊢
        clear hxx
        have b0 := hb.ext hm0
        have x3 := Blk.cell' b0 (i := 3) rfl
        have x4 := Blk.cell' b0 (i := 4) rfl
        iterate 10 (refine wpT_n rfl rfl (fun K hK => ?_); go_wp2_with fail)
        refine wpT_nil ?_
        go_wp2_with fail
        refine wp_region_T [⟨0, true, []⟩, ⟨1, true, []⟩, ⟨2, true, []⟩, ⟨3, true, []⟩, ⟨4, true, []⟩, ⟨5, true, []⟩, ⟨6, true, []⟩, ⟨7, true, []⟩, ⟨8, true, []⟩, ⟨9, true, []⟩, ⟨10, true, []⟩, ⟨11, true, []⟩, ⟨12, true, []⟩, ⟨15, true, []⟩, ⟨16, true, []⟩, ⟨17, true, []⟩, ⟨18, true, []⟩, ⟨19, true, []⟩, ⟨20, true, []⟩, ⟨21, true, []⟩, ⟨22, true, []⟩, ⟨23, true, []⟩, ⟨13, false, [1, 3, 16, 18, 20, 22]⟩, ⟨14, true, []⟩, ⟨24, false, [1, 3, 14]⟩, ⟨25, false, []⟩, ⟨26, true, []⟩] (by kernel_rfl) (by kernel_rfl) ?_
        have hm00 := Mod.drew [] x
        obtain ⟨y, hxx⟩ : ∃ z, z = x.drew := ⟨_, rfl⟩
        rw [← hxx] at hm00 ⊢
        clear hxx
        have hm01 := hm0.ext hm00
        have b1 := hb.ext hm01
        have HF1 := HFr.ext hm01
        have c0 := Blk.cell' b1 (i := 0) rfl
        have c3 := Blk.cell' b1 (i := 3) rfl
        have c4 := Blk.cell' b1 (i := 4) rfl
        have HT := HF1.r.take rfl (k := dn) (by omega) (by omega)
        iterate 22 (refine wpT_n rfl rfl (fun K hK => ?_); go_wp2_with fail)
        refine wpT_callh rfl rfl (fun K hK => ?_)
        go_wp2_with (go_at_call 124; (with_reducible refine (BT _ HT).mono ?_); rintro e w3 ⟨v3, rfl, ho3, hn3, hm3⟩; obtain ⟨ao3, cap3, rfl, _, _⟩ := Ob.nxR (n := g) ho3 HG.out.symm)
        refine ⟨(agains_cons rfl (again_const (fun _ => rfl)) (agains_cons rfl (again_load rfl rfl (hm3.block m b1.lt (by simp)) b1.kinds) (agains_cons rfl (again_const (fun _ => rfl)) (agains_cons rfl (again_load rfl rfl (hm3.block m b1.lt (by simp)) b1.kinds) (agains_cons rfl (again_const (fun _ => rfl)) (agains_cons rfl (again_load rfl rfl (hm3.block m b1.lt (by simp)) b1.kinds) agains_nil)))))), ?_⟩
        refine wpT_n rfl rfl (fun K hK => ?_)
        go_wp2_with fail
        have b3 := b1.ext hm3
        have HD := (HF1.ext hm3).r.dropW rfl (p := dn) (by omega) hc1
        rw [if_neg hct] at HD
        refine wpT_callh rfl rfl (fun K hK => ?_)
        go_wp2_with (go_at_call 124; (with_reducible refine (BD _ HD).mono ?_); rintro e w4 ⟨v4, rfl, ho4, hn4, hm4⟩)
        refine ⟨(agains_cons rfl (again_const (fun _ => rfl)) (agains_cons rfl (again_load rfl rfl (hm4.block m b3.lt (by simp)) b3.kinds) (agains_cons rfl (again_len rfl (by rfl) (by kernel_rfl)) agains_nil))), ?_⟩
        have hm14 := hm3.ext hm4
        have hm04 := hm01.ext hm14
        have b4 := b3.ext hm4
        have hP4 := hP.ext hm04
        have hR4 := Rgr.ext hR hm04
        have hbB : D ≠ [] → ∀ k ∈ blks v4, k < w4.heap.size ∧ k ∉ P :: M := fun _ k hk => ⟨Ow.lt ho4 k hk, fun hh => by have h1 := hn4 k hk; have h2 := hP.lt1 k hh; have h3 := (hm01.ext hm3).size; omega⟩
        have z4 := hm04.size
        refine wpT_call rfl rfl (fun K hK => ?_)
        go_wp2_with (go_at_call 123; (with_reducible refine (WR _ _ hP4 hR4 ho4.bs hbB).mono ?_); rintro e w5 ⟨rfl, L1, hP5, hm5, hL1⟩)
        have hL1' : ∀ k ∈ L1, k ∈ M ∨ w.heap.size ≤ k := fun k hk => (hL1 k hk).imp id (fun h => by omega)
        have z5 := hm5.size
        have hF5 : Frs w5 base (.slice ao Kf.length cap) Kf := ((HFr.ext hm04).modB hm5 hKM)
        have b5 : Blk w5 m 69 _ := b4.mod hm5 hmM
        have hR5 := Rgr.mod hR4 hm5 hhM
        have m5 : Mod (m :: P :: M) w w5 := (hm04.weak (by simp) : Mod (m :: P :: M) w w4).then hm5 (fun g hg => .inl (by simp at hg; simp [hg]))
        refine wpT_n rfl rfl (fun K hK => ?_)
        go_wp2_with fail
        refine wpT_nil ?_
        have c0' := Blk.cell' b5 (i := 0) rfl
        have no : ∀ g, g < w.heap.size → g ∉ P :: M → g ∉ P :: L1 := fun g hg h hh => (List.mem_cons.1 hh).elim (fun e => h (by simp [e])) (fun hh => (hL1' g hh).elim (fun hh => h (by simp [hh])) (fun hh => by omega))
        have nom := no m hb.lt hmM
        go_wp2_with (go_at_call 125; (with_reducible refine (SY _ _ hR5 hP5).mono ?_); rintro e w6 ⟨rfl, L2, hP6, hm6, hL2⟩; have b6 : Blk w6 m 69 _ := b5.mod hm6 nom; have c3' := Blk.cell' b6 (i := 3) rfl)
        have hL2' : ∀ k ∈ L2, k ∈ M ∨ w.heap.size ≤ k := fun k hk => (hL2 k hk).elim (fun hk => hL1' k hk) (fun hk => .inr (by omega))
        have hF6 := hF5.modB hm6 (fun k hk => no k (HFr.ltB k hk).1 (hKM k hk))
        have m6 : Mod (m :: P :: M) w w6 := m5.then hm6 (fun g hg => (List.mem_cons.1 hg).elim (fun e => .inl (by simp [e])) (fun hg => (hL1' g hg).imp (fun h => by simp [h]) id))
        go_ret
        exact ⟨L2, rfl, H.to b6 hF6 hdl, hP6, m6, hL2'⟩
    · rw [if_neg g2]
      have d2 : (e1 == 0) = false := beq_eq_false_iff_ne.2 g2
      dsimp only
      rw [if_neg g2]
      go_enter Tryz.func51, Tryz.ntmps51
      go_wp2_with fail
      refine wp_region_T [⟨0, true, []⟩, ⟨1, true, []⟩, ⟨2, true, []⟩, ⟨3, true, []⟩, ⟨4, true, []⟩, ⟨5, true, []⟩, ⟨6, true, []⟩, ⟨7, true, []⟩, ⟨8, true, []⟩, ⟨9, true, []⟩] (by kernel_rfl) (by kernel_rfl) ?_
      have hm0 := Mod.drew [] w
      obtain ⟨x, hxx⟩ : ∃ z, z = w.drew := ⟨_, rfl⟩
      rw [← hxx] at hm0 ⊢
      clear hxx
      have b0 := hb.ext hm0
      have x3 := Blk.cell' b0 (i := 3) rfl
      have x4 := Blk.cell' b0 (i := 4) rfl
      iterate 10 (refine wpT_n rfl rfl (fun K hK => ?_); go_wp2_with fail)
      refine wpT_nil ?_
      go_wp2_with fail
      refine wp_region_T [⟨0, true, []⟩, ⟨1, true, []⟩, ⟨2, true, []⟩, ⟨3, true, []⟩, ⟨4, true, []⟩, ⟨5, true, []⟩, ⟨6, true, []⟩, ⟨7, true, []⟩, ⟨8, true, []⟩, ⟨9, true, []⟩, ⟨10, true, []⟩, ⟨11, true, []⟩, ⟨12, true, []⟩, ⟨15, true, []⟩, ⟨16, true, []⟩, ⟨17, true, []⟩, ⟨18, true, []⟩, ⟨19, true, []⟩, ⟨20, true, []⟩, ⟨21, true, []⟩, ⟨22, true, []⟩, ⟨23, true, []⟩, ⟨13, false, [1, 3, 16, 18, 20, 22]⟩, ⟨14, true, []⟩, ⟨24, false, [1, 3, 14]⟩, ⟨25, false, []⟩, ⟨26, true, []⟩] (by kernel_rfl) (by kernel_rfl) ?_
      have hm00 := Mod.drew [] x
      obtain ⟨y, hxx⟩ : ∃ z, z = x.drew := ⟨_, rfl⟩
      rw [← hxx] at hm00 ⊢
      clear hxx
      have hm01 := hm0.ext hm00
      have b1 := hb.ext hm01
      have HF1 := HFr.ext hm01
      have c0 := Blk.cell' b1 (i := 0) rfl
      have c3 := Blk.cell' b1 (i := 3) rfl
      have c4 := Blk.cell' b1 (i := 4) rfl
      have HT := HF1.r.take rfl (k := dn) (by omega) (by omega)
      iterate 22 (refine wpT_n rfl rfl (fun K hK => ?_); go_wp2_with fail)
      refine wpT_callh rfl rfl (fun K hK => ?_)
      go_wp2_with (go_at_call 124; (with_reducible refine (BT _ HT).mono ?_); rintro e w3 ⟨v3, rfl, ho3, hn3, hm3⟩; obtain ⟨ao3, cap3, rfl, _, _⟩ := Ob.nxR (n := g) ho3 HG.out.symm)
      refine ⟨(agains_cons rfl (again_const (fun _ => rfl)) (agains_cons rfl (again_load rfl rfl (hm3.block m b1.lt (by simp)) b1.kinds) (agains_cons rfl (again_const (fun _ => rfl)) (agains_cons rfl (again_load rfl rfl (hm3.block m b1.lt (by simp)) b1.kinds) (agains_cons rfl (again_const (fun _ => rfl)) (agains_cons rfl (again_load rfl rfl (hm3.block m b1.lt (by simp)) b1.kinds) agains_nil)))))), ?_⟩
      refine wpT_n rfl rfl (fun K hK => ?_)
      go_wp2_with fail
      have b3 := b1.ext hm3
      have HD := (HF1.ext hm3).r.dropW rfl (p := dn) (by omega) hc1
      rw [if_neg hct] at HD
      refine wpT_callh rfl rfl (fun K hK => ?_)
      go_wp2_with (go_at_call 124; (with_reducible refine (BD _ HD).mono ?_); rintro e w4 ⟨v4, rfl, ho4, hn4, hm4⟩)
      refine ⟨(agains_cons rfl (again_const (fun _ => rfl)) (agains_cons rfl (again_load rfl rfl (hm4.block m b3.lt (by simp)) b3.kinds) (agains_cons rfl (again_len rfl (by rfl) (by kernel_rfl)) agains_nil))), ?_⟩
      have hm14 := hm3.ext hm4
      have hm04 := hm01.ext hm14
      have b4 := b3.ext hm4
      have hP4 := hP.ext hm04
      have hR4 := Rgr.ext hR hm04
      have hbB : D ≠ [] → ∀ k ∈ blks v4, k < w4.heap.size ∧ k ∉ P :: M := fun _ k hk => ⟨Ow.lt ho4 k hk, fun hh => by have h1 := hn4 k hk; have h2 := hP.lt1 k hh; have h3 := (hm01.ext hm3).size; omega⟩
      have z4 := hm04.size
      refine wpT_call rfl rfl (fun K hK => ?_)
      go_wp2_with (go_at_call 123; (with_reducible refine (WR _ _ hP4 hR4 ho4.bs hbB).mono ?_); rintro e w5 ⟨rfl, L1, hP5, hm5, hL1⟩)
      have hL1' : ∀ k ∈ L1, k ∈ M ∨ w.heap.size ≤ k := fun k hk => (hL1 k hk).imp id (fun h => by omega)
      have z5 := hm5.size
      have hF5 : Frs w5 base (.slice ao Kf.length cap) Kf := ((HFr.ext hm04).modB hm5 hKM)
      have b5 : Blk w5 m 69 _ := b4.mod hm5 hmM
      have hR5 := Rgr.mod hR4 hm5 hhM
      have m5 : Mod (m :: P :: M) w w5 := (hm04.weak (by simp) : Mod (m :: P :: M) w w4).then hm5 (fun g hg => .inl (by simp at hg; simp [hg]))
      refine wpT_n rfl rfl (fun K hK => ?_)
      go_wp2_with fail
      refine wpT_nil ?_
      go_wp2_with fail
      go_ret
      exact ⟨L1, rfl, H.to b5 hF5 hdl, hP5, m5, hL1'⟩
end Go.Proofs.YtfepggdljhiemaaGreatDoor

/-! WalPlays: both logs side by side. -/
namespace Go.Proofs.YtfepggdljhiemaaGreatDoor
open Go.RowKit Gw

/-- the cells of the law's world -/
def wcC (r p h l m : Nat) : List Value := [.pointer (some ⟨r, 0, none⟩), .pointer (some ⟨p, 0, none⟩), .pointer (some ⟨h, 0, none⟩), .pointer (some ⟨l, 0, none⟩), .pointer (some ⟨m, 0, none⟩)]
section
variable {W w w' : World} {p q P Q : Nat} {v u v' u' : Pv} {L M L' M' G : List Nat} {l r h c : Nat} {bw bw' : Value} {s s' : Ls} {O : List (Nat × TypeId × List Value)}
theorem Wg.dt2 (H : Wg W w p q P Q v u L M l r h c bw s O) (h1 : Pd w' p q v' L') (h2 : Mod (p :: L) w w') (h3 : ∀ k ∈ L', k ∈ L ∨ w.heap.size ≤ k) : Wg W w' p q P Q v' u L' M l r h c bw s O := by
  refine ⟨H.B.dt1 h1 h2 h3, H.o.mod h2 (fun k hk => (H.a k hk).2.1), fun k hk => ⟨(H.a k hk).1, fun hh => ?_, (H.a k hk).2.2⟩, H.nl⟩
  rcases List.mem_cons.1 hh with e | hh
  · exact (H.a k hk).2.1 (by simp [e])
  · rcases h3 k hh with h4 | h4
    · exact (H.a k hk).2.1 (by simp [h4])
    · have := Ow.lt H.o k hk; omega
theorem Wg.rt2 (H : Wg W w p q P Q v u L M l r h c bw s O) (h1 : Pr w' P Q u' M') (h2 : Mod (P :: M) w w') (h3 : ∀ k ∈ M', k ∈ M ∨ w.heap.size ≤ k) : Wg W w' p q P Q v u' L M' l r h c bw s O := by
  refine ⟨H.B.rt1 h1 h2 h3, H.o.mod h2 (fun k hk => (H.a k hk).2.2), fun k hk => ⟨(H.a k hk).1, (H.a k hk).2.1, fun hh => ?_⟩, H.nl⟩
  rcases List.mem_cons.1 hh with e | hh
  · exact (H.a k hk).2.2 (by simp [e])
  · rcases h3 k hh with h4 | h4
    · exact (H.a k hk).2.2 (by simp [h4])
    · have := Ow.lt H.o k hk; omega
/-- the first of the law's own blocks has turned, and blocks that none of it reads -/
theorem Wg.setO {m : Nat} {t : TypeId} {cs cs' : List Value} (H : Wg W w p q P Q v u L M l r h c bw s ((m, t, cs) :: O)) (hm : Mod (m :: G) w w') (hG : ∀ k ∈ G, W.heap.size ≤ k ∧ k ∉ p :: L ∧ k ∉ P :: M ∧ k ∉ blks bw ∧ ∀ y ∈ wO l r h p P c bw s ++ O, y.1 ≠ k) (hne : ∀ y ∈ wO l r h p P c bw s ++ O, y.1 ≠ m) (hB : Blk w' m t cs') : Wg W w' p q P Q v u L M l r h c bw s ((m, t, cs') :: O) := by
  have hmO := H.B.O (m, t, cs) (by simp)
  have hD : ∀ k ∈ p :: L, k ∉ m :: G := fun k hk hh => (List.mem_cons.1 hh).elim (fun e => hmO.2.1 (e ▸ hk)) (fun hh => (hG k hh).2.1 hk)
  have hE : ∀ k ∈ P :: M, k ∉ m :: G := fun k hk hh => (List.mem_cons.1 hh).elim (fun e => hmO.2.2.1 (e ▸ hk)) (fun hh => (hG k hh).2.2.1 hk)
  have hW : ∀ k ∈ m :: G, W.heap.size ≤ k := fun k hk => (List.mem_cons.1 hk).elim (fun e => e ▸ hmO.1) (fun hk => (hG k hk).1)
  refine ⟨⟨H.B.D.keep0 hm hD, H.B.E.keep1 hm hE, H.B.ap, fun y hy => ?_, H.B.m.fresh hm hW, H.B.dn, H.B.rn⟩, H.o.mod hm (fun k hk hh => ?_), H.a, fun y hy => ?_⟩
  · have out : ∀ y ∈ wO l r h p P c bw s ++ O, y.1 ∉ m :: G := fun y hy hh => (List.mem_cons.1 hh).elim (hne y hy) (fun hh => (hG _ hh).2.2.2.2 y hy rfl)
    have old : ∀ y ∈ wO l r h p P c bw s ++ O, W.heap.size ≤ y.1 ∧ y.1 ∉ p :: L ∧ y.1 ∉ P :: M ∧ Blk w' y.1 y.2.1 y.2.2 := fun y hy => by
      have h1 := H.B.O y (by
        rcases List.mem_append.1 hy with hy | hy
        · exact List.mem_append_left _ hy
        · exact List.mem_append_right _ (List.mem_cons_of_mem _ hy))
      exact ⟨h1.1, h1.2.1, h1.2.2.1, h1.2.2.2.mod hm (out y hy)⟩
    rcases List.mem_append.1 hy with hy | hy
    · exact old y (List.mem_append_left _ hy)
    · rcases List.mem_cons.1 hy with e | hy
      · subst e; exact ⟨hmO.1, hmO.2.1, hmO.2.2.1, hB⟩
      · exact old y (List.mem_append_right _ hy)
  · rcases List.mem_cons.1 hh with e | hh
    · exact Ow.ne H.o hmO.2.2.2 (Ne.symm (H.nl _ List.mem_cons_self).2) (e ▸ hk)
    · exact (hG k hh).2.2.2.1 hk
  · rcases List.mem_cons.1 hy with e | hy
    · subst e; exact H.nl (m, t, cs) List.mem_cons_self
    · exact H.nl y (List.mem_cons_of_mem _ hy)
/-- the order of the law's own blocks is nothing -/
theorem Wg.perm {O2 : List (Nat × TypeId × List Value)} (H : Wg W w p q P Q v u L M l r h c bw s O) (hO : ∀ y ∈ O2, y ∈ O) : Wg W w p q P Q v u L M l r h c bw s O2 :=
  ⟨⟨H.B.D, H.B.E, H.B.ap, fun y hy => H.B.O y ((List.mem_append.1 hy).elim (fun h => List.mem_append_left _ h) (fun h => List.mem_append_right _ (hO y h))), H.B.m, H.B.dn, H.B.rn⟩, H.o, H.a, fun y hy => H.nl y (hO y hy)⟩
/-- another log is made -/
theorem Wg.newL (H : Wg W w p q P Q v u L M l r h c bw s O) (e f : Nat) (hc : 1 ≤ c) (hc2 : c ≤ 1000) :
    Calls Tryz.prog 6 #[.pointer (some ⟨r, 0, none⟩), .int .u64 (e : Nat), .int .u64 (f : Nat)] w fun en w' => ∃ l', en = .returned (.tuple #[.pointer (some ⟨l', 0, none⟩), .int .i64 0]) ∧ Wg W w' p q P Q v u L M l' r h c (.slice none 0 0) ⟨[], 0, f, f, e⟩ O ∧ Mod [] w w' ∧ w.heap.size ≤ l' := by
  refine (lnew_yes r p c e f w H.rg hc hc2).mono fun en w' hh => ?_
  obtain ⟨l', e1, e2, e3, e4⟩ := hh
  have h2 := H.B.new e4 e3 e2.b
  refine ⟨l', e1, ⟨⟨h2.D, h2.E, h2.ap, fun y hy => h2.O y ?_, h2.m, h2.dn, h2.rn⟩, e2.o, fun k hk => by simp [blks] at hk, fun y hy => ⟨fun e5 => ?_, (H.nl y hy).2⟩⟩, e4, e3⟩
  · rcases List.mem_append.1 hy with hy | hy
    · rcases List.mem_cons.1 hy with e | hy
      · exact e ▸ List.mem_cons_self
      · exact List.mem_cons_of_mem _ (List.mem_append_left _ (List.mem_cons_of_mem _ hy))
    · exact List.mem_cons_of_mem _ (List.mem_append_right _ hy)
  · have := (H.B.O y (List.mem_append_right _ hy)).2.2.2.lt
    omega
end
/-- both logs, the law's world, blocks of the law's own -/
structure Wq (W w : World) (p q P Q : Nat) (v u : Pv) (L M : List Nat) (l r h c : Nat) (bw : Value) (s : Ls) (x m : Nat) (fv : Value) (Kd : List Fi) (e f dn : Nat) (ls : List (List UInt8)) (O : List (Nat × TypeId × List Value)) : Prop where
  G : Wg W w p q P Q v u L M l r h c bw s ((m, 69, dcC h e f fv dn) :: (x, 54, wcC r p h l m) :: O)
  F : Frs w W.heap.size fv Kd
  a : ∀ k ∈ dB fv Kd, k ∉ p :: L ∧ k ∉ P :: M ∧ k ∉ blks bw
  o : ∀ y ∈ O, y.2.1 ≠ 97 ∧ y.2.1 ≠ 69 ∧ y.2.1 ≠ 54
  kf : Kd.map Fi.f = fvs e f ls
  l32 : ∀ z ∈ ls, z.length ≤ 32
  el : e < 18446744073709551616
  fl : f + ls.length < 18446744073709551616
  nl : ls.length ≤ 10000
  dl : dn ≤ ls.length
section
variable {W w w' : World} {p q P Q : Nat} {v u v' u' : Pv} {L M L' M' G : List Nat} {l r h c : Nat} {bw bw' : Value} {s s' : Ls} {x m : Nat} {fv fv' : Value} {Kd Kd' : List Fi} {e f dn e' f' dn' : Nat} {ls ls' : List (List UInt8)} {O : List (Nat × TypeId × List Value)}
theorem Wq.bm (H : Wq W w p q P Q v u L M l r h c bw s x m fv Kd e f dn ls O) : Blk w m 69 (dcC h e f fv dn) := H.G.B.blk 3 rfl
theorem Wq.bx (H : Wq W w p q P Q v u L M l r h c bw s x m fv Kd e f dn ls O) : Blk w x 54 (wcC r p h l m) := H.G.B.blk 4 rfl
theorem Wq.dq (H : Wq W w p q P Q v u L M l r h c bw s x m fv Kd e f dn ls O) : Dq w m h W.heap.size fv Kd e f dn ls := ⟨⟨H.bm, H.F⟩, H.kf, H.l32, H.el, H.fl, H.nl, H.dl⟩
theorem Wq.mk2 (g : Wg W w p q P Q v u L M l r h c bw s ((m, 69, dcC h e f fv dn) :: (x, 54, wcC r p h l m) :: O)) (D : Dq w m h W.heap.size fv Kd e f dn ls) (a : ∀ k ∈ dB fv Kd, k ∉ p :: L ∧ k ∉ P :: M ∧ k ∉ blks bw) (o : ∀ y ∈ O, y.2.1 ≠ 97 ∧ y.2.1 ≠ 69 ∧ y.2.1 ≠ 54) : Wq W w p q P Q v u L M l r h c bw s x m fv Kd e f dn ls O := ⟨g, D.g.fr, a, o, D.kf, D.l32, D.el, D.fl, D.nl, D.dl⟩
theorem dB_ne {base g : Nat} {t : TypeId} {cs : List Value} (hF : Frs w base fv Kd) (hb : Blk w g t cs) (h1 : 5 ≠ t) (h2 : 97 ≠ t) : g ∉ dB fv Kd := fun hk => by
  rcases List.mem_append.1 hk with hk | hk
  · exact Ow.ne hF.ow hb h2 hk
  · obtain ⟨y, hy, hk⟩ := List.mem_flatMap.1 hk
    exact Ow.ne (hF.ob hy).1 hb h1 hk
theorem Wq.keep (H : Wq W w p q P Q v u L M l r h c bw s x m fv Kd e f dn ls O) (hm : Mod G w w') (hG : ∀ k ∈ G, w.heap.size ≤ k) : Wq W w' p q P Q v u L M l r h c bw s x m fv Kd e f dn ls O :=
  ⟨H.G.keep hm hG, H.F.modB hm (fun k hk hh => by have := (H.F.ltB k hk).1; have := hG k hh; omega), H.a, H.o, H.kf, H.l32, H.el, H.fl, H.nl, H.dl⟩
theorem Wq.ext (H : Wq W w p q P Q v u L M l r h c bw s x m fv Kd e f dn ls O) (hm : Mod [] w w') : Wq W w' p q P Q v u L M l r h c bw s x m fv Kd e f dn ls O := H.keep hm (by simp)
theorem Wq.ldB (H : Wq W w p q P Q v u L M l r h c bw s x m fv Kd e f dn ls O) : l ∉ dB fv Kd := dB_ne H.F H.G.lg.b (by decide) (by decide)
/-- the program's device has turned -/
theorem Wq.dt (H : Wq W w p q P Q v u L M l r h c bw s x m fv Kd e f dn ls O) (hq : PdP w p q v' L w') : ∃ L2, Wq W w' p q P Q v' u L2 M l r h c bw s x m fv Kd e f dn ls O ∧ Mod (p :: L) w w' := by
  obtain ⟨L2, h1, h2, h3⟩ := hq
  refine ⟨L2, ⟨H.G.dt2 h1 h2 h3, H.F.modB h2 (fun k hk => (H.a k hk).1), fun k hk => ⟨fun hh => ?_, (H.a k hk).2⟩, H.o, H.kf, H.l32, H.el, H.fl, H.nl, H.dl⟩, h2⟩
  rcases List.mem_cons.1 hh with e | hh
  · exact (H.a k hk).1 (by simp [e])
  · rcases h3 k hh with h4 | h4
    · exact (H.a k hk).1 (by simp [h4])
    · have := (H.F.ltB k hk).1; omega
theorem Wq.rd (H : Wq W w p q P Q v u L M l r h c bw s x m fv Kd e f dn ls O) (hP : Pd w' p q v' L) (hm : Mod [p] w w') : Wq W w' p q P Q v' u L M l r h c bw s x m fv Kd e f dn ls O :=
  ⟨H.G.rd hP hm, H.F.modB hm (fun k hk hh => (H.a k hk).1 (by simp at hh; simp [hh])), H.a, H.o, H.kf, H.l32, H.el, H.fl, H.nl, H.dl⟩
/-- the document's device has turned -/
theorem Wq.rt (H : Wq W w p q P Q v u L M l r h c bw s x m fv Kd e f dn ls O) (hq : PrP w P Q u' M w') : ∃ M2, Wq W w' p q P Q v u' L M2 l r h c bw s x m fv Kd e f dn ls O ∧ Mod (P :: M) w w' := by
  obtain ⟨M2, h1, h2, h3⟩ := hq
  refine ⟨M2, ⟨H.G.rt2 h1 h2 h3, H.F.modB h2 (fun k hk => (H.a k hk).2.1), fun k hk => ⟨(H.a k hk).1, fun hh => ?_, (H.a k hk).2.2⟩, H.o, H.kf, H.l32, H.el, H.fl, H.nl, H.dl⟩, h2⟩
  rcases List.mem_cons.1 hh with e | hh
  · exact (H.a k hk).2.1 (by simp [e])
  · rcases h3 k hh with h4 | h4
    · exact (H.a k hk).2.1 (by simp [h4])
    · have := (H.F.ltB k hk).1; omega
theorem Wq.rr (H : Wq W w p q P Q v u L M l r h c bw s x m fv Kd e f dn ls O) (hP : Pr w' P Q u' M) (hm : Mod [P] w w') : Wq W w' p q P Q v u' L M l r h c bw s x m fv Kd e f dn ls O :=
  ⟨H.G.rr hP hm, H.F.modB hm (fun k hk hh => (H.a k hk).2.1 (by simp at hh; simp [hh])), H.a, H.o, H.kf, H.l32, H.el, H.fl, H.nl, H.dl⟩
/-- the program's log has turned -/
theorem Wq.lt (H : Wq W w p q P Q v u L M l r h c bw s x m fv Kd e f dn ls O) (hG : Wg W w' p q P Q v u L M l r h c bw' s' ((m, 69, dcC h e f fv dn) :: (x, 54, wcC r p h l m) :: O)) (hm : Mod (l :: blks bw) w w') (hn : ∀ k ∈ blks bw', k ∈ blks bw ∨ w.heap.size ≤ k) : Wq W w' p q P Q v u L M l r h c bw' s' x m fv Kd e f dn ls O := by
  refine ⟨hG, H.F.modB hm (fun k hk hh => ?_), fun k hk => ⟨(H.a k hk).1, (H.a k hk).2.1, fun hh => ?_⟩, H.o, H.kf, H.l32, H.el, H.fl, H.nl, H.dl⟩
  · rcases List.mem_cons.1 hh with e | hh
    · exact H.ldB (e ▸ hk)
    · exact (H.a k hk).2.2 hh
  · rcases hn k hh with h4 | h4
    · exact (H.a k hk).2.2 h4
    · have := (H.F.ltB k hk).1; omega
/-- the document's log has turned -/
theorem Wq.mt (H : Wq W w p q P Q v u L M l r h c bw s x m fv Kd e f dn ls O) (hm : Mod (m :: blks fv) w w') (D : Dq w' m h W.heap.size fv' Kd' e' f' dn' ls') (hn : ∀ k ∈ dB fv' Kd', k ∈ dB fv Kd ∨ w.heap.size ≤ k) : Wq W w' p q P Q v u L M l r h c bw s x m fv' Kd' e' f' dn' ls' O := by
  have hO : ∀ y ∈ wO l r h p P c bw s ++ (x, 54, wcC r p h l m) :: O, Blk w y.1 y.2.1 y.2.2 ∧ y.2.1 ≠ 97 ∧ y.2.1 ≠ 69 := fun y hy => by
    have hb : Blk w y.1 y.2.1 y.2.2 := (H.G.B.O y (by
      rcases List.mem_append.1 hy with hy | hy
      · exact List.mem_append_left _ hy
      · exact List.mem_append_right _ (List.mem_cons_of_mem _ hy))).2.2.2
    refine ⟨hb, ?_⟩
    rcases List.mem_append.1 hy with hy | hy
    · unfold wO at hy
      rcases List.mem_cons.1 hy with e | hy
      · subst e; exact ⟨(by decide : (89 : TypeId) ≠ 97), (by decide : (89 : TypeId) ≠ 69)⟩
      · rcases List.mem_cons.1 hy with e | hy
        · subst e; exact ⟨(by decide : (142 : TypeId) ≠ 97), (by decide : (142 : TypeId) ≠ 69)⟩
        · rcases List.mem_cons.1 hy with e | hy
          · subst e; exact ⟨(by decide : (64 : TypeId) ≠ 97), (by decide : (64 : TypeId) ≠ 69)⟩
          · exact nomatch hy
    · rcases List.mem_cons.1 hy with e | hy
      · subst e; exact ⟨(by decide : (54 : TypeId) ≠ 97), (by decide : (54 : TypeId) ≠ 69)⟩
      · exact ⟨(H.o y hy).1, (H.o y hy).2.1⟩
  have g := H.G.setO hm (fun k hk => ⟨(H.F.ltB k (dB_v hk)).2, (H.a k (dB_v hk)).1, (H.a k (dB_v hk)).2.1, (H.a k (dB_v hk)).2.2, fun y hy e => Ow.ne H.F.ow (hO y hy).1 (Ne.symm (hO y hy).2.1) (e ▸ hk)⟩) (fun y hy => Blk.ne (hO y hy).1 H.bm (hO y hy).2.2) D.g.b
  refine Wq.mk2 g D (fun k hk => ?_) H.o
  rcases hn k hk with hk | hk
  · exact H.a k hk
  · exact ⟨fun hh => by have := H.G.B.D.lt0 k hh; omega, fun hh => by have := H.G.B.E.lt1 k hh; omega, fun hh => by have := Ow.lt H.G.o k hh; omega⟩
end
end Go.Proofs.YtfepggdljhiemaaGreatDoor

/-! WalPlays: what both logs answer. -/
namespace Go.Proofs.YtfepggdljhiemaaGreatDoor
open Go.RowKit Gw

/-- the program's log and the document's -/
structure Tie (s : Ls) (e f dn : Nat) (ls : List (List UInt8)) : Prop where
  e : s.e = e
  r : Rw s f ls dn
section
variable {s : Ls} {e f dn : Nat} {ls : List (List UInt8)}
theorem Tie.u (T : Tie s e f dn ls) : s.u = (catB e f ls).length := by rw [← T.e]; exact T.r.u
theorem Tie.fits (T : Tie s e f dn ls) (N : Nat) (n : Int) : dfit (f + ls.length) (catB e f ls).length N n = s.fits N n := by
  unfold dfit Ls.fits
  rw [T.u, T.r.t]
theorem Tie.appE (T : Tie s e f dn ls) (N : Nat) (l : List UInt8) : dappE (f + ls.length) (catB e f ls).length N l.length = s.appE N l := by
  unfold dappE Ls.appE
  rw [T.fits]
theorem Tie.app (T : Tie s e f dn ls) (N : Nat) (l : List UInt8) : Tie (s.app N l) e f dn (if s.appE N l = 0 then ls ++ [l] else ls) :=
  ⟨by rw [← T.e]; unfold Ls.app; split <;> rfl, T.r.app l⟩
theorem Tie.flG (T : Tie s e f dn ls) (c : Nat) (v : Pv) : dflG c v e f dn ls = ((flG c v s).1, (if (flG c v s).2.1.d = s.d then dn else ls.length), (flG c v s).2.2) ∧ Tie (flG c v s).2.1 e f (if (flG c v s).2.1.d = s.d then dn else ls.length) ls := by
  have hd := T.r.d
  have ht := T.r.t
  have hk := T.r.k
  have hg := T.r.g
  have hb := T.r.b
  rw [T.e] at hg hb
  by_cases g1 : dn = ls.length
  · have e0 : Go.Proofs.YtfepggdljhiemaaGreatDoor.flG c v s = (v, s, 0) := by unfold Go.Proofs.YtfepggdljhiemaaGreatDoor.flG; rw [if_pos (by omega)]
    rw [e0]
    dsimp only
    rw [if_pos rfl]
    exact ⟨by unfold dflG; rw [if_pos g1], T⟩
  · have e0 : Go.Proofs.YtfepggdljhiemaaGreatDoor.flG c v s = ((putG 1 c 64 v (s.g : Nat) s.b).1, if (putG 1 c 64 v (s.g : Nat) s.b).2 = 0 then s.settle else s, (putG 1 c 64 v (s.g : Nat) s.b).2) := by unfold Go.Proofs.YtfepggdljhiemaaGreatDoor.flG; rw [if_neg (by omega)]
    rw [e0]
    unfold dflG
    rw [if_neg g1, ← hg, ← hb]
    dsimp only
    by_cases g2 : (putG 1 c 64 v (s.g : Nat) s.b).2 = 0
    · rw [if_pos g2, if_pos g2]
      have e1 : ¬ s.settle.d = s.d := by show ¬ s.t = s.d; omega
      rw [if_neg e1]
      exact ⟨rfl, T.e, T.r.settle⟩
    · rw [if_neg g2, if_neg g2, if_pos rfl]
      exact ⟨rfl, T⟩
theorem Tie.reset (T : Tie s e f dn ls) (e' : Nat) : Tie (s.reset e') e' (f + ls.length) 0 [] := ⟨rfl, by rw [← T.r.t]; exact T.r.reset e'⟩
theorem Tie.new (e f : Nat) : Tie ⟨[], 0, f, f, e⟩ e f 0 [] := ⟨rfl, Rw.new f e⟩
theorem catB_lenW (e : Nat) : ∀ (f : Nat) (ls : List (List UInt8)), ls.length ≤ (catB e f ls).length
  | _, [] => Nat.zero_le _
  | f, l :: ls => by
    show ls.length + 1 ≤ (frame e (f + 1) l ++ catB e (f + 1) ls).length
    rw [List.length_append, frame_len]
    have := catB_lenW e (f + 1) ls
    omega
end
section
variable {W w w' : World} {p q P Q : Nat} {v u v' u' : Pv} {L M L' M' G : List Nat} {l r h c : Nat} {bw bw' : Value} {s s' : Ls} {x m : Nat} {fv fv' : Value} {Kd Kd' : List Fi} {e f dn e' f' dn' : Nat} {ls ls' : List (List UInt8)} {O : List (Nat × TypeId × List Value)}
/-- Append of the program -/
def QAp (W w : World) (p q P Q : Nat) (v u : Pv) (L M : List Nat) (l r h c : Nat) (bw : Value) (s : Ls) (x m : Nat) (fv : Value) (Kd : List Fi) (e f dn : Nat) (ls : List (List UInt8)) (O : List (Nat × TypeId × List Value)) (body : List UInt8) (en : Ending) (w' : World) : Prop :=
  en = .returned (.tuple #[.int .u64 (s.appN (c * 64) body : Nat), .int .i64 (s.appE (c * 64) body)]) ∧ ∃ bw', Wq W w' p q P Q v u L M l r h c bw' (s.app (c * 64) body) x m fv Kd e f dn ls O ∧ Mod (l :: blks bw) w w' ∧ ∀ k ∈ blks bw', k ∈ blks bw ∨ w.heap.size ≤ k
theorem Wq.appP (H : Wq W w p q P Q v u L M l r h c bw s x m fv Kd e f dn ls O) (hT : TabC W) {body : List UInt8} {xv : Value} (hv : Bs w xv body) (hok : LsOk s (c * 64)) (hc : c ≤ 1000) (hl : body.length ≤ 140737488355328) :
    Calls Tryz.prog 8 #[.pointer (some ⟨l, 0, none⟩), xv] w (QAp W w p q P Q v u L M l r h c bw s x m fv Kd e f dn ls O body) := by
  refine (H.G.append hT hv hok hc hl).mono fun en w' hh => ?_
  obtain ⟨e1, bw', e2, e3, e4⟩ := hh
  exact ⟨e1, bw', H.lt e2 e3 e4, e3, e4⟩
/-- Append of the document -/
def QAd (W w : World) (p q P Q : Nat) (v u : Pv) (L M : List Nat) (l r h c : Nat) (bw : Value) (s : Ls) (x m : Nat) (fv : Value) (Kd : List Fi) (e f dn : Nat) (ls : List (List UInt8)) (O : List (Nat × TypeId × List Value)) (body : List UInt8) (s0 : Ls) (en : Ending) (w' : World) : Prop :=
  en = .returned (.tuple #[.int .u64 (s0.appN (c * 64) body : Nat), .int .i64 (s0.appE (c * 64) body)]) ∧ ∃ fv' Kd', Wq W w' p q P Q v u L M l r h c bw s x m fv' Kd' e f dn (if s0.appE (c * 64) body = 0 then ls ++ [body] else ls) O ∧ Mod (m :: blks fv) w w' ∧ ∀ k ∈ dB fv' Kd', k ∈ dB fv Kd ∨ w.heap.size ≤ k
theorem Wq.appD {s0 : Ls} (H : Wq W w p q P Q v u L M l r h c bw s x m fv Kd e f dn ls O) (T : Tie s0 e f dn ls) {body : List UInt8} {xv : Value} (hv : Bs w xv body) (hz : u.m.sz = 64) (hc : c ≤ 1000) (hn : (catB e f ls).length ≤ 1000) (hl : body.length ≤ 1048576) :
    Calls Tryz.prog 50 #[.pointer (some ⟨m, 0, none⟩), xv] w (QAd W w p q P Q v u L M l r h c bw s x m fv Kd e f dn ls O body s0) := by
  refine (dappend_any m h W.heap.size P Q c u M fv Kd e f dn ls body xv w H.dq H.G.B.m.size H.G.rh H.G.B.E hz hc (by omega) hv hl (by have := catB_lenW e f ls; omega)).mono fun en w' hh => ?_
  obtain ⟨e1, fv', K', e2, e3, e4⟩ := hh
  rw [T.appE] at e1 e2
  refine ⟨?_, fv', K', H.mt e3 e2 e4, e3, e4⟩
  rw [e1, ← T.r.t]
  rfl
/-- Flush of the program -/
def QFp (W w : World) (p q P Q : Nat) (u : Pv) (L M : List Nat) (l r h c : Nat) (x m : Nat) (fv : Value) (Kd : List Fi) (e f dn : Nat) (ls : List (List UInt8)) (O : List (Nat × TypeId × List Value)) (R : Pv × Ls × Int) (en : Ending) (w' : World) : Prop :=
  en = .returned (.int .i64 R.2.2) ∧ ∃ bw' L', Wq W w' p q P Q R.1 u L' M l r h c bw' R.2.1 x m fv Kd e f dn ls O ∧ Mod (l :: p :: L) w w'
theorem Wq.flushP (H : Wq W w p q P Q v u L M l r h c bw s x m fv Kd e f dn ls O) (hok : LsOk s (c * 64)) (hc : c ≤ 1000) (hz : v.m.sz = 64) (hd : v.m.dur.length = c + 1) (hn : v.n ≤ 500000) (hr : v.m.row.length ≤ 500000) :
    Calls Tryz.prog 11 #[.pointer (some ⟨l, 0, none⟩)] w (QFp W w p q P Q u L M l r h c x m fv Kd e f dn ls O (flG c v s)) := by
  have HG := H.G
  refine (flush_any l r p q c bw s v L w HG.lg HG.rg HG.B.D HG.rd0 HG.ld0 (fun k hk => (HG.a k hk).2.1) hok hc hz (by omega) hn hr).mono fun en w' hh => ?_
  obtain ⟨bw', L', e1, e2, e3, e4, e5, e6⟩ := hh
  have hl := HG.B.O (l, 89, lgC bw s r) (by simp [wO])
  have hL2 : ∀ k ∈ p :: L', k ∈ p :: L ∨ w.heap.size ≤ k := fun k hk => (List.mem_cons.1 hk).elim (fun e => .inl (by simp [e])) (fun h1 => (e5 k h1).imp (fun h2 => List.mem_cons_of_mem _ h2) id)
  have hbw : ∀ k ∈ blks bw', k ∈ blks bw := fun k hk => by
    rcases e6 with e | e
    · exact e ▸ hk
    · subst e; simp [blks] at hk
  have far : ∀ k, k < w.heap.size → k ∉ p :: L → k ∉ p :: L' := fun k hk h0 hh => (hL2 k hh).elim h0 (fun h1 => by omega)
  have hB : Bw W w' p q P Q (flG c v s).1 u L' M (wO l r h p P c bw' (flG c v s).2.1 ++ (m, 69, dcC h e f fv dn) :: (x, 54, wcC r p h l m) :: O) := by
    refine ⟨e3, HG.B.E.keep1 e4 (fun k hk hh => ?_), fun k hk hh => ?_, fun y hy => ?_, HG.B.m.fresh e4 (fun k hk => (List.mem_cons.1 hk).elim (fun e => e ▸ hl.1) (fun hk => HG.B.dn k hk)), fun k hk => (hL2 k hk).elim (HG.B.dn k) (fun h1 => by have := HG.B.m.size; omega), HG.B.rn⟩
    · rcases List.mem_cons.1 hh with e | hh
      · exact hl.2.2.1 (e ▸ hk)
      · exact HG.B.ap k hh hk
    · rcases hL2 k hk with h1 | h1
      · exact HG.B.ap k h1 hh
      · have := HG.B.E.lt1 k hh; omega
    · have out : ∀ y ∈ wO l r h p P c bw s ++ (m, 69, dcC h e f fv dn) :: (x, 54, wcC r p h l m) :: O, y.1 ∉ p :: L' := fun y hy => far _ (HG.B.O y hy).2.2.2.lt (HG.B.O y hy).2.1
      rcases List.mem_cons.1 hy with e | hy
      · subst e
        exact ⟨hl.1, out (l, 89, lgC bw s r) (by simp [wO]), hl.2.2.1, e2.b⟩
      · have hy2 := HG.B.O y (List.mem_cons_of_mem _ hy)
        have hne : y.1 ≠ l := by
          rcases List.mem_cons.1 hy with e | hy
          · subst e; exact Blk.ne hy2.2.2.2 hl.2.2.2 (show (142 : TypeId) ≠ 89 by decide)
          · rcases List.mem_cons.1 hy with e | hy
            · subst e; exact Blk.ne hy2.2.2.2 hl.2.2.2 (show (64 : TypeId) ≠ 89 by decide)
            · exact (HG.nl y hy).1
        exact ⟨hy2.1, out y (List.mem_cons_of_mem _ hy), hy2.2.2.1, hy2.2.2.2.mod e4 (fun hh => (List.mem_cons.1 hh).elim hne hy2.2.1)⟩
  refine ⟨e1, bw', L', ⟨⟨hB, e2.o, fun k hk => ⟨(HG.a k (hbw k hk)).1, far k (Ow.lt HG.o k (hbw k hk)) (HG.a k (hbw k hk)).2.1, (HG.a k (hbw k hk)).2.2⟩, HG.nl⟩, H.F.modB e4 (fun k hk hh => (List.mem_cons.1 hh).elim (fun e => H.ldB (e ▸ hk)) (H.a k hk).1), fun k hk => ⟨far k (H.F.ltB k hk).1 (H.a k hk).1, (H.a k hk).2.1, fun hh => (H.a k hk).2.2 (hbw k hh)⟩, H.o, H.kf, H.l32, H.el, H.fl, H.nl, H.dl⟩, e4⟩
/-- Flush of the document -/
def QFd (W w : World) (p q P Q : Nat) (v : Pv) (L M : List Nat) (l r h c : Nat) (bw : Value) (s : Ls) (x m : Nat) (fv : Value) (Kd : List Fi) (e f : Nat) (ls : List (List UInt8)) (O : List (Nat × TypeId × List Value)) (R : Pv × Nat × Int) (en : Ending) (w' : World) : Prop :=
  en = .returned (.int .i64 R.2.2) ∧ ∃ M', Wq W w' p q P Q v R.1 L M' l r h c bw s x m fv Kd e f R.2.1 ls O ∧ Mod (m :: P :: M) w w'
theorem Wq.flushD (H : Wq W w p q P Q v u L M l r h c bw s x m fv Kd e f dn ls O) (hc : c ≤ 1000) (hz : u.m.sz = 64) (hd : u.m.dur.length = c + 1) (hn : u.n ≤ 500000) (hr : u.m.row.length ≤ 500000) (hcl : (catB e f ls).length ≤ 1000000) :
    Calls Tryz.prog 51 #[.pointer (some ⟨m, 0, none⟩)] w (QFd W w p q P Q v L M l r h c bw s x m fv Kd e f ls O (dflG c u e f dn ls)) := by
  have HG := H.G
  have hm := HG.B.O (m, 69, dcC h e f fv dn) (by simp)
  refine (dflush_any m h W.heap.size P Q c u M fv Kd e f dn ls w H.dq HG.rh HG.B.E (HG.B.outE (t := 64) (cs := rhC P c) 2 rfl) hm.2.2.1 (fun k hk => (H.a k hk).2.1) hc hz (by omega) hn hr hcl).mono fun en w' hh => ?_
  obtain ⟨M', e1, e2, e3, e4, e5⟩ := hh
  have hM2 : ∀ k ∈ P :: M', k ∈ P :: M ∨ w.heap.size ≤ k := fun k hk => (List.mem_cons.1 hk).elim (fun e => .inl (by simp [e])) (fun h1 => (e5 k h1).imp (fun h2 => List.mem_cons_of_mem _ h2) id)
  have far : ∀ k, k < w.heap.size → k ∉ P :: M → k ∉ P :: M' := fun k hk h0 hh => (hM2 k hh).elim h0 (fun h1 => by omega)
  have old : ∀ y ∈ wO l r h p P c bw s ++ (x, 54, wcC r p h l m) :: O, W.heap.size ≤ y.1 ∧ y.1 ∉ p :: L ∧ y.1 ∉ P :: M' ∧ Blk w' y.1 y.2.1 y.2.2 := fun y hy => by
    have hyO : y ∈ wO l r h p P c bw s ++ (m, 69, dcC h e f fv dn) :: (x, 54, wcC r p h l m) :: O := by
      rcases List.mem_append.1 hy with hy | hy
      · exact List.mem_append_left _ hy
      · exact List.mem_append_right _ (List.mem_cons_of_mem _ hy)
    have hb := HG.B.O y hyO
    have hne : y.2.1 ≠ 69 := by
      rcases List.mem_append.1 hy with hy | hy
      · unfold wO at hy
        rcases List.mem_cons.1 hy with e | hy
        · subst e; exact (by decide : (89 : TypeId) ≠ 69)
        · rcases List.mem_cons.1 hy with e | hy
          · subst e; exact (by decide : (142 : TypeId) ≠ 69)
          · rcases List.mem_cons.1 hy with e | hy
            · subst e; exact (by decide : (64 : TypeId) ≠ 69)
            · exact nomatch hy
      · rcases List.mem_cons.1 hy with e | hy
        · subst e; exact (by decide : (54 : TypeId) ≠ 69)
        · exact (H.o y hy).2.1
    refine ⟨hb.1, hb.2.1, far _ hb.2.2.2.lt hb.2.2.1, hb.2.2.2.mod e4 (fun hh => ?_)⟩
    rcases List.mem_cons.1 hh with e | hh
    · exact Blk.ne hb.2.2.2 hm.2.2.2 hne e
    · exact hb.2.2.1 hh
  have hB : Bw W w' p q P Q v (dflG c u e f dn ls).1 L M' (wO l r h p P c bw s ++ (m, 69, dcC h e f fv (dflG c u e f dn ls).2.1) :: (x, 54, wcC r p h l m) :: O) := by
    refine ⟨HG.B.D.keep0 e4 (fun k hk hh => ?_), e3, fun k hk hh => ?_, fun y hy => ?_, HG.B.m.fresh e4 (fun k hk => (List.mem_cons.1 hk).elim (fun e => e ▸ hm.1) (fun hk => HG.B.rn k hk)), HG.B.dn, fun k hk => (hM2 k hk).elim (HG.B.rn k) (fun h1 => by have := HG.B.m.size; omega)⟩
    · rcases List.mem_cons.1 hh with e | hh
      · exact hm.2.1 (e ▸ hk)
      · exact HG.B.ap k hk hh
    · exact far k (HG.B.D.lt0 k hk) (HG.B.ap k hk) hh
    · rcases List.mem_append.1 hy with hy | hy
      · exact old y (List.mem_append_left _ hy)
      · rcases List.mem_cons.1 hy with e | hy
        · subst e
          exact ⟨hm.1, hm.2.1, far m hm.2.2.2.lt hm.2.2.1, e2.g.b⟩
        · exact old y (List.mem_append_right _ hy)
  have mB : ∀ k ∈ blks bw, k ≠ m := fun k hk e => Ow.ne HG.o hm.2.2.2 (by decide : (5 : TypeId) ≠ 69) (e ▸ hk)
  refine ⟨e1, M', Wq.mk2 ⟨hB, HG.o.mod e4 (fun k hk hh => (List.mem_cons.1 hh).elim (mB k hk) (HG.a k hk).2.2), fun k hk => ⟨(HG.a k hk).1, (HG.a k hk).2.1, far k (Ow.lt HG.o k hk) (HG.a k hk).2.2⟩, fun y hy => ?_⟩ e2 (fun k hk => ⟨(H.a k hk).1, far k (H.F.ltB k hk).1 (H.a k hk).2.1, (H.a k hk).2.2⟩) H.o, e4⟩
  rcases List.mem_cons.1 hy with e | hy
  · subst e; exact HG.nl (m, 69, dcC h e f fv dn) List.mem_cons_self
  · exact HG.nl y (List.mem_cons_of_mem _ hy)
/-- Reset of both -/
theorem Wq.resetP (H : Wq W w p q P Q v u L M l r h c bw s x m fv Kd e f dn ls O) (e' : Nat) (hok : LsOk s (c * 64)) (hc : c ≤ 1000) :
    Calls Tryz.prog 53 #[.pointer (some ⟨l, 0, none⟩), .int .u64 (e' : Nat)] w fun en w' => en = .returned (.int .i64 0) ∧ Wq W w' p q P Q v u L M l r h c (.slice none 0 0) (s.reset e') x m fv Kd e f dn ls O ∧ Mod [l] w w' := by
  refine (H.G.reset e' hok hc).mono fun en w' hh => ?_
  obtain ⟨e1, e2, e3⟩ := hh
  exact ⟨e1, H.lt e2 (e3.weak (fun g hg => .inl (by simp at hg; simp [hg]))) (fun k hk => by simp [blks] at hk), e3⟩
theorem Wq.resetD (H : Wq W w p q P Q v u L M l r h c bw s x m fv Kd e f dn ls O) (e' : Nat) (he : e' < 18446744073709551616) :
    Calls Tryz.prog 52 #[.pointer (some ⟨m, 0, none⟩), .int .u64 (e' : Nat)] w fun en w' => en = .returned (.tuple #[]) ∧ Wq W w' p q P Q v u L M l r h c bw s x m (.slice none 0 0) [] e' (f + ls.length) 0 [] O ∧ Mod [m] w w' := by
  refine (dReset_any m h W.heap.size fv Kd e f dn ls e' w H.dq he).mono fun en w' hh => ?_
  obtain ⟨e1, e2, e3⟩ := hh
  exact ⟨e1, H.mt (e3.weak (fun g hg => .inl (by simp at hg; simp [hg]))) e2 (fun k hk => by simp [dB, blks] at hk), e3⟩
/-- Scan of both -/
def QSp (W w : World) (p q P Q : Nat) (u : Pv) (L M : List Nat) (l r h c : Nat) (bw : Value) (s : Ls) (x m : Nat) (fv : Value) (Kd : List Fi) (e f dn : Nat) (ls : List (List UInt8)) (O : List (Nat × TypeId × List Value)) (R : Pv × Int × List UInt8) (e' f' : Nat) (en : Ending) (w' : World) : Prop :=
  Wq W w' p q P Q R.1 u L M l r h c bw s x m fv Kd e f dn ls O ∧ Mod [p] w w' ∧ ((R.2.1 ≠ 0 ∧ en = .returned (.tuple #[.slice none 0 0, .int .i64 0, .int .i64 R.2.1])) ∨
    (R.2.1 = 0 ∧ ∃ xv K, en = .returned (.tuple #[xv, .int .i64 (endF (rowS R.2.2 e' f' 0) 0 : Nat), .int .i64 0]) ∧ K.map Fi.d = rowS R.2.2 e' f' 0 ∧ Frs w' w.heap.size xv K))
theorem Wq.scanP (H : Wq W w p q P Q v u L M l r h c bw s x m fv Kd e f dn ls O) (e' f' : Nat) (hT : TabC W) (hc : c ≤ 1000) (hc1 : 1 ≤ c) (hz : v.m.sz = 64) (hd : v.m.dur.length = c + 1) (hn : v.n ≤ 500000) (he : e' < 18446744073709551616) (hf : f' < 18446744073709551616) :
    Calls Tryz.prog 12 #[.pointer (some ⟨r, 0, none⟩), .int .u64 (e' : Nat), .int .u64 (f' : Nat)] w (QSp W w p q P Q u L M l r h c bw s x m fv Kd e f dn ls O (rdA 1 c 64 v (0 : Nat) (c * 64 : Nat)) e' f') := by
  refine (H.G.scan e' f' hT hc hc1 hz hd hn he hf).mono fun en w' hh => ?_
  obtain ⟨e1, e2, e3⟩ := hh
  exact ⟨⟨e1, H.F.modB e2 (fun k hk hh => (H.a k hk).1 (by simp at hh; simp [hh])), H.a, H.o, H.kf, H.l32, H.el, H.fl, H.nl, H.dl⟩, e2, e3⟩
def QSd (W w : World) (p q P Q : Nat) (v : Pv) (L M : List Nat) (l r h c : Nat) (bw : Value) (s : Ls) (x m : Nat) (fv : Value) (Kd : List Fi) (e f dn : Nat) (ls : List (List UInt8)) (O : List (Nat × TypeId × List Value)) (R : Pv × Int × List UInt8) (e' f' : Nat) (en : Ending) (w' : World) : Prop :=
  Wq W w' p q P Q v R.1 L M l r h c bw s x m fv Kd e f dn ls O ∧ Mod [P] w w' ∧ ((R.2.1 ≠ 0 ∧ en = .returned (.tuple #[.slice none 0 0, .int .i64 0, .int .i64 R.2.1])) ∨
    (R.2.1 = 0 ∧ ∃ xv K, en = .returned (.tuple #[xv, .int .i64 (endF (rowS R.2.2 e' f' 0) 0 : Nat), .int .i64 0]) ∧ K.map Fi.d = rowS R.2.2 e' f' 0 ∧ Frs w' w.heap.size xv K))
theorem Wq.scanD (H : Wq W w p q P Q v u L M l r h c bw s x m fv Kd e f dn ls O) (e' f' : Nat) (hc : c ≤ 1000) (hz : u.m.sz = 64) (hd : u.m.dur.length = c + 1) (hn : u.n ≤ 500000) (he : e' < 18446744073709551616) (hf : f' < 18446744073709551616) :
    Calls Tryz.prog 76 #[.pointer (some ⟨h, 0, none⟩), .int .u64 (e' : Nat), .int .u64 (f' : Nat)] w (QSd W w p q P Q v L M l r h c bw s x m fv Kd e f dn ls O (rdA 1 c 64 u (0 : Nat) (c * 64 : Nat)) e' f') := by
  refine (dscan_any h P Q c e' f' u M w H.G.rh H.G.B.E hz (by omega) hn hc he hf).mono fun en w' hh => ?_
  obtain ⟨e1, e2, e3⟩ := hh
  exact ⟨H.rr e1 e2, e2, e3⟩
end
end Go.Proofs.YtfepggdljhiemaaGreatDoor

/-! WalPlays: what both scans answer (scans). -/
namespace Go.Proofs.YtfepggdljhiemaaGreatDoor
open Go.RowKit Gw

/-- ApartFrames of one list of frames -/
theorem apartL_any (L1 : List Fi) (v1 : Value) (q base : Nat) (w : World) (hB : Blk w q 40 [v1]) (h1 : Frs w base v1 L1) (hn1 : L1.length ≤ 10000) (ho1 : ∀ x ∈ L1, x.f.l.length ≤ 32) :
    Calls Tryz.prog 15 #[.slice (some ⟨q, 0, none⟩) 1 1] w fun e w' => e = .returned (.bool true) ∧ ∃ M, Mod M w w' ∧ ∀ y ∈ M, base ≤ y := by
  have hS : Sl w 1 (.slice (some ⟨q, 0, none⟩) 1 1) 1 [v1] := (Ow.of_blk (rest := []) hB (Nat.le_refl _) (by omega) rfl rfl : Ow w 40 1 (.slice (some ⟨q, 0, none⟩) 1 1) 1 [v1]).sl
  have hf1 : Fam w base (L1.map Fi.kv) := h1.fam
  refine (apartFrames_any (fun _ => v1) (fun _ => L1.map Fi.ce) (fun _ => (L1.map Fi.ce).length) 1 _ (L1.map Fi.kv) base w hS (fun a ha => h1.of) (fun a b ha hb hab k hk1 hk2 => absurd (by omega : a = b) hab) (fun _ => rfl) ?_ hf1 ?_ ?_ (by omega)).mono ?_
  · rw [show cat (fun _ => L1.map Fi.ce) 1 = L1.map Fi.ce from by simp [cat, List.range_succ]]
    rw [List.map_map, List.map_map]
    rfl
  · simp; omega
  · intro p hp
    obtain ⟨x, hx, rfl⟩ := List.mem_map.1 hp
    have := ho1 x hx
    show x.f.l.length ≤ _
    omega
  · rintro e w' ⟨rfl, M, hM, hk⟩
    refine ⟨rfl, M, hM, fun y hy => ?_⟩
    rcases hk y hy with ⟨a, ha, hya⟩ | ⟨p, hp, hyp⟩
    · exact h1.nw y hya
    · exact (hf1.ob p hp).2 y hyp
section
variable {W w w' w0 : World} {p q P Q : Nat} {v u v' u' v0 u0 : Pv} {L M L' M' G : List Nat} {l r h c : Nat} {bw bw' : Value} {s s' : Ls} {x m : Nat} {fv fv' : Value} {Kd Kd' : List Fi} {e f dn e' f' dn' : Nat} {ls ls' : List (List UInt8)} {O : List (Nat × TypeId × List Value)}
/-- blocks have turned that are none of these -/
theorem Wq.off (H : Wq W w p q P Q v u L M l r h c bw s x m fv Kd e f dn ls O) (hm : Mod G w w') (hG : ∀ k ∈ G, W.heap.size ≤ k ∧ k ∉ p :: L ∧ k ∉ P :: M ∧ k ∉ blks bw ∧ k ∉ dB fv Kd ∧ ∀ y ∈ wO l r h p P c bw s ++ (m, 69, dcC h e f fv dn) :: (x, 54, wcC r p h l m) :: O, y.1 ≠ k) : Wq W w' p q P Q v u L M l r h c bw s x m fv Kd e f dn ls O :=
  ⟨⟨⟨H.G.B.D.keep0 hm (fun k hk hh => (hG k hh).2.1 hk), H.G.B.E.keep1 hm (fun k hk hh => (hG k hh).2.2.1 hk), H.G.B.ap, fun y hy => ⟨(H.G.B.O y hy).1, (H.G.B.O y hy).2.1, (H.G.B.O y hy).2.2.1, (H.G.B.O y hy).2.2.2.mod hm (fun hh => (hG _ hh).2.2.2.2.2 y hy rfl)⟩, H.G.B.m.fresh hm (fun k hk => (hG k hk).1), H.G.B.dn, H.G.B.rn⟩, H.G.o.mod hm (fun k hk hh => (hG k hh).2.2.2.1 hk), H.G.a, H.G.nl⟩, H.F.modB hm (fun k hk hh => (hG k hh).2.2.2.2.1 hk), H.a, H.o, H.kf, H.l32, H.el, H.fl, H.nl, H.dl⟩
/-- what is younger than all of these has turned -/
theorem Wq.far (H0 : Wq W w0 p q P Q v0 u0 L M l r h c bw s x m fv Kd e f dn ls O) (H : Wq W w p q P Q v u L M l r h c bw s x m fv Kd e f dn ls O) (hm : Mod G w w') (hG : ∀ k ∈ G, w0.heap.size ≤ k) : Wq W w' p q P Q v u L M l r h c bw s x m fv Kd e f dn ls O :=
  H.off hm (fun k hk => by
    have h0 := hG k hk
    exact ⟨Nat.le_trans H0.G.B.m.size h0, fun hh => by have := H0.G.B.D.lt0 k hh; omega, fun hh => by have := H0.G.B.E.lt1 k hh; omega, fun hh => by have := Ow.lt H0.G.o k hh; omega, fun hh => by have := (H0.F.ltB k hh).1; omega, fun y hy e => by have := (H0.G.B.O y hy).2.2.2.lt; omega⟩)
end
/-- what a scan answers -/
def scN (R : Pv × Int × List UInt8) (e f : Nat) : Nat := if R.2.1 = 0 then endF (rowS R.2.2 e f 0) 0 else 0
def scX (R : Pv × Int × List UInt8) (e f : Nat) : List (Nat × Fv) := if R.2.1 = 0 then rowS R.2.2 e f 0 else []
def ScU (w : World) (R : Pv × Int × List UInt8) (e f : Nat) (en : Ending) (w' : World) : Prop :=
  ∃ xv K, en = .returned (.tuple #[xv, .int .i64 (scN R e f : Nat), .int .i64 R.2.1]) ∧ K.map Fi.d = scX R e f ∧ Frs w' w.heap.size xv K
theorem scU_of {w w' : World} {R : Pv × Int × List UInt8} {e f : Nat} {en : Ending} (h : (R.2.1 ≠ 0 ∧ en = .returned (.tuple #[.slice none 0 0, .int .i64 0, .int .i64 R.2.1])) ∨
    (R.2.1 = 0 ∧ ∃ xv K, en = .returned (.tuple #[xv, .int .i64 (endF (rowS R.2.2 e f 0) 0 : Nat), .int .i64 0]) ∧ K.map Fi.d = rowS R.2.2 e f 0 ∧ Frs w' w.heap.size xv K)) : ScU w R e f en w' := by
  unfold ScU scN scX
  rcases h with ⟨h1, h2⟩ | ⟨h1, xv, K, h2, h3, h4⟩
  · rw [if_neg h1, if_neg h1]
    exact ⟨_, [], h2, rfl, Frs.nil _ _⟩
  · rw [if_pos h1, if_pos h1, h1]
    exact ⟨xv, K, h2, h3, h4⟩
theorem scX_ok {R : Pv × Int × List UInt8} {e f : Nat} {Kf : List Fi} (h : Kf.map Fi.d = scX R e f) (hl : R.2.2.length ≤ 10000) : Kf.length ≤ 10000 ∧ ∀ x ∈ Kf, x.f.l.length ≤ 32 := by
  unfold scX at h
  split at h
  · have h1 := rowS_len (b := R.2.2) (e := e) R.2.2.length f 0 (by omega)
    have h2 := congrArg List.length h
    rw [List.length_map] at h2
    exact ⟨by omega, fi_ok h⟩
  · have h2 := congrArg List.length h
    rw [List.length_map] at h2
    have h3 : Kf = [] := List.length_eq_zero_iff.1 h2
    subst h3
    exact ⟨by simp, fun x hx => nomatch hx⟩
section
variable {W w : World} {p q P Q : Nat} {v : Pv} {L M : List Nat} {l r h c : Nat} {bw : Value} {s : Ls} {x m : Nat} {fv : Value} {Kd : List Fi} {e f dn : Nat} {ls : List (List UInt8)} {O : List (Nat × TypeId × List Value)}
set_option maxRecDepth 1000000 in
set_option maxHeartbeats 8000000 in
theorem Wq.scans (H : Wq W w p q P Q v v L M l r h c bw s x m fv Kd e f dn ls O) (e' f' : Nat) (hT : TabC W) (hc : c ≤ 8) (hc1 : 1 ≤ c) (hz : v.m.sz = 64) (hd : v.m.dur.length = c + 1) (hn : v.n ≤ 500000) (he : e' < 18446744073709551616) (hf : f' < 18446744073709551616) :
    Calls Tryz.prog 25 #[.pointer (some ⟨x, 0, none⟩), .int .u64 (e' : Nat), .int .u64 (f' : Nat)] w fun en w' => en = .returned (.bool true) ∧ Wq W w' p q P Q (rdA 1 c 64 v (0 : Nat) (c * 64 : Nat)).1 (rdA 1 c 64 v (0 : Nat) (c * 64 : Nat)).1 L M l r h c bw s x m fv Kd e f dn ls O := by
  have SP := (H.scanP e' f' hT (by omega) hc1 hz hd hn he hf)
  have SD := fun {w u'} (H : Wq W w p q P Q u' v L M l r h c bw s x m fv Kd e f dn ls O) => (H.scanD e' f' (by omega) hz hd hn he hf)
  unfold QSp at SP
  unfold QSd at SD
  have hlen : (rdA 1 c 64 v (0 : Nat) (c * 64 : Nat)).2.2.length ≤ 10000 := by
    have := rdA_len 1 c 64 v (0 : Nat) ((c * 64 : Nat) : Int)
    omega
  obtain ⟨R, hR⟩ : ∃ R, R = rdA 1 c 64 v (0 : Nat) (c * 64 : Nat) := ⟨_, rfl⟩
  rw [← hR] at SP SD hlen ⊢
  clear hR
  obtain ⟨N, hN⟩ : ∃ N, N = scN R e' f' := ⟨_, rfl⟩
  obtain ⟨E, hE⟩ : ∃ E, E = R.2.1 := ⟨_, rfl⟩
  obtain ⟨V, hV⟩ : ∃ V, V = R.1 := ⟨_, rfl⟩
  have SP' : Calls Tryz.prog 12 #[.pointer (some ⟨r, 0, none⟩), .int .u64 (e' : Nat), .int .u64 (f' : Nat)] w fun en w' => ∃ xv K, en = .returned (.tuple #[xv, .int .i64 (N : Nat), .int .i64 E]) ∧ K.map Fi.d = scX R e' f' ∧ Frs w' w.heap.size xv K ∧ Wq W w' p q P Q V v L M l r h c bw s x m fv Kd e f dn ls O ∧ Mod [p] w w' := SP.mono fun en w' hh => by
    obtain ⟨xv, K, h1, h2, h3⟩ := scU_of hh.2.2
    exact ⟨xv, K, by rw [hN, hE]; exact h1, h2, h3, by rw [hV]; exact hh.1, hh.2.1⟩
  have SD' : ∀ {w}, Wq W w p q P Q V v L M l r h c bw s x m fv Kd e f dn ls O → Calls Tryz.prog 76 #[.pointer (some ⟨h, 0, none⟩), .int .u64 (e' : Nat), .int .u64 (f' : Nat)] w fun en w' => ∃ xv K, en = .returned (.tuple #[xv, .int .i64 (N : Nat), .int .i64 E]) ∧ K.map Fi.d = scX R e' f' ∧ Frs w' w.heap.size xv K ∧ Wq W w' p q P Q V V L M l r h c bw s x m fv Kd e f dn ls O ∧ Mod [P] w w' := fun {w} H => (SD H).mono fun en w' hh => by
    obtain ⟨xv, K, h1, h2, h3⟩ := scU_of hh.2.2
    exact ⟨xv, K, by rw [hN, hE]; exact h1, h2, h3, by rw [hV] at hh ⊢; exact hh.1, hh.2.1⟩
  rw [← hV]
  clear SP SD hN hE hV
  have bx := H.bx
  unfold wcC at bx
  have x0 := Blk.cell' bx (i := 0) rfl
  have hS0 := H.G.B.D.b.lt
  have hS1 := H.G.B.E.lt1 P List.mem_cons_self
  go_enter Tryz.func25, Tryz.ntmps25
  go_wp2_with (first
                | (with_reducible refine st_bslice ?_)
                | (go_at_call 12; (with_reducible refine (SP').mono ?_); rintro e w1 ⟨xv, Kf, rfl, hKf, hFr, H1, hm1⟩; obtain ⟨aox, capx, rfl, _, _⟩ := Sl.form hFr.ow.sl; have x2 := Blk.cell' (show Blk w1 x 54 [.pointer (some ⟨r, 0, none⟩), .pointer (some ⟨p, 0, none⟩), .pointer (some ⟨h, 0, none⟩), .pointer (some ⟨l, 0, none⟩), .pointer (some ⟨m, 0, none⟩)] from H1.bx) (i := 2) rfl)
                | (go_at_call 76; (with_reducible refine (SD' H1).mono ?_); rintro e w2 ⟨yv, Kg, rfl, hKg, hGr, H2, hm2⟩; obtain ⟨aoy, capy, rfl, _, _⟩ := Sl.form hGr.ow.sl; have hz1 := hm1.size; have hFr2 := hFr.modB hm2 (fun k hk hh => by have e : k = P := (by simpa using hh); have := (hFr.ltB k hk).2; omega); have SF := sameFrs_yes Kf Kg (.slice aox Kf.length capx) (.slice aoy Kg.length capy) w2 hFr2.r hGr.r (dd_f (hKf.trans hKg.symm)))
                | (go_at_call 14; (with_reducible refine (SF).mono ?_); rintro e w3 ⟨rfl, hm3⟩; have hFr3 := hFr2.ext hm3; have H3 := H2.ext hm3))
  refine StopOp.gw rfl fun K hK => ?_
  refine wp_bslice stFrow [.slice aox Kf.length capx] rfl (by decide) (by rfl) (by simp [Value.cells]) ?_
  intro qb wa hqb1 hqb2 hma hXa
  simp only [put_some, List.set_cons_succ, List.set_cons_zero]
  refine hK _ _ ?_
  clear hK K
  have hQa : Blk wa qb 40 [.slice aox Kf.length capx] := hXa
  have Ha := H3.ext hma
  have AF := apartL_any Kf (.slice aox Kf.length capx) qb w.heap.size wa hQa (hFr3.ext hma) (scX_ok hKf hlen).1 (scX_ok hKf hlen).2
  go_wp2_with (go_at_call 15; (with_reducible refine (AF).mono ?_); rintro e wb ⟨rfl, G, hGm, hGk⟩)
  go_ret
  exact ⟨rfl, H.far Ha hGm hGk⟩
end
end Go.Proofs.YtfepggdljhiemaaGreatDoor
