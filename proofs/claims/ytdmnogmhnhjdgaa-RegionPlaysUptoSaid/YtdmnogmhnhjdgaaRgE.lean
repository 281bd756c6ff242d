import Derived.Test.YtdmnogmhnhjdgaaRgD
/-! Regions: Read. -/
set_option linter.unusedVariables false
set_option linter.unusedSimpArgs false
set_option maxRecDepth 100000
namespace Go.Proofs.Ytdmnogmhnhjdgaa
open Go.RowKit Gw

theorem zero_bs : (Try.prog.info? 35).map (·.zero) = some (some (.slice none 0 0)) := by kernel_rfl
theorem Rgn.lt {w : World} {r p f c z : Nat} (h : Rgn w r p f c z) : r < w.heap.size := Blk.lt h
theorem Pd.lt0 {w : World} {p q : Nat} {v : Pv} {L : List Nat} (h : Pd w p q v L) : ∀ k ∈ p :: L, k < w.heap.size := fun k hk => (List.mem_cons.1 hk).elim (fun e => e ▸ h.b.lt) (h.d.lt k)
theorem Pd.keep0 {w w' : World} {p q : Nat} {v : Pv} {L G : List Nat} (h : Pd w p q v L) (hm : Mod G w w') (hG : ∀ k ∈ p :: L, k ∉ G) : Pd w' p q v L := h.mod hm (hG p List.mem_cons_self) (fun b hb => hG b (List.mem_cons_of_mem _ hb))
theorem Ob.nxR {w : World} {v : Value} {l : List UInt8} {n : Nat} (h : Ob w v l) (hl : l.length = n) : ∃ ao cap, v = .slice ao n cap ∧ n ≤ cap ∧ cap ≤ 9223372036854775807 := by
  subst hl; exact h.sl.form
theorem noneE_ok {N S : Nat} (h : S < N) : noneE N S = 0 := by unfold noneE; rw [if_neg (by omega)]
theorem rd_sec {v : Pv} {S : Nat} (hg : v.go = true) (hS : S < v.m.dur.length) : v.rd S = v.m.read S := by
  unfold Pv.rd oR
  rw [if_pos hg]
  dsimp only
  rw [if_pos (noneE_ok hS)]
  rfl
set_option maxRecDepth 1000000 in
set_option maxHeartbeats 4000000 in
theorem rd1_any (r p q f c z rc oc S M T : Nat) (v : Pv) (L : List Nat) (acc : List UInt8) (ov : Value) (W : World) (hP : Pd W p q v L) (hR : Rgn W r p f c z) (hrc : Blk W rc 61 [.pointer (some ⟨r, 0, none⟩)]) (hoc : Blk W oc 35 [ov]) (ho : Ob W ov acc)
    (hS : S < v.m.dur.length) (hz : v.m.sz = z) (hMT : M < T) (hTz : T ≤ z) (hn : v.n ≤ 1000000) (hal : acc.length ≤ 1000000) (hdis : ∀ k ∈ oc :: blks ov, k ∉ p :: L) :
    Calls Try.prog 79 #[.int .i64 (S : Nat), .int .i64 (M : Nat), .int .i64 (T : Nat), .pointer (some ⟨rc, 0, none⟩), .pointer (some ⟨oc, 0, none⟩)] W fun e W' =>
      (v.go = true ∧ e = .returned (.int .i64 0) ∧ ∃ ov', Blk W' oc 35 [ov'] ∧ Ob W' ov' (acc ++ ((v.m.read S).drop M).take (T - M)) ∧ (∀ k ∈ blks ov', k ∈ blks ov ∨ W.heap.size ≤ k) ∧ Pd W' p q v.md L ∧ Mod (p :: oc :: blks ov) W W') ∨ (v.go = false ∧ e = .returned (.int .i64 60) ∧ Pd W' p q v.md L ∧ Mod [p] W W') := by
  have RD := fun w h => pRead_any p q v L (S : Nat) w h hn
  rw [noneE_ok hS] at RD
  have hlen : (v.m.read S).length = z := by rw [hP.ok.m.read hS, hz]
  have hz2 := hP.ok.m.s2
  rw [hz] at hz2
  obtain ⟨V, hV⟩ : ∃ V, V = v.md := ⟨_, rfl⟩
  have c0 := hrc.cell' (i := 0) rfl
  have c1 := Blk.cell' hR (i := 0) rfl
  obtain ⟨aoo, capo, rfl, _, _⟩ := ho.sl.form
  have hocp : oc ≠ p := fun e => hdis oc List.mem_cons_self (by simp [e])
  have hop : ∀ k ∈ blks (.slice aoo acc.length capo), k ≠ p := fun k hk e => hdis k (List.mem_cons_of_mem _ hk) (by simp [e])
  cases hg : v.go with
  | false =>
    rw [show v.e 0 = 60 from if_neg (by rw [hg]; decide), show v.rd (S : Nat) = [] from by unfold Pv.rd; rw [if_neg (by rw [hg]; decide)]] at RD
    rw [← hV] at RD ⊢
    clear hV hlen hz hS
    go_enter Try.func79, Try.ntmps79
    go_wp2_with (go_at_call 55; refine (RD _ hP).mono ?_; rintro e w1 ⟨v1, rfl, ho1, hn1, hP1, hm1⟩; obtain ⟨ao1, cap1, rfl, _, _⟩ := Ob.nxR (n := 0) ho1 rfl)
    go_ret
    exact .inr ⟨by first | trivial | rfl, rfl, hP1, hm1⟩
  | true =>
    rw [show v.e 0 = 0 from if_pos hg, rd_sec hg hS] at RD
    obtain ⟨B, hB⟩ : ∃ B, B = v.m.read S := ⟨_, rfl⟩
    rw [← hB] at RD hlen ⊢
    rw [← hV] at RD ⊢
    have HB := Lib.hid (And.intro hB hV)
    have HL := Lib.hid hlen
    clear hV hlen hz hS hB
    have y1 : (M : Int) ≤ T := by omega
    have y2 : (T : Int) ≤ z := by omega
    have y3 : (z : Int) ≤ 4096 := by omega
    go_enter Try.func79, Try.ntmps79
    go_wp2_with (go_at_call 55; refine (RD _ hP).mono ?_; rintro e w1 ⟨v1, rfl, ho1, hn1, hP1, hm1⟩; obtain ⟨ao1, cap1, rfl, hc1, _⟩ := Ob.nxR (n := z) ho1 HL.out; have y4 : (z : Int) ≤ cap1 := (by omega))
    refine wp_region_T [⟨0, true, []⟩, ⟨1, true, []⟩, ⟨2, true, []⟩, ⟨3, true, []⟩, ⟨4, true, []⟩, ⟨5, false, []⟩, ⟨6, false, []⟩] (by kernel_rfl) (by kernel_rfl) ?_
    have hmD := Mod.drew [] w1
    obtain ⟨x, hx⟩ : ∃ x, x = w1.drew := ⟨_, rfl⟩
    rw [← hx] at hmD ⊢
    clear hx
    have hoc2 := (hoc.mod hm1 (by simpa using hocp)).ext hmD
    have ho2 : Ob x (.slice aoo acc.length capo) acc := (Ow.mod ho hm1 (fun k hk hh => hop k hk (by simpa using hh))).ext hmD
    have hb2 : Bs x (.slice ao1 z cap1) B := (Ob.bs ho1).ext hmD
    have hsub := Bs.subR (lo := M) (hi := T) hb2 (by omega) (by rw [HL.out]; omega) hc1 HL.out.symm (by omega)
    have o0 := hoc2.cell' (i := 0) rfl
    iterate 5 (refine wpT_n rfl rfl (fun K hK => ?_); go_wp2_with fail)
    refine wpT_e0 rfl rfl (fun K hK => ?_)
    have hsl : ((B.drop M).take (T - M)).length = T - M := by rw [List.length_take, List.length_drop, HL.out]; omega
    unfold Bs at hsub
    rw [hsl] at hsub
    refine wp_append_ow stB (by rfl) (by rfl) ho2 hsub (bv_one _) (by omega) (by omega) ?_
    intro v3 w3 ho3 hm3 hb3
    simp only [put_some, List.set_cons_succ, List.set_cons_zero]
    refine hK _ _ ?_
    clear hK K
    rw [← bv_append] at ho3
    have ho3' : Ob w3 v3 (acc ++ (B.drop M).take (T - M)) := by unfold Ob; rw [List.length_append, hsl]; exact ho3
    obtain ⟨ao3, cap3, rfl, _, _⟩ := ho3.sl.form
    have hoc3 := hoc2.mod hm3 (Ow.ne ho2 hoc2 (by decide))
    refine wpT_e0 rfl rfl (fun K hK => ?_)
    refine wp_store1 (by kernel_rfl) (by rfl) (u := .slice ao3 (acc.length + (T - M)) cap3) (by rfl) ⟨rfl, rfl⟩ hoc3 (by simp) ?_
    intro w4 hm4 hB4
    refine hK _ _ ?_
    clear hK K
    refine wpT_nil ?_
    go_wp2_with fail
    go_ret
    have s1 := hm1.size
    have sD := hmD.size
    refine .inl ⟨by first | trivial | rfl, rfl, _, hB4, Ow.mod ho3' hm4 (fun k hk hh => Ow.ne ho3 hoc3 (by decide) (by have e : k = oc := (by simpa using hh); exact e ▸ hk)), fun k hk => (hb3 k hk).imp id (fun h => by omega), ?_, ?_⟩
    · exact ((hP1.ext hmD).keep0 hm3 (fun k hk hh => hdis k (List.mem_cons_of_mem _ hh) hk)).keep0 hm4 (fun k hk hh => hdis k (by have e : k = oc := (by simpa using hh); simp [e]) hk)
    · exact ((((hm1.weak (by simp)).ext hmD).then hm3 (fun g hg => .inl (by simp [hg]))).then hm4 (fun g hg => .inl (by simp at hg; simp [hg])))
/-- what stands while Read goes -/
def RdJ (w : World) (r p q f c z rc oc : Nat) (L : List Nat) (e n0 : Nat) (R0 : Pv × Int × List UInt8) (a : Nat) (W : World) : Prop :=
  ∃ v acc ov, Pd W p q v L ∧ Rgn W r p f c z ∧ Blk W rc 61 [.pointer (some ⟨r, 0, none⟩)] ∧ Blk W oc 35 [ov] ∧ Ob W ov acc ∧ New w ov ∧ v.m.sz = z ∧ f + c ≤ v.m.dur.length ∧ v.n ≤ n0 + a ∧ acc.length ≤ a ∧ rdG f z v a e acc = R0 ∧ Mod [p] w W
def RdX (w : World) (p q : Nat) (L : List Nat) (R0 : Pv × Int × List UInt8) (E : Int) (W : World) : Prop := E = 60 ∧ ∃ v, Pd W p q v L ∧ R0 = (v, 60, []) ∧ Mod [p] w W
/-- what Read answers -/
def rdA (f c z : Nat) (v : Pv) (a n : Int) : Pv × Int × List UInt8 := if hold (c * z) a n = true then rdG f z v a.toNat (a.toNat + n.toNat) [] else (v, 2, [])
def GRdP (w : World) (p q : Nat) (L : List Nat) (R : Pv × Int × List UInt8) (e : Ending) (w' : World) : Prop := ∃ rv, e = .returned (.tuple #[rv, .int .i64 R.2.1]) ∧ Ob w' rv R.2.2 ∧ New w rv ∧ Pd w' p q R.1 L ∧ Mod [p] w w'
theorem rdG_go {f z : Nat} {v : Pv} {a e : Nat} {acc : List UInt8} (h : a < e) (hz : 0 < z) (hg : v.go = true) : rdG f z v a e acc = rdG f z v.md (nxt z a e) e (acc ++ ((v.m.read (f + a / z)).drop (a % z)).take (toC z a e - a % z)) := by
  rw [rdG, dif_pos ⟨h, hz⟩, if_pos hg]
theorem rdG_no {f z : Nat} {v : Pv} {a e : Nat} {acc : List UInt8} (h : a < e) (hz : 0 < z) (hg : v.go = false) : rdG f z v a e acc = (v.md, 60, []) := by
  rw [rdG, dif_pos ⟨h, hz⟩, if_neg (by rw [hg]; decide)]
theorem rdG_end {f z : Nat} {v : Pv} {a : Nat} {acc : List UInt8} : rdG f z v a a acc = (v, 0, acc) := by
  rw [rdG, dif_neg (by omega)]
theorem md_n2 (v : Pv) : v.md.n ≤ v.n + 1 := by
  unfold Pv.md
  split
  · omega
  · split <;> simp
set_option maxHeartbeats 4000000 in
theorem rdJ_step (w : World) (r p q f c z rc oc : Nat) (L : List Nat) (e n0 : Nat) (R0 : Pv × Int × List UInt8) (hL : ∀ k ∈ p :: L, k < w.heap.size) (hrc : w.heap.size ≤ rc) (hoc : w.heap.size ≤ oc) (hrcoc : rc ≠ oc) (hr : r < w.heap.size) (hrp : r ≠ p) (he : e ≤ c * z) (hn0 : n0 + c * z ≤ 1000000) (hz : 0 < z)
    (a : Nat) (W : World) (hJ : RdJ w r p q f c z rc oc L e n0 R0 a W) (ha : a < e) :
    Calls Try.prog 79 #[.int .i64 ((f + a / z : Nat) : Int), .int .i64 ((a % z : Nat) : Int), .int .i64 ((toC z a e : Nat) : Int), .pointer (some ⟨rc, 0, none⟩), .pointer (some ⟨oc, 0, none⟩)] W fun e' W' => ∃ E, e' = .returned (.int .i64 E) ∧ (E = 0 → RdJ w r p q f c z rc oc L e n0 R0 (nxt z a e) W') ∧ (E ≠ 0 → RdX w p q L R0 E W') := by
  obtain ⟨v, acc, ov, hP, hR, hrcB, hocB, ho, hno, hsz, hfc, hvn, hal, hrd, hm⟩ := hJ
  have hac : a / z < c := (Nat.div_lt_iff_lt_mul hz).2 (by omega)
  have h1 := toC_gt ha hz
  have h2 := toC_le z a e
  have h3 := nxt_gt ha hz
  have hdis : ∀ k ∈ oc :: blks ov, k ∉ p :: L := fun k hk hh => by
    have := hL k hh
    rcases List.mem_cons.1 hk with e | hk
    · omega
    · have := hno k hk; omega
  have hmsz := hm.size
  refine (rd1_any r p q f c z rc oc (f + a / z) (a % z) (toC z a e) v L acc ov W hP hR hrcB hocB ho (by omega) hsz h1 h2 (by omega) (by omega) hdis).mono fun e' W' hh => ?_
  rcases hh with ⟨hg, rfl, ov', hB', ho', hn', hP', hm'⟩ | ⟨hg, rfl, hP', hm'⟩
  · refine ⟨0, rfl, fun _ => ⟨v.md, _, ov', hP', hR.mod hm' (fun hh => ?_), hrcB.mod hm' (fun hh => ?_), hB', ho', fun k hk => (hn' k hk).elim (hno k) (fun h => by omega), by rw [v.md_m]; exact hsz, by rw [v.md_m]; exact hfc, by have := md_n2 v; omega, ?_, by rw [← rdG_go ha hz hg]; exact hrd, ?_⟩, fun h => absurd rfl h⟩
    · rcases List.mem_cons.1 hh with e | hh
      · exact hrp e
      · rcases List.mem_cons.1 hh with e | hh
        · omega
        · have := hno r hh; omega
    · rcases List.mem_cons.1 hh with e | hh
      · have := hL p List.mem_cons_self; omega
      · rcases List.mem_cons.1 hh with e | hh
        · exact hrcoc e
        · exact Ow.ne ho hrcB (by decide) hh
    · rw [List.length_append, List.length_take, List.length_drop]
      unfold nxt
      omega
    · exact hm.then hm' (fun g hg => by
        rcases List.mem_cons.1 hg with e | hg
        · exact .inl (by simp [e])
        · rcases List.mem_cons.1 hg with e | hg
          · exact .inr (by omega)
          · exact .inr (hno g hg))
  · exact ⟨60, rfl, fun h => absurd h (by decide), fun _ => ⟨rfl, v.md, hP', by rw [← hrd, rdG_no ha hz hg], hm.trans hm'⟩⟩
set_option maxRecDepth 1000000 in
set_option maxHeartbeats 8000000 in
theorem gRead_any (r p q f c z : Nat) (v : Pv) (L : List Nat) (a n : Int) (w : World) (hP : Pd w p q v L) (hR : Rgn w r p f c z) (hz : v.m.sz = z) (hfc : f + c ≤ v.m.dur.length) (hn : v.n + c * z ≤ 1000000) (ha : i64 a) (hn' : i64 n) :
    Calls Try.prog 37 #[.pointer (some ⟨r, 0, none⟩), .int .i64 a, .int .i64 n] w (GRdP w p q L (rdA f c z v a n)) := by
  have hs1 := hP.ok.m.s1
  have hs2 := hP.ok.m.s2
  have hn2 := hP.ok.m.n2
  rw [hz] at hs1 hs2
  have MA := fun w h => gmade_yes r p f c z w h
  have HO := fun w h => gholds_any r p f c z a n w h (by omega) ha hn'
  obtain ⟨hh, hhe⟩ : ∃ b, b = hold (c * z) a n := ⟨_, rfl⟩
  rw [← hhe] at HO
  unfold rdA
  rw [← hhe]
  cases hh with
  | false =>
    rw [if_neg (by decide)]
    clear hhe
    go_enter Try.func37, Try.ntmps37
    go_wp2_with (with_reducible refine st_box ?_)
    refine StopOp.go rfl fun K hK => ?_
    refine wp_box (v := .pointer (some ⟨r, 0, none⟩)) (by rfl) ?_
    intro t w1 ht1 ht2 hm1 hT
    simp only [put_some, List.set_cons_succ, List.set_cons_zero]
    refine hK _ _ ?_
    clear hK K
    have hR1 := hR.ext hm1
    have c0 := hT.cell' (i := 0) rfl
    go_wp2_with (first
                  | (go_at_call 74; (with_reducible refine (MA _ hR1).mono ?_); rintro e w2 ⟨rfl, rfl⟩)
                  | (go_at_call 75; (with_reducible refine (HO _ hR1).mono ?_); rintro e w2 ⟨rfl, hm2⟩))
    go_ret2
    exact ⟨.slice none 0 0, rfl, Ob.nil _, by simp [New, blks], (hP.ext hm1).ext hm2, (hm1.ext hm2).weak (by simp)⟩
  | true =>
    rw [if_pos rfl]
    obtain ⟨g1, g2, g3, g4⟩ := of_decide_eq_true hhe.symm
    obtain ⟨a', rfl⟩ := Int.eq_ofNat_of_zero_le g1
    obtain ⟨n', rfl⟩ := Int.eq_ofNat_of_zero_le g2
    have hle : a' + n' ≤ c * z := by omega
    rw [Int.toNat_natCast, Int.toNat_natCast]
    obtain ⟨R0, hR0⟩ : ∃ R, R = rdG f z v a' (a' + n') [] := ⟨_, rfl⟩
    rw [← hR0]
    have H0 := Lib.hid (And.intro hR0 hle)
    have hcz : c * z ≤ 1000000 := by omega
    have hH := Lib.hid (And.intro hz (And.intro hfc (And.intro hn hcz)))
    have y1 : (a' : Int) ≤ 1000000 := by omega
    have y2 : (n' : Int) ≤ 1000000 := by omega
    clear hhe g1 g2 g3 g4 hR0 hle hz hfc hn hcz ha hn'
    go_enter Try.func37, Try.ntmps37
    go_wp2_with (with_reducible refine st_box ?_)
    refine StopOp.go rfl fun K hK => ?_
    refine wp_box (v := .pointer (some ⟨r, 0, none⟩)) (by rfl) ?_
    intro t w1 ht1 ht2 hm1 hT
    simp only [put_some, List.set_cons_succ, List.set_cons_zero]
    refine hK _ _ ?_
    clear hK K
    have hT1 : Blk w1 t 61 [.pointer (some ⟨r, 0, none⟩)] := hT
    have hR1 := hR.ext hm1
    have c0 := hT1.cell' (i := 0) rfl
    clear hT
    go_wp2_with (first
                  | (with_reducible refine st_alloc ?_)
                  | (go_at_call 74; (with_reducible refine (MA _ hR1).mono ?_); rintro e w2 ⟨rfl, rfl⟩)
                  | (go_at_call 75; (with_reducible refine (HO _ hR1).mono ?_); rintro e w2 ⟨rfl, hm2⟩))
    refine StopOp.go rfl fun K hK => ?_
    refine wp_alloc zero_bs ?_
    intro oc w3 ho1 ho2 hm3 hO
    simp only [put_some, List.set_cons_succ, List.set_cons_zero]
    refine hK _ _ ?_
    clear hK K
    have hO3 : Blk w3 oc 35 [.slice none 0 0] := hO
    have hT3 := (hT1.ext hm2).ext hm3
    have hm03 := (hm1.ext hm2).ext hm3
    have c0 := hT3.cell' (i := 0) rfl
    have s1 := hm1.size
    have s2 := hm2.size
    have htlt := hT1.lt
    have hJ0 : RdJ w r p q f c z t oc L (a' + n') v.n R0 a' w3 := ⟨v, [], .slice none 0 0, hP.ext hm03, hR.ext hm03, hT3, hO3, Ob.nil _, by simp [New, blks], hH.out.1, hH.out.2.1, by omega, by simp, H0.out.1.symm, hm03.weak (by simp)⟩
    have EA := fun w' h0 => eachR_any r p f c z (some ⟨t, 0, none⟩) (some ⟨oc, 0, none⟩) a' n' (RdJ w r p q f c z t oc L (a' + n') v.n R0) (RdX w p q L R0) w' (by omega) hs2 (by have := hH.out.2.1; omega) (by omega) h0 (fun a W hJ => by obtain ⟨_, _, _, _, h, _⟩ := hJ; exact h)
      (fun a W hJ _ hlt => rdJ_step w r p q f c z t oc L (a' + n') v.n R0 hP.lt0 ht1 (by omega) (by omega) hR.lt (Blk.ne hR hP.b (by decide)) H0.out.2 hH.out.2.2.1 (by omega) a W hJ hlt)
    clear hO hT1 hR1 hm1 hm2 hm3 hO3 hT3 MA HO
    go_upto_region 7 with (go_at_call 76; refine (EA _ hJ0).mono ?_; rintro e w4 ⟨E, rfl, hE0, hE1⟩)
    by_cases hE : E = 0
    · subst hE
      obtain ⟨v', acc, ov, hP', hR', hrc', hoc', ho', hno', _, _, _, _, hrd', hm'⟩ := hE0 rfl
      rw [rdG_end] at hrd'
      have o0 := hoc'.cell' (i := 0) rfl
      obtain ⟨aov, capv, rfl, _, _⟩ := ho'.sl.form
      clear hE0 hE1
      go_wp2_with fail
      go_ret2
      rw [← hrd']
      exact ⟨_, rfl, ho', hno', hP', hm'⟩
    · obtain ⟨rfl, v', hP', hR', hm'⟩ := hE1 hE
      clear hE0 hE1 hE
      go_wp2_with fail
      go_ret2
      rw [hR']
      exact ⟨.slice none 0 0, rfl, Ob.nil _, by simp [New, blks], hP', hm'⟩
end Go.Proofs.Ytdmnogmhnhjdgaa
