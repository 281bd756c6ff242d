import Derived.Test.YtminfegoldgjpaaDoorSwL
import Derived.Test.YtminfegoldgjpaaDoorFilS
import Derived.Test.YtminfegoldgjpaaDoorRegV
import Derived.Test.YtminfegoldgjpaaDoorOpB
/-! SlotsTurns. -/
set_option linter.unusedVariables false
set_option linter.unusedSimpArgs false
set_option maxRecDepth 100000
namespace Go.Proofs.YtminfegoldgjpaaDoor
open Go.RowKit Gw

def iv (l : List Int) : List Value := l.map (Value.int .i64)
/-- a slice of numbers -/
def Is (w : World) (v : Value) (l : List Int) : Prop := Sl w 1 v l.length (iv l)
theorem Is.ext {w w' : World} {v : Value} {l : List Int} (h : Is w v l) (hm : Mod [] w w') : Is w' v l := Sl.ext h hm
theorem cell_kinds {w : World} {b i : Nat} {u : Value} (h : w.cell? ⟨b, i, none⟩ = some u) : b < w.heap.size ∧ ∃ c t f, w.heap[b]? = some (.cells c t f) := by
  unfold World.cell? at h
  dsimp only at h
  split at h
  · rename_i c t f hh
    exact ⟨(Array.getElem?_eq_some_iff.1 hh).1, _, _, _, hh⟩
  · cases h
theorem Is.at {w : World} {ao : Option Addr} {n cap : Nat} {l : List Int} (h : Is w (.slice ao n cap) l) {j : Nat} (hj : j < l.length) : ∃ b o, ao = some ⟨b, o, none⟩ ∧ w.cell? ⟨b, o + j, none⟩ = some (.int .i64 l[j]) := by
  obtain ⟨b, o, c, hv, _, _, hc⟩ := Sl.at h (fun h0 => by
    have h1 : (iv l).length = 0 := by rw [h0]; rfl
    rw [iv, List.length_map] at h1
    omega)
  injection hv with e1
  exact ⟨b, o, e1, hc j _ (by rw [iv, List.getElem?_map, List.getElem?_eq_getElem hj]; rfl)⟩
theorem Bw.fresh {W w : World} {p q P Q : Nat} {v u : Pv} {L M : List Nat} {O : List (Nat × TypeId × List Value)} {g : Nat} (h : Bw W w p q P Q v u L M O) (hg : w.heap.size ≤ g) : ∀ x ∈ O, x.1 ≠ g := fun x hx => by have := (h.O x hx).2.2.2.lt; omega
theorem Bw.put {W w w' : World} {p q P Q : Nat} {v u : Pv} {L M : List Nat} {O : List (Nat × TypeId × List Value)} {g : Nat} {t : TypeId} {cs cs' : List Value} (h : Bw W w p q P Q v u L M ((g, t, cs) :: O)) (hn : ∀ x ∈ O, x.1 ≠ g) (hm : Mod [g] w w') (hB : Blk w' g t cs') : Bw W w' p q P Q v u L M ((g, t, cs') :: O) := by
  have hg := h.O _ List.mem_cons_self
  have hk : ∀ k ∈ [g], k = g := fun k hk => by simpa using hk
  refine ⟨h.D.keep0 hm (fun k hk' hh => hg.2.1 (hk k hh ▸ hk')), h.E.keep1 hm (fun k hk' hh => hg.2.2.1 (hk k hh ▸ hk')), h.ap, fun x hx => ?_, h.m.fresh hm (fun k hk' => hk k hk' ▸ hg.1), h.dn, h.rn⟩
  rcases List.mem_cons.1 hx with e | e
  · subst e
    exact ⟨hg.1, hg.2.1, hg.2.2.1, hB⟩
  · have hx2 := h.O x (List.mem_cons_of_mem _ e)
    exact ⟨hx2.1, hx2.2.1, hx2.2.2.1, hx2.2.2.2.mod hm (fun hh => hn x e (hk _ hh))⟩
theorem nat_wrapj (c j : Nat) : IntKind.u64.wrap ((c : Int) + j) = (((c + j) % 18446744073709551616 : Nat) : Int) := by
  rw [IntKind.wrap_u64]
  omega
theorem cell_ext {w w' : World} {b i : Nat} {u : Value} (hm : Mod [] w w') (hb : b < w.heap.size) (h : w.cell? ⟨b, i, none⟩ = some u) : w'.cell? ⟨b, i, none⟩ = some u := by
  rw [← h]
  unfold World.cell?
  dsimp only
  rw [hm.block b hb (by simp)]
/-- the walk of fill, its block told -/
theorem sfillB_any (x : Int) (n : Nat) (w : World) (hn : n ≤ 100000) :
    Calls Tryd.prog 25 #[.int .i64 x, .int .i64 (n : Nat)] w fun e w' => ∃ g, e = .returned (.slice (some ⟨g, 0, none⟩) n n) ∧ Blk w' g 5 (bv (filS x n)) ∧ w.heap.size ≤ g ∧ Mod [] w w' :=
  sfill_blk x n w hn
set_option maxRecDepth 1000000 in
set_option maxHeartbeats 40000000 in
theorem slotsTurns_core (ls : List Int) (lv : Value) (cov : Nat) (Fl : List (Int × Int)) (fv : Value) (W : World) (hls : Is W lv ls) (hli : ∀ y ∈ ls, i64 y) (hll : ls.length ≤ 1048576) (hcov : cov < 18446744073709551616) (hF : Fs W fv Fl) (hFl : Fl.length ≤ 1048576) (hT : TabC W) :
    Calls Tryd.prog 6 #[lv, .int .u64 (cov : Nat), fv] W fun e w' => e = .returned (.bool true) ∧ Mod [] W w' := by
  obtain ⟨aol, capl, rfl, hcl1, hcl2⟩ := hls.form
  obtain ⟨aof, capf, rfl, hcf1, hcf2⟩ := hF.form
  have AW := fun w h => slawake_any w h
  have MD := fun w => made0_any w
  unfold Made0 at MD
  have T0 : Turn (dev0 10 64) 0 5 4 0 hd0 [] := Turn.zero 10 0 5 4 (by omega) (by omega)
  have hd0' : (dev0 10 64).dur.length = 10 := rfl
  obtain ⟨m0, hm0⟩ : ∃ d, d = dev0 10 64 := ⟨_, rfl⟩
  rw [← hm0] at MD T0 hd0'
  clear hm0
  obtain ⟨J, hJ⟩ : ∃ N, N = min ls.length 40 := ⟨_, rfl⟩
  have HN := Lib.hid hJ
  clear hJ
  have hJ2 : J ≤ 40 := by have := HN.out; omega
  have ylen : (ls.length : Int) ≤ 1048576 := by omega
  have HH := Lib.hid (And.intro hcov hll)
  clear hcov hll
  go_enter Tryd.func6, Tryd.ntmps6
  go_upto_region 6 with (first
                | (go_at_call 7; (with_reducible refine (AW _ hT).mono ?_); rintro e w1 ⟨rfl, hm1⟩)
                | (go_at_call 24; (with_reducible refine (MD _).mono ?_); rintro e w2 ⟨x, p, q, P, Q, s, r, a, b, h, k, L0, M, rfl, B2⟩))
  have hT1 := hT.ext hm1
  have hls1 := hls.ext hm1
  have hF1 : Fs w1 (.slice aof Fl.length capf) Fl := Sl.ext hF hm1
  clear hls hF hT
  go_wp2_with fail
  go_loopw [9] (fun iv_ wr => ∃ (j : Nat) (L : List Nat) (m : Dm) (n : Nat) (N : Hd) (B0 : List UInt8), iv_ = .int .i64 j ∧ j ≤ J ∧ Bw w1 wr p q P Q (Lv m n) dvS L M (osB x p P s r a b h k 0 5 4) ∧ Turn m 0 5 4 j N B0 ∧ m.dur.length = 10 ∧ n ≤ 20) (fun iv_ _ => J - (intOf iv_).toNat)
  case atStart => exact ⟨0, L0, m0, 0, hd0, [], rfl, Nat.zero_le _, B2, T0, hd0', by omega⟩
  case round =>
    clear B2 T0 hd0'
    obtain ⟨j, L, m, n0, N0, B0, rfl, hj, BR, TR, hdR, hn0⟩ := hrel
    have yj : (j : Int) ≤ 40 := by omega
    obtain ⟨c, hc⟩ : ∃ c, c = decide (j < J) := ⟨_, rfl⟩
    have HC := Lib.hid hc
    clear hc
    go_upto_region 7 with fail
    go_cut [42] (fun u wx => u = .bool c ∧ wr = wx)
    case first =>
      by_cases h1 : j < ls.length
      · have y1 : (j : Int) < ls.length := by omega
        by_cases h2 : j < 40
        · have y2 : (j : Int) < 40 := by omega
          go_wp2_with fail
          go_meet
          exact ⟨by rw [HC.out, decide_eq_true (show j < J by have := HN.out; omega)]; try (simp; omega), rfl⟩
        · have y2 : (40 : Int) ≤ j := by omega
          go_wp2_with fail
          go_meet
          exact ⟨by rw [HC.out, decide_eq_false (show ¬ j < J by have := HN.out; omega)]; try (simp; omega), rfl⟩
      · have y1 : (ls.length : Int) ≤ j := by omega
        go_wp2_with fail
        go_meet
        exact ⟨by rw [HC.out, decide_eq_false (show ¬ j < J by have := HN.out; omega)]; try (simp; omega), rfl⟩
    case rest =>
    obtain ⟨rfl, rfl⟩ := hcut
    cases c with
    | true =>
      have hlt : j < J := of_decide_eq_true HC.out.symm
      have hjo : j < ls.length := by have := HN.out; omega
      have y1 : (j : Int) < ls.length := by omega
      clear HC
      have hli_j := hli _ (List.getElem_mem hjo)
      obtain ⟨lb, lo, rfl, hcell⟩ := Is.at hls1 hjo
      have hlbk := cell_kinds hcell
      obtain ⟨lj, hlj⟩ : ∃ l, l = ls[j] := ⟨_, rfl⟩
      rw [← hlj] at hli_j hcell
      clear hlj
      have PK := fun w => pick_any lj 193 w hli_j.1 hli_j.2 (by omega) (by omega)
      have k1 := pick_ge lj 193
      have k2 := pick_lt lj 193 (by omega)
      obtain ⟨K, hK0⟩ : ∃ K : Nat, pick lj 193 = K := ⟨_, (Int.toNat_of_nonneg k1).symm⟩
      rw [hK0] at PK k2
      clear k1 hK0
      have hK : K ≤ 192 := by omega
      have FI := fun w => sfillB_any (j : Int) K w (by omega)
      obtain ⟨Bd, hBd⟩ : ∃ B, B = filS (j : Int) K := ⟨_, rfl⟩
      have hBl : Bd.length = K := by rw [hBd]; exact filS_len _ _
      rw [← hBd] at FI
      clear hBd
      obtain ⟨cr, hcr⟩ : ∃ c, c = crcS Bd := ⟨_, rfl⟩
      have hwr := nat_wrapj cov j
      obtain ⟨cv, hcv⟩ : ∃ c, c = (cov + j) % 18446744073709551616 := ⟨_, rfl⟩
      rw [← hcv] at hwr
      have hcvl : cv < 18446744073709551616 := by omega
      have HWR := Lib.hid hwr
      have HBL := Lib.hid (And.intro hcr hcvl)
      clear hwr hcv hcvl hcr k2
      have BY : ∀ w, Sls w s a b → Rgn w a p 0 4 64 → Calls Tryd.prog 18 #[.pointer (some ⟨s, 0, none⟩)] w fun e w' => e = .returned (.int .i64 192) ∧ Mod [] w w' := fun w h1 h2 => sBytes_any s a b p 0 4 64 w h1 h2 (by omega) (by omega)
      subst hBl
      have yK : (Bd.length : Int) ≤ 192 := by omega
      go_wp2_with fail
      refine wp_region_T [⟨0, true, []⟩, ⟨1, true, []⟩, ⟨2, true, []⟩, ⟨3, true, []⟩, ⟨4, true, []⟩, ⟨5, true, []⟩, ⟨6, true, []⟩, ⟨7, true, []⟩, ⟨8, true, []⟩, ⟨9, false, [4]⟩, ⟨10, true, []⟩, ⟨11, false, []⟩, ⟨12, false, []⟩, ⟨13, true, []⟩] (by kernel_rfl) (by kernel_rfl) ?_
      have hm9 := Mod.drew [] wr
      obtain ⟨x9, hx9⟩ : ∃ x, x = wr.drew := ⟨_, rfl⟩
      rw [← hx9] at hm9 ⊢
      clear hx9
      have B9 := BR.ext hm9
      have e1 := (B9.blk 0 rfl).cell' (i := 1) rfl
      have hc9 : x9.cell? ⟨lb, lo + j, none⟩ = some (.int .i64 lj) := cell_ext (B9.m) hlbk.1 hcell
      have hlb9 := cell_kinds hc9
      have S1 : Sls x9 s a b := B9.blk 1 rfl
      have S2 : Rgn x9 a p 0 4 64 := B9.blk 3 rfl
      iterate 9 (refine wpT_n rfl rfl (fun K hK => ?_); go_wp2_with fail)
      refine wpT_callh rfl rfl (fun K hK => ?_)
      go_wp2_with (go_at_call 18; (with_reducible refine (BY _ S1 S2).mono ?_); rintro e w3 ⟨rfl, hm3⟩)
      refine ⟨agains_cons rfl (again_load rfl rfl (hm3.block lb hlb9.1 (by simp)) hlb9.2) agains_nil, ?_⟩
      have B3 := B9.ext hm3
      refine wpT_n rfl rfl (fun K hK => ?_)
      go_wp2_with fail
      refine wpT_call rfl rfl (fun K hK => ?_)
      go_wp2_with (go_at_call 23; (with_reducible refine (PK _).mono ?_); rintro e w4 ⟨rfl, rfl⟩)
      refine wpT_call rfl rfl (fun K hK => ?_)
      go_wp2_with (go_at_call 25; (with_reducible refine (FI _).mono ?_); rintro e w5 ⟨g, rfl, hBg, hg1, hm5⟩)
      have B5 := B3.new hm5 hg1 hBg
      refine wpT_n rfl rfl (fun K hK => ?_)
      go_wp2_with fail
      refine wpT_nil ?_
      clear e1 hc9 hlb9 S1 S2 hm9 hm3 hm5 hBg B9 B3 hcell hlbk
      go_upto_region 10 with fail
      go_cut [11, 12] (fun u v wx => ∃ n L2 m2 n2, u = .pointer (some ⟨n, 0, none⟩) ∧ v = .int .i64 0 ∧ Bw w1 wx p q P Q (Lv m2 n2) dvS L2 M ((n, 25, [.int .u64 ((j : Int) + 1), .int .u64 (cv : Nat), .int .i64 (Bd.length : Nat), .int .u32 (cr : Nat)]) :: (g, 5, bv Bd) :: osB x p P s r a b h k 0 5 4) ∧ Turn m2 0 5 4 (j + 1) ⟨j + 1, cv, (Bd.length : Nat), cr⟩ Bd ∧ m2.dur.length = 10 ∧ n2 ≤ 60)
      case first =>
        have CP := fun v w h => copy_any Bd v w h (by omega)
        refine wp_region_Tr 14 [⟨0, true, []⟩, ⟨1, true, []⟩, ⟨2, true, []⟩, ⟨3, true, []⟩, ⟨4, true, []⟩, ⟨6, true, []⟩, ⟨7, true, []⟩, ⟨8, true, []⟩, ⟨9, true, []⟩] (Tr.br [⟨14, false, [1, 3, 8, 9]⟩, ⟨5, false, [1, 3, 8, 9]⟩, ⟨10, false, []⟩, ⟨11, true, []⟩, ⟨12, true, []⟩, ⟨13, true, []⟩, ⟨15, false, []⟩, ⟨16, true, []⟩] ⟨5, false, [1, 3, 8, 9]⟩ [] (Tr.br [⟨14, false, [1, 3, 8, 9]⟩, ⟨10, false, []⟩, ⟨11, true, []⟩, ⟨12, true, []⟩, ⟨13, true, []⟩, ⟨15, false, []⟩, ⟨16, true, []⟩] ⟨10, false, []⟩ [⟨11, true, []⟩, ⟨12, true, []⟩, ⟨13, true, []⟩] (Tr.fin [⟨14, false, [1, 3, 8, 9]⟩, ⟨15, false, []⟩, ⟨16, true, []⟩]))) (by kernel_rfl) (by kernel_rfl) ?_
        have hm10 := Mod.drew [] w5
        obtain ⟨x10, hx10⟩ : ∃ x, x = w5.drew := ⟨_, rfl⟩
        rw [← hx10] at hm10 ⊢
        clear hx10
        have B10 := B5.ext hm10
        have e1 := (B10.blk 1 rfl).cell' (i := 1) rfl
        have hwr := HWR.out
        have hgb : Bs x10 (.slice (some ⟨g, 0, none⟩) Bd.length Bd.length) Bd := Bs.of_blk (rest := []) (by rw [List.append_nil]; exact B10.blk 0 rfl) (Nat.le_refl _) (by omega)
        iterate 9 (refine wpT_n rfl rfl (fun K hK => ?_); go_wp2_with fail)
        refine wpT_nil ?_
        refine And.intro ?_ ?_
        · refine wpT_e rfl rfl (fun K hK => ?_)
          refine wp_alloc zero_header ?_
          intro n wA hA1 hA2 hmA hBA
          simp only [put_some, List.set_cons_succ, List.set_cons_zero]
          refine hK _ _ ⟨(agains_cons rfl (again_const (fun _ => rfl)) (agains_cons rfl (again_load rfl rfl (hmA.block x (B10.blk 1 rfl).lt (by simp)) (B10.blk 1 rfl).kinds) (agains_cons rfl (again_conv Tryd.underlying3 Tryd.underlying22 rfl rfl) (agains_cons rfl (again_const (fun _ => rfl)) agains_nil)))), ?_⟩
          clear hK K
          have hnf := B10.fresh hA1
          have BA := B10.new (cs := [.int .u64 0, .int .u64 0, .int .i64 0, .int .u32 0]) hmA hA1 hBA
          have hcb := (Bs.ext hgb hmA)
          refine wpT_callh rfl rfl (fun K hK => ?_)
          go_wp2_with (go_at_call 17; (with_reducible refine (CP _ _ hcb).mono ?_); rintro e wC ⟨vc, rfl, hoc, hnc, hmC⟩; obtain ⟨aoc, capc, rfl, _, _⟩ := hoc.sl.form)
          refine ⟨(agains_cons rfl (again_const (fun _ => rfl)) (agains_cons rfl (again_load rfl rfl (hmC.block x (BA.blk 2 rfl).lt (by simp)) (BA.blk 2 rfl).kinds) (agains_cons rfl (again_conv Tryd.underlying3 Tryd.underlying22 rfl rfl) (agains_cons rfl (again_const (fun _ => rfl)) agains_nil)))), ?_⟩
          have hocL : ∀ y ∈ blks (.slice aoc Bd.length capc), y ∉ p :: L := fun y hy hh => by have := BA.D.lt0 y hh; have := hnc y hy; omega
          have BC := BA.ext hmC
          have hoc2 := hoc
          have SV : Calls Tryd.prog 16 #[.pointer (some ⟨s, 0, none⟩), .slice aoc Bd.length capc, .int .u64 (cv : Nat)] wC (fun e w' => e = .returned (.tuple #[.agg #[.int .u64 ((j : Int) + 1), .int .u64 (cv : Nat), .int .i64 (Bd.length : Nat), .int .u32 (cr : Nat)], .int .i64 0]) ∧ ∃ L2 m2 n2, Bw w1 w' p q P Q (Lv m2 n2) dvS L2 M ((n, 25, [.int .u64 0, .int .u64 0, .int .i64 0, .int .u32 0]) :: (g, 5, bv Bd) :: osB x p P s r a b h k 0 5 4) ∧ Mod (p :: L) wC w' ∧ Turn m2 0 5 4 (j + 1) ⟨j + 1, cv, (Bd.length : Nat), cr⟩ Bd ∧ m2.dur.length = 10 ∧ n2 ≤ n0 + 4 * 4 + 20) := by
            rw [HBL.out.1]
            exact BC.turnS (fun y hy => List.mem_cons_of_mem _ (List.mem_cons_of_mem _ (hy))) TR hT1 hdR (by omega) (by omega) (by omega) (by omega) (by omega) Bd _ cv (Ob.bs hoc2) (fun y hy => ⟨Ow.lt hoc2 y hy, hocL y hy⟩) HBL.out.2 (by omega) (by omega)
          refine wpT_call rfl rfl (fun K hK => ?_)
          go_wp2_with (go_at_call 16; (with_reducible refine (SV).mono ?_); rintro e wS ⟨rfl, L2, m2, n2, BS, hmS, T2, hd2, hn2⟩)
          clear SV
          iterate 3 (refine wpT_n rfl rfl (fun K hK => ?_); go_wp2_with fail)
          refine wpT_e0 rfl rfl (fun K hK => ?_)
          refine wp_store (u := .agg #[.int .u64 ((j : Int) + 1), .int .u64 (cv : Nat), .int .i64 (Bd.length : Nat), .int .u32 (cr : Nat)]) (by rfl) (by rfl) (by kernel_rfl) (BS.blk 0 rfl) (by simp [Value.cells]) (by simp [Value.cells, Value.oneCell']) ?_
          intro wT hmT hBT
          refine hK _ _ ?_
          clear hK K
          have BT := BS.put (cs' := [.int .u64 ((j : Int) + 1), .int .u64 (cv : Nat), .int .i64 (Bd.length : Nat), .int .u32 (cr : Nat)]) hnf hmT hBT
          iterate 1 (refine wpT_n rfl rfl (fun K hK => ?_); go_wp2_with fail)
          refine wpT_nil ?_
          go_wp2_with fail
          go_meet
          exact ⟨n, L2, m2, n2, rfl, rfl, BT, T2, hd2, by omega⟩
        · have hcb := hgb
          refine wpT_callh rfl rfl (fun K hK => ?_)
          go_wp2_with (go_at_call 17; (with_reducible refine (CP _ _ hcb).mono ?_); rintro e wC ⟨vc, rfl, hoc, hnc, hmC⟩; obtain ⟨aoc, capc, rfl, _, _⟩ := hoc.sl.form)
          refine ⟨(agains_cons rfl (again_const (fun _ => rfl)) (agains_cons rfl (again_load rfl rfl (hmC.block x (B10.blk 1 rfl).lt (by simp)) (B10.blk 1 rfl).kinds) (agains_cons rfl (again_conv Tryd.underlying3 Tryd.underlying22 rfl rfl) (agains_cons rfl (again_const (fun _ => rfl)) agains_nil)))), ?_⟩
          have hocL : ∀ y ∈ blks (.slice aoc Bd.length capc), y ∉ p :: L := fun y hy hh => by have := B10.D.lt0 y hh; have := hnc y hy; omega
          have BC := B10.ext hmC
          refine wpT_nil ?_
          refine And.intro ?_ ?_
          · refine wpT_e rfl rfl (fun K hK => ?_)
            refine wp_alloc zero_header ?_
            intro n wA hA1 hA2 hmA hBA
            simp only [put_some, List.set_cons_succ, List.set_cons_zero]
            refine hK _ _ ⟨(agains_cons rfl (again_const (fun _ => rfl)) (agains_cons rfl (again_load rfl rfl (hmA.block x (BC.blk 1 rfl).lt (by simp)) (BC.blk 1 rfl).kinds) (agains_cons rfl (again_conv Tryd.underlying3 Tryd.underlying22 rfl rfl) (agains_cons rfl (again_const (fun _ => rfl)) agains_nil)))), ?_⟩
            clear hK K
            have hnf := BC.fresh hA1
            have BA := BC.new (cs := [.int .u64 0, .int .u64 0, .int .i64 0, .int .u32 0]) hmA hA1 hBA
            have hoc2 := (Ow.ext hoc hmA)
            have SV : Calls Tryd.prog 16 #[.pointer (some ⟨s, 0, none⟩), .slice aoc Bd.length capc, .int .u64 (cv : Nat)] wA (fun e w' => e = .returned (.tuple #[.agg #[.int .u64 ((j : Int) + 1), .int .u64 (cv : Nat), .int .i64 (Bd.length : Nat), .int .u32 (cr : Nat)], .int .i64 0]) ∧ ∃ L2 m2 n2, Bw w1 w' p q P Q (Lv m2 n2) dvS L2 M ((n, 25, [.int .u64 0, .int .u64 0, .int .i64 0, .int .u32 0]) :: (g, 5, bv Bd) :: osB x p P s r a b h k 0 5 4) ∧ Mod (p :: L) wA w' ∧ Turn m2 0 5 4 (j + 1) ⟨j + 1, cv, (Bd.length : Nat), cr⟩ Bd ∧ m2.dur.length = 10 ∧ n2 ≤ n0 + 4 * 4 + 20) := by
              rw [HBL.out.1]
              exact BA.turnS (fun y hy => List.mem_cons_of_mem _ (List.mem_cons_of_mem _ (hy))) TR hT1 hdR (by omega) (by omega) (by omega) (by omega) (by omega) Bd _ cv (Ob.bs hoc2) (fun y hy => ⟨Ow.lt hoc2 y hy, hocL y hy⟩) HBL.out.2 (by omega) (by omega)
            refine wpT_call rfl rfl (fun K hK => ?_)
            go_wp2_with (go_at_call 16; (with_reducible refine (SV).mono ?_); rintro e wS ⟨rfl, L2, m2, n2, BS, hmS, T2, hd2, hn2⟩)
            clear SV
            iterate 3 (refine wpT_n rfl rfl (fun K hK => ?_); go_wp2_with fail)
            refine wpT_e0 rfl rfl (fun K hK => ?_)
            refine wp_store (u := .agg #[.int .u64 ((j : Int) + 1), .int .u64 (cv : Nat), .int .i64 (Bd.length : Nat), .int .u32 (cr : Nat)]) (by rfl) (by rfl) (by kernel_rfl) (BS.blk 0 rfl) (by simp [Value.cells]) (by simp [Value.cells, Value.oneCell']) ?_
            intro wT hmT hBT
            refine hK _ _ ?_
            clear hK K
            have BT := BS.put (cs' := [.int .u64 ((j : Int) + 1), .int .u64 (cv : Nat), .int .i64 (Bd.length : Nat), .int .u32 (cr : Nat)]) hnf hmT hBT
            iterate 1 (refine wpT_n rfl rfl (fun K hK => ?_); go_wp2_with fail)
            refine wpT_nil ?_
            go_wp2_with fail
            go_meet
            exact ⟨n, L2, m2, n2, rfl, rfl, BT, T2, hd2, by omega⟩
          · have hoc2 := hoc
            have SV : Calls Tryd.prog 16 #[.pointer (some ⟨s, 0, none⟩), .slice aoc Bd.length capc, .int .u64 (cv : Nat)] wC (fun e w' => e = .returned (.tuple #[.agg #[.int .u64 ((j : Int) + 1), .int .u64 (cv : Nat), .int .i64 (Bd.length : Nat), .int .u32 (cr : Nat)], .int .i64 0]) ∧ ∃ L2 m2 n2, Bw w1 w' p q P Q (Lv m2 n2) dvS L2 M ((g, 5, bv Bd) :: osB x p P s r a b h k 0 5 4) ∧ Mod (p :: L) wC w' ∧ Turn m2 0 5 4 (j + 1) ⟨j + 1, cv, (Bd.length : Nat), cr⟩ Bd ∧ m2.dur.length = 10 ∧ n2 ≤ n0 + 4 * 4 + 20) := by
              rw [HBL.out.1]
              exact BC.turnS (fun y hy => List.mem_cons_of_mem _ (hy)) TR hT1 hdR (by omega) (by omega) (by omega) (by omega) (by omega) Bd _ cv (Ob.bs hoc2) (fun y hy => ⟨Ow.lt hoc2 y hy, hocL y hy⟩) HBL.out.2 (by omega) (by omega)
            refine wpT_call rfl rfl (fun K hK => ?_)
            go_wp2_with (go_at_call 16; (with_reducible refine (SV).mono ?_); rintro e wS ⟨rfl, L2, m2, n2, BS, hmS, T2, hd2, hn2⟩)
            clear SV
            iterate 3 (refine wpT_n rfl rfl (fun K hK => ?_); go_wp2_with fail)
            refine wpT_nil ?_
            show WpT _ _ _ _ _ _
            refine wpT_e rfl rfl (fun K hK => ?_)
            refine wp_alloc zero_header ?_
            intro n wA hA1 hA2 hmA hBA
            simp only [put_some, List.set_cons_succ, List.set_cons_zero]
            refine hK _ _ ⟨(agains_cons rfl (again_const (fun _ => rfl)) (agains_cons rfl (again_load rfl rfl (hmA.block x (BS.blk 1 rfl).lt (by simp)) (BS.blk 1 rfl).kinds) (agains_cons rfl (again_conv Tryd.underlying3 Tryd.underlying22 rfl rfl) (agains_cons rfl (again_const (fun _ => rfl)) agains_nil)))), ?_⟩
            clear hK K
            have hnf := BS.fresh hA1
            have BA := BS.new (cs := [.int .u64 0, .int .u64 0, .int .i64 0, .int .u32 0]) hmA hA1 hBA
            refine wpT_e0 rfl rfl (fun K hK => ?_)
            refine wp_store (u := .agg #[.int .u64 ((j : Int) + 1), .int .u64 (cv : Nat), .int .i64 (Bd.length : Nat), .int .u32 (cr : Nat)]) (by rfl) (by rfl) (by kernel_rfl) (BA.blk 0 rfl) (by simp [Value.cells]) (by simp [Value.cells, Value.oneCell']) ?_
            intro wT hmT hBT
            refine hK _ _ ?_
            clear hK K
            have BT := BA.put (cs' := [.int .u64 ((j : Int) + 1), .int .u64 (cv : Nat), .int .i64 (Bd.length : Nat), .int .u32 (cr : Nat)]) hnf hmT hBT
            iterate 1 (refine wpT_n rfl rfl (fun K hK => ?_); go_wp2_with fail)
            refine wpT_nil ?_
            go_wp2_with fail
            go_meet
            exact ⟨n, L2, m2, n2, rfl, rfl, BT, T2, hd2, by omega⟩
      case rest =>
      obtain ⟨n, L2, m2, n2, rfl, rfl, B11, T2, hd2, hn2⟩ := hcut
      clear BR B5 TR hdR
      obtain ⟨A2, hA2⟩ : ∃ A, A = j % 2 := ⟨_, rfl⟩
      have hrem : Int.tmod (j : Int) 2 = (A2 : Nat) := by rw [hA2, Int.tmod_eq_emod_of_nonneg (by omega)]; rfl
      have hAe : (j + 1 - 1) % 2 = A2 := by rw [Nat.add_sub_cancel, hA2]
      clear hA2
      have LDg : ∀ (w : World) (O : List (Nat × TypeId × List Value)) (nn : Nat) (L : List Nat), Bw w1 w p q P Q (Lv m2 nn) dvS L M O → (∀ y ∈ osB x p P s r a b h k 0 5 4, y ∈ O) → nn ≤ 100 → Calls Tryd.prog 15 #[.pointer (some ⟨s, 0, none⟩)] w (fun e w' => ∃ bw n4, e = .returned (.tuple #[.agg #[.int .u64 ((j : Int) + 1), .int .u64 (cv : Nat), .int .i64 (Bd.length : Nat), .int .u32 (cr : Nat)], bw, .int .i64 (A2 : Nat), .int .i64 0]) ∧ Ob w' bw Bd ∧ New w bw ∧ Bw w1 w' p q P Q (Lv m2 n4) dvS L M O ∧ Mod [p] w w' ∧ n4 ≤ nn + 2 * 4 + 6) := fun w O nn L hB hO hn => by
        have := hB.turnL hO T2 hT1 hd2 (by omega) (by omega) (by omega) (by omega) (by omega)
        unfold TurnL at this
        rw [hAe] at this
        exact this
      clear hAe
      have SB := fun va vb w ha hb => same_any Bd Bd va vb w ha hb
      rw [decide_eq_true (rfl : Bd = Bd)] at SB
      have e1 := (B11.blk 2 rfl).cell' (i := 1) rfl
      go_wp2_with (first
                    | (with_reducible refine st_alloc ?_)
                    | (go_at_call 15; (with_reducible refine (LDg _ _ _ _ B11 (fun y hy => List.mem_cons_of_mem _ (List.mem_cons_of_mem _ (hy))) (by omega)).mono ?_); rintro e w12 ⟨bw, n3, rfl, hob, hnw, B12, hm12, hn3⟩; obtain ⟨aob, capb, rfl, _, _⟩ := hob.sl.form))
      refine StopOp.go rfl fun K hK => ?_
      refine wp_alloc zero_header ?_
      intro t13 w13 h131 h132 hm13 hB13
      simp only [put_some, List.set_cons_succ, List.set_cons_zero]
      refine hK _ _ ?_
      clear hK K
      have hf13 := B12.fresh h131
      go_wp2_with (with_reducible refine st_store ?_)
      refine StopOp.go rfl fun K hK => ?_
      refine wp_store (u := .agg #[.int .u64 ((j : Int) + 1), .int .u64 (cv : Nat), .int .i64 (Bd.length : Nat), .int .u32 (cr : Nat)]) (by rfl) (by rfl) (by kernel_rfl) hB13 (by simp [Value.cells]) (by simp [Value.cells, Value.oneCell']) ?_
      intro w14 hm14 hB14
      refine hK _ _ ?_
      clear hK K
      have B14 := (B12.new (cs := [.int .u64 0, .int .u64 0, .int .i64 0, .int .u32 0]) hm13 h131 hB13).put (cs' := [.int .u64 ((j : Int) + 1), .int .u64 (cv : Nat), .int .i64 (Bd.length : Nat), .int .u32 (cr : Nat)]) hf13 hm14 hB14
      have hob14 := Ow.ext hob (hm13.fresh hm14 (by simpa using h131))
      clear e1 B11 B12 hob hnw hm12 hm13 hm14 hB13 hB14 hf13
      have hwr := HWR.out
      have X0 := B14.blk 0 rfl
      have X1 := B14.blk 1 rfl
      have c0 := X0.cell' (i := 0) rfl
      have c1 := X0.cell' (i := 1) rfl
      have c2 := X0.cell' (i := 2) rfl
      have c3 := X0.cell' (i := 3) rfl
      have d0 := X1.cell' (i := 0) rfl
      have d1 := X1.cell' (i := 1) rfl
      have d2 := X1.cell' (i := 2) rfl
      have d3 := X1.cell' (i := 3) rfl
      have hgb : Bs w14 (.slice (some ⟨g, 0, none⟩) Bd.length Bd.length) Bd := Bs.of_blk (rest := []) (by rw [List.append_nil]; exact B14.blk 2 rfl) (Nat.le_refl _) (by omega)
      have hob14b := Ob.bs hob14
      go_upto_region 14 with (go_at_call 13; (with_reducible refine (SB _ _ _ hob14b hgb).mono ?_); rintro e w15 ⟨rfl, hm15⟩)
      have B15 := B14.ext hm15
      have hrow : (Lv m2 n3).m.row.length = 0 := by show m2.row.length = 0; rw [T2.row]; rfl
      have hre : (Lv m2 n3).re Fl = Lv m2 0 := by
        unfold Pv.re Lv
        dsimp only
        rw [crash_none T2.row]
      have PW := fun w h => pWaiting_any p q (Lv m2 n3) L2 w h
      have PR := fun fv w h hF hFL => pRestart_any p q (Lv m2 n3) L2 Fl fv w h (by omega) hF hFL
      have CF := fun w h => copyF_any Fl (.slice aof Fl.length capf) w h (by omega)
      rw [hrow] at PW
      rw [hre] at PR
      simp only [Int.natCast_zero] at PW
      clear hrow hre c0 c1 c2 c3 d0 d1 d2 d3 X0 X1 hob14 hob14b hgb hm15 B14 hwr hrem
      refine wp_region_T [⟨0, true, []⟩, ⟨1, true, []⟩, ⟨2, true, []⟩, ⟨3, true, []⟩, ⟨4, false, []⟩, ⟨5, true, []⟩, ⟨6, true, []⟩, ⟨7, true, []⟩, ⟨8, true, []⟩, ⟨9, true, []⟩, ⟨10, true, []⟩, ⟨11, true, []⟩, ⟨12, false, [8, 10]⟩, ⟨13, false, []⟩, ⟨14, true, []⟩, ⟨15, true, []⟩] (by kernel_rfl) (by kernel_rfl) ?_
      have hmd14 := Mod.drew [] w15
      obtain ⟨x14, hxd14⟩ : ∃ x, x = w15.drew := ⟨_, rfl⟩
      rw [← hxd14] at hmd14 ⊢
      clear hxd14
      have B16 := B15.ext hmd14
      have e0 := (B16.blk 3 rfl).cell' (i := 0) rfl
      have hD16 := B16.D
      have hF16 : Fs x14 (.slice aof Fl.length capf) Fl := Sl.ext hF1 B16.m
      iterate 4 (refine wpT_n rfl rfl (fun K hK => ?_); go_wp2_with fail)
      refine wpT_call rfl rfl (fun K hK => ?_)
      go_wp2_with (go_at_call 26; (with_reducible refine (PW _ hD16).mono ?_); rintro e w16 ⟨rfl, rfl⟩)
      iterate 2 (refine wpT_n rfl rfl (fun K hK => ?_); go_wp2_with fail)
      iterate 5 (refine wpT_gq (gi := 6) rfl rfl rfl rfl rfl (fun K hK => ?_); go_wp2_with fail)
      refine wpT_gcallh (gi := 6) rfl rfl rfl rfl (fun K hK => ?_)
      go_wp2_with (go_at_call 28; (with_reducible refine (CF _ hF16).mono ?_); rintro e w17 ⟨vf, rfl, hF17, hnf17, hm17⟩; obtain ⟨aog, capg, rfl, _, _⟩ := hF17.form)
      refine ⟨agains_cons rfl (again_const (fun _ => rfl)) (agains_cons rfl (again_load rfl rfl (hm17.block x (B16.blk 3 rfl).lt (by simp)) (B16.blk 3 rfl).kinds) agains_nil), ?_⟩
      have B17 := B16.ext hm17
      have hD17 := B17.D
      refine wpT_gcall (gi := 6) rfl rfl rfl rfl (fun K hK => ?_)
      go_wp2_with (go_at_call 27; (with_reducible refine (PR _ _ hD17 hF17 (fun _ y hy hh => by have := B16.D.lt0 y (List.mem_cons_of_mem _ hh); have := hnf17 y hy; omega)).mono ?_); rintro e w18 ⟨rfl, hq18⟩; obtain ⟨L3, B18, hm18⟩ := B17.dt hq18)
      refine wpT_gq (gi := 6) rfl rfl rfl rfl rfl (fun K hK => ?_)
      go_wp2_with fail
      refine wpT_n rfl rfl (fun K hK => ?_)
      go_wp2_with fail
      refine wpT_nil ?_
      clear e0 hD16 hF16 hF17 hnf17 hm17 B16 B17 hD17 hq18 hm18 B15 PW PR CF hmd14
      have e1 := (B18.blk 3 rfl).cell' (i := 1) rfl
      go_wp2_with (first
                    | (with_reducible refine st_alloc ?_)
                    | (go_at_call 15; (with_reducible refine (LDg _ _ _ _ B18 (fun y hy => List.mem_cons_of_mem _ (List.mem_cons_of_mem _ (List.mem_cons_of_mem _ (hy)))) (by omega)).mono ?_); rintro e w19 ⟨bw, n5, rfl, hob, hnw, B19, hm19, hn5⟩; obtain ⟨aoe, cape, rfl, _, _⟩ := hob.sl.form))
      refine StopOp.go rfl fun K hK => ?_
      refine wp_alloc zero_header ?_
      intro t17 w20 h171 h172 hm20 hB20
      simp only [put_some, List.set_cons_succ, List.set_cons_zero]
      refine hK _ _ ?_
      clear hK K
      have hf20 := B19.fresh h171
      go_wp2_with (with_reducible refine st_store ?_)
      refine StopOp.go rfl fun K hK => ?_
      refine wp_store (u := .agg #[.int .u64 ((j : Int) + 1), .int .u64 (cv : Nat), .int .i64 (Bd.length : Nat), .int .u32 (cr : Nat)]) (by rfl) (by rfl) (by kernel_rfl) hB20 (by simp [Value.cells]) (by simp [Value.cells, Value.oneCell']) ?_
      intro w21 hm21 hB21
      refine hK _ _ ?_
      clear hK K
      have B21 := (B19.new (cs := [.int .u64 0, .int .u64 0, .int .i64 0, .int .u32 0]) hm20 h171 hB20).put (cs' := [.int .u64 ((j : Int) + 1), .int .u64 (cv : Nat), .int .i64 (Bd.length : Nat), .int .u32 (cr : Nat)]) hf20 hm21 hB21
      have hob21 := Ow.ext hob (hm20.fresh hm21 (by simpa using h171))
      clear e1 B18 B19 hob hnw hm19 hm20 hm21 hB20 hB21 hf20
      have X0 := B21.blk 0 rfl
      have X1 := B21.blk 2 rfl
      have c0 := X0.cell' (i := 0) rfl
      have c1 := X0.cell' (i := 1) rfl
      have c2 := X0.cell' (i := 2) rfl
      have c3 := X0.cell' (i := 3) rfl
      have d0 := X1.cell' (i := 0) rfl
      have d1 := X1.cell' (i := 1) rfl
      have d2 := X1.cell' (i := 2) rfl
      have d3 := X1.cell' (i := 3) rfl
      have hgb : Bs w21 (.slice (some ⟨g, 0, none⟩) Bd.length Bd.length) Bd := Bs.of_blk (rest := []) (by rw [List.append_nil]; exact B21.blk 3 rfl) (Nat.le_refl _) (by omega)
      have hob21b := Ob.bs hob21
      go_wp2_with (go_at_call 13; (with_reducible refine (SB _ _ _ hob21b hgb).mono ?_); rintro e w22 ⟨rfl, hm22⟩)
      have BZ := (B21.ext hm22).sub (fun y hy => List.mem_cons_of_mem _ (List.mem_cons_of_mem _ (List.mem_cons_of_mem _ (List.mem_cons_of_mem _ (hy)))))
      go_roundw
      case rel => exact ⟨j + 1, L3, m2, n5, _, _, by go_num, by omega, BZ, T2, hd2, by omega⟩
      case measure => simp [intOf]; omega
    | false =>
      clear HC
      have BY : ∀ w, Sls w s a b → Rgn w a p 0 4 64 → Calls Tryd.prog 18 #[.pointer (some ⟨s, 0, none⟩)] w fun e w' => e = .returned (.int .i64 192) ∧ Mod [] w w' := fun w h1 h2 => sBytes_any s a b p 0 4 64 w h1 h2 (by omega) (by omega)
      have FI : ∀ w, Calls Tryd.prog 25 #[.int .i64 1, .int .i64 193] w fun e w' => ∃ g, e = .returned (.slice (some ⟨g, 0, none⟩) 193 193) ∧ Blk w' g 5 (bv (filS 1 193)) ∧ w.heap.size ≤ g ∧ Mod [] w w' := fun w => sfillB_any 1 193 w (by omega)
      have hBl : (filS 1 193).length = 193 := filS_len 1 193
      obtain ⟨Bd, hBd⟩ : ∃ B, B = filS 1 193 := ⟨_, rfl⟩
      rw [← hBd] at FI hBl
      clear hBd
      have HBL := Lib.hid hBl
      clear hBl
      go_wp2_with fail
      refine wp_region_Tr 15 [⟨0, true, []⟩, ⟨1, true, []⟩, ⟨2, true, []⟩, ⟨3, true, []⟩, ⟨4, true, []⟩, ⟨5, true, []⟩, ⟨6, true, []⟩, ⟨7, true, []⟩] (Tr.br [⟨15, false, [1, 3, 5, 7]⟩, ⟨8, false, [1, 3]⟩, ⟨9, true, []⟩, ⟨10, false, [1, 3]⟩, ⟨11, false, []⟩, ⟨12, true, []⟩, ⟨13, true, []⟩, ⟨14, true, []⟩, ⟨16, false, []⟩, ⟨17, true, []⟩] ⟨8, false, [1, 3]⟩ [⟨9, true, []⟩] (Tr.br [⟨15, false, [1, 3, 5, 7, 9]⟩, ⟨10, false, [1, 3]⟩, ⟨11, false, []⟩, ⟨12, true, []⟩, ⟨13, true, []⟩, ⟨14, true, []⟩, ⟨16, false, []⟩, ⟨17, true, []⟩] ⟨10, false, [1, 3]⟩ [] (Tr.br [⟨15, false, [1, 3, 5, 7, 9]⟩, ⟨11, false, []⟩, ⟨12, true, []⟩, ⟨13, true, []⟩, ⟨14, true, []⟩, ⟨16, false, []⟩, ⟨17, true, []⟩] ⟨11, false, []⟩ [⟨12, true, []⟩, ⟨13, true, []⟩, ⟨14, true, []⟩] (Tr.fin [⟨15, false, [1, 3, 5, 7, 9]⟩, ⟨16, false, []⟩, ⟨17, true, []⟩])))) (by kernel_rfl) (by kernel_rfl) ?_
      have hm19 := Mod.drew [] wr
      obtain ⟨x19, hx19⟩ : ∃ x, x = wr.drew := ⟨_, rfl⟩
      rw [← hx19] at hm19 ⊢
      clear hx19
      have B19 := BR.ext hm19
      have e1 := (B19.blk 0 rfl).cell' (i := 1) rfl
      iterate 8 (refine wpT_n rfl rfl (fun K hK => ?_); go_wp2_with fail)
      refine wpT_nil ?_
      refine And.intro ?_ ?_
      · refine wpT_e rfl rfl (fun K hK => ?_)
        refine wp_alloc zero_header ?_
        intro n wA hA1 hA2 hmA hBA
        simp only [put_some, List.set_cons_succ, List.set_cons_zero]
        refine hK _ _ ⟨(agains_cons rfl (again_const (fun _ => rfl)) (agains_cons rfl (again_load rfl rfl (hmA.block x (B19.blk 0 rfl).lt (by simp)) (B19.blk 0 rfl).kinds) (agains_cons rfl (again_const (fun _ => rfl)) (agains_cons rfl (again_load rfl rfl (hmA.block x (B19.blk 0 rfl).lt (by simp)) (B19.blk 0 rfl).kinds) agains_nil)))), ?_⟩
        clear hK K
        have hnf := B19.fresh hA1
        have BA := B19.new (cs := [.int .u64 0, .int .u64 0, .int .i64 0, .int .u32 0]) hmA hA1 hBA
        have S1 : Sls wA s a b := BA.blk 2 rfl
        have S2 : Rgn wA a p 0 4 64 := BA.blk 4 rfl
        refine wpT_callh rfl rfl (fun K hK => ?_)
        go_wp2_with (go_at_call 18; (with_reducible refine (BY _ S1 S2).mono ?_); rintro e wB ⟨rfl, hmB⟩)
        refine ⟨(agains_cons rfl (again_const (fun _ => rfl)) (agains_cons rfl (again_load rfl rfl (hmB.block x (BA.blk 1 rfl).lt (by simp)) (BA.blk 1 rfl).kinds) agains_nil)), ?_⟩
        have BB := BA.ext hmB
        iterate 1 (refine wpT_n rfl rfl (fun K hK => ?_); go_wp2_with fail)
        refine wpT_callh rfl rfl (fun K hK => ?_)
        go_wp2_with (go_at_call 25; (with_reducible refine (FI _).mono ?_); rintro e wF ⟨g, rfl, hBg, hg1, hmF⟩)
        refine ⟨(agains_cons rfl (again_const (fun _ => rfl)) (agains_cons rfl (again_load rfl rfl (hmF.block x (BB.blk 1 rfl).lt (by simp)) (BB.blk 1 rfl).kinds) agains_nil)), ?_⟩
        have BF := BB.new hmF hg1 hBg
        have hng : n ≠ g := by have := (BB.blk 0 rfl).lt; omega
        have hgb : Bs wF (.slice (some ⟨g, 0, none⟩) 193 193) Bd := Bs.onz (Bs.of_blk (rest := []) (c := 193) (by rw [List.append_nil]; exact BF.blk 0 rfl) (by rw [HBL.out]; exact Nat.le_refl _) (by omega)) HBL.out
        have SV : Calls Tryd.prog 16 #[.pointer (some ⟨s, 0, none⟩), .slice (some ⟨g, 0, none⟩) 193 193, .int .u64 0] wF (fun e w' => e = .returned (.tuple #[.agg #[.int .u64 0, .int .u64 0, .int .i64 0, .int .u32 0], .int .i64 3]) ∧ ∃ L2, Bw w1 w' p q P Q (Lv m n0) dvS L2 M ((g, 5, bv Bd) :: (n, 25, [.int .u64 0, .int .u64 0, .int .i64 0, .int .u32 0]) :: osB x p P s r a b h k 0 5 4) ∧ Mod (p :: L) wF w') := by
          have hh := BF.save (fun y hy => List.mem_cons_of_mem _ (List.mem_cons_of_mem _ (hy))) hT1 TR.sz hdR (by omega) (by omega) (by show n0 ≤ _; omega) (by show m.row.length ≤ _; rw [TR.row]; simp) Bd _ 0 hgb (fun y hy => by have e : y = g := (by simpa [blks] using hy); subst e; exact ⟨(BF.blk 0 rfl).lt, BF.outD 0 rfl⟩) (by omega)
          unfold SaveB at hh
          rw [saveG_long (by rw [HBL.out]; decide)] at hh
          exact hh
        refine wpT_call rfl rfl (fun K hK => ?_)
        go_wp2_with (go_at_call 16; (with_reducible refine (SV).mono ?_); rintro e wS ⟨rfl, L2, BS, hmS⟩)
        clear SV
        iterate 3 (refine wpT_n rfl rfl (fun K hK => ?_); go_wp2_with fail)
        have BX := BS.sub (O2 := (n, 25, [.int .u64 0, .int .u64 0, .int .i64 0, .int .u32 0]) :: osB x p P s r a b h k 0 5 4) (by intro y hy; rcases List.mem_cons.1 hy with rfl | hy; (exact List.mem_cons_of_mem _ List.mem_cons_self); exact List.mem_cons_of_mem _ (List.mem_cons_of_mem _ hy))
        refine wpT_e0 rfl rfl (fun K hK => ?_)
        refine wp_store (u := .agg #[.int .u64 0, .int .u64 0, .int .i64 0, .int .u32 0]) (by rfl) (by rfl) (by kernel_rfl) (BX.blk 0 rfl) (by simp [Value.cells]) (by simp [Value.cells, Value.oneCell']) ?_
        intro wT hmT hBT
        refine hK _ _ ?_
        clear hK K
        have BT := BX.put (cs' := [.int .u64 0, .int .u64 0, .int .i64 0, .int .u32 0]) hnf hmT hBT
        iterate 1 (refine wpT_n rfl rfl (fun K hK => ?_); go_wp2_with fail)
        refine wpT_nil ?_
        go_wp2_with fail
        go_ret
        exact ⟨rfl, hm1.ext BT.m⟩
      · have S1 : Sls x19 s a b := B19.blk 1 rfl
        have S2 : Rgn x19 a p 0 4 64 := B19.blk 3 rfl
        refine wpT_callh rfl rfl (fun K hK => ?_)
        go_wp2_with (go_at_call 18; (with_reducible refine (BY _ S1 S2).mono ?_); rintro e wB ⟨rfl, hmB⟩)
        refine ⟨(agains_cons rfl (again_const (fun _ => rfl)) (agains_cons rfl (again_load rfl rfl (hmB.block x (B19.blk 0 rfl).lt (by simp)) (B19.blk 0 rfl).kinds) agains_nil)), ?_⟩
        have BB := B19.ext hmB
        iterate 1 (refine wpT_n rfl rfl (fun K hK => ?_); go_wp2_with fail)
        refine wpT_nil ?_
        refine And.intro ?_ ?_
        · refine wpT_e rfl rfl (fun K hK => ?_)
          refine wp_alloc zero_header ?_
          intro n wA hA1 hA2 hmA hBA
          simp only [put_some, List.set_cons_succ, List.set_cons_zero]
          refine hK _ _ ⟨(agains_cons rfl (again_const (fun _ => rfl)) (agains_cons rfl (again_load rfl rfl (hmA.block x (BB.blk 0 rfl).lt (by simp)) (BB.blk 0 rfl).kinds) (agains_cons rfl (again_const (fun _ => rfl)) (agains_cons rfl (again_load rfl rfl (hmA.block x (BB.blk 0 rfl).lt (by simp)) (BB.blk 0 rfl).kinds) (agains_cons rfl (again_const (fun _ => rfl)) agains_nil))))), ?_⟩
          clear hK K
          have hnf := BB.fresh hA1
          have BA := BB.new (cs := [.int .u64 0, .int .u64 0, .int .i64 0, .int .u32 0]) hmA hA1 hBA
          refine wpT_callh rfl rfl (fun K hK => ?_)
          go_wp2_with (go_at_call 25; (with_reducible refine (FI _).mono ?_); rintro e wF ⟨g, rfl, hBg, hg1, hmF⟩)
          refine ⟨(agains_cons rfl (again_const (fun _ => rfl)) (agains_cons rfl (again_load rfl rfl (hmF.block x (BA.blk 1 rfl).lt (by simp)) (BA.blk 1 rfl).kinds) agains_nil)), ?_⟩
          have BF := BA.new hmF hg1 hBg
          have hng : n ≠ g := by have := (BA.blk 0 rfl).lt; omega
          have hgb : Bs wF (.slice (some ⟨g, 0, none⟩) 193 193) Bd := Bs.onz (Bs.of_blk (rest := []) (c := 193) (by rw [List.append_nil]; exact BF.blk 0 rfl) (by rw [HBL.out]; exact Nat.le_refl _) (by omega)) HBL.out
          have SV : Calls Tryd.prog 16 #[.pointer (some ⟨s, 0, none⟩), .slice (some ⟨g, 0, none⟩) 193 193, .int .u64 0] wF (fun e w' => e = .returned (.tuple #[.agg #[.int .u64 0, .int .u64 0, .int .i64 0, .int .u32 0], .int .i64 3]) ∧ ∃ L2, Bw w1 w' p q P Q (Lv m n0) dvS L2 M ((g, 5, bv Bd) :: (n, 25, [.int .u64 0, .int .u64 0, .int .i64 0, .int .u32 0]) :: osB x p P s r a b h k 0 5 4) ∧ Mod (p :: L) wF w') := by
            have hh := BF.save (fun y hy => List.mem_cons_of_mem _ (List.mem_cons_of_mem _ (hy))) hT1 TR.sz hdR (by omega) (by omega) (by show n0 ≤ _; omega) (by show m.row.length ≤ _; rw [TR.row]; simp) Bd _ 0 hgb (fun y hy => by have e : y = g := (by simpa [blks] using hy); subst e; exact ⟨(BF.blk 0 rfl).lt, BF.outD 0 rfl⟩) (by omega)
            unfold SaveB at hh
            rw [saveG_long (by rw [HBL.out]; decide)] at hh
            exact hh
          refine wpT_call rfl rfl (fun K hK => ?_)
          go_wp2_with (go_at_call 16; (with_reducible refine (SV).mono ?_); rintro e wS ⟨rfl, L2, BS, hmS⟩)
          clear SV
          iterate 3 (refine wpT_n rfl rfl (fun K hK => ?_); go_wp2_with fail)
          have BX := BS.sub (O2 := (n, 25, [.int .u64 0, .int .u64 0, .int .i64 0, .int .u32 0]) :: osB x p P s r a b h k 0 5 4) (by intro y hy; rcases List.mem_cons.1 hy with rfl | hy; (exact List.mem_cons_of_mem _ List.mem_cons_self); exact List.mem_cons_of_mem _ (List.mem_cons_of_mem _ hy))
          refine wpT_e0 rfl rfl (fun K hK => ?_)
          refine wp_store (u := .agg #[.int .u64 0, .int .u64 0, .int .i64 0, .int .u32 0]) (by rfl) (by rfl) (by kernel_rfl) (BX.blk 0 rfl) (by simp [Value.cells]) (by simp [Value.cells, Value.oneCell']) ?_
          intro wT hmT hBT
          refine hK _ _ ?_
          clear hK K
          have BT := BX.put (cs' := [.int .u64 0, .int .u64 0, .int .i64 0, .int .u32 0]) hnf hmT hBT
          iterate 1 (refine wpT_n rfl rfl (fun K hK => ?_); go_wp2_with fail)
          refine wpT_nil ?_
          go_wp2_with fail
          go_ret
          exact ⟨rfl, hm1.ext BT.m⟩
        · refine wpT_callh rfl rfl (fun K hK => ?_)
          go_wp2_with (go_at_call 25; (with_reducible refine (FI _).mono ?_); rintro e wF ⟨g, rfl, hBg, hg1, hmF⟩)
          refine ⟨(agains_cons rfl (again_const (fun _ => rfl)) (agains_cons rfl (again_load rfl rfl (hmF.block x (BB.blk 0 rfl).lt (by simp)) (BB.blk 0 rfl).kinds) agains_nil)), ?_⟩
          have BF := BB.new hmF hg1 hBg
          refine wpT_nil ?_
          refine And.intro ?_ ?_
          · refine wpT_e rfl rfl (fun K hK => ?_)
            refine wp_alloc zero_header ?_
            intro n wA hA1 hA2 hmA hBA
            simp only [put_some, List.set_cons_succ, List.set_cons_zero]
            refine hK _ _ ⟨(agains_cons rfl (again_const (fun _ => rfl)) (agains_cons rfl (again_load rfl rfl (hmA.block x (BF.blk 1 rfl).lt (by simp)) (BF.blk 1 rfl).kinds) (agains_cons rfl (again_const (fun _ => rfl)) (agains_cons rfl (again_load rfl rfl (hmA.block x (BF.blk 1 rfl).lt (by simp)) (BF.blk 1 rfl).kinds) (agains_cons rfl (again_const (fun _ => rfl)) agains_nil))))), ?_⟩
            clear hK K
            have hnf := BF.fresh hA1
            have BA := BF.new (cs := [.int .u64 0, .int .u64 0, .int .i64 0, .int .u32 0]) hmA hA1 hBA
            have hgb : Bs wA (.slice (some ⟨g, 0, none⟩) 193 193) Bd := Bs.onz (Bs.of_blk (rest := []) (c := 193) (by rw [List.append_nil]; exact BA.blk 1 rfl) (by rw [HBL.out]; exact Nat.le_refl _) (by omega)) HBL.out
            have SV : Calls Tryd.prog 16 #[.pointer (some ⟨s, 0, none⟩), .slice (some ⟨g, 0, none⟩) 193 193, .int .u64 0] wA (fun e w' => e = .returned (.tuple #[.agg #[.int .u64 0, .int .u64 0, .int .i64 0, .int .u32 0], .int .i64 3]) ∧ ∃ L2, Bw w1 w' p q P Q (Lv m n0) dvS L2 M ((n, 25, [.int .u64 0, .int .u64 0, .int .i64 0, .int .u32 0]) :: (g, 5, bv Bd) :: osB x p P s r a b h k 0 5 4) ∧ Mod (p :: L) wA w') := by
              have hh := BA.save (fun y hy => List.mem_cons_of_mem _ (List.mem_cons_of_mem _ (hy))) hT1 TR.sz hdR (by omega) (by omega) (by show n0 ≤ _; omega) (by show m.row.length ≤ _; rw [TR.row]; simp) Bd _ 0 hgb (fun y hy => by have e : y = g := (by simpa [blks] using hy); subst e; exact ⟨(BA.blk 1 rfl).lt, BA.outD 1 rfl⟩) (by omega)
              unfold SaveB at hh
              rw [saveG_long (by rw [HBL.out]; decide)] at hh
              exact hh
            refine wpT_call rfl rfl (fun K hK => ?_)
            go_wp2_with (go_at_call 16; (with_reducible refine (SV).mono ?_); rintro e wS ⟨rfl, L2, BS, hmS⟩)
            clear SV
            iterate 3 (refine wpT_n rfl rfl (fun K hK => ?_); go_wp2_with fail)
            refine wpT_e0 rfl rfl (fun K hK => ?_)
            refine wp_store (u := .agg #[.int .u64 0, .int .u64 0, .int .i64 0, .int .u32 0]) (by rfl) (by rfl) (by kernel_rfl) (BS.blk 0 rfl) (by simp [Value.cells]) (by simp [Value.cells, Value.oneCell']) ?_
            intro wT hmT hBT
            refine hK _ _ ?_
            clear hK K
            have BT := BS.put (cs' := [.int .u64 0, .int .u64 0, .int .i64 0, .int .u32 0]) hnf hmT hBT
            iterate 1 (refine wpT_n rfl rfl (fun K hK => ?_); go_wp2_with fail)
            refine wpT_nil ?_
            go_wp2_with fail
            go_ret
            exact ⟨rfl, hm1.ext BT.m⟩
          · have hgb : Bs wF (.slice (some ⟨g, 0, none⟩) 193 193) Bd := Bs.onz (Bs.of_blk (rest := []) (c := 193) (by rw [List.append_nil]; exact BF.blk 0 rfl) (by rw [HBL.out]; exact Nat.le_refl _) (by omega)) HBL.out
            have SV : Calls Tryd.prog 16 #[.pointer (some ⟨s, 0, none⟩), .slice (some ⟨g, 0, none⟩) 193 193, .int .u64 0] wF (fun e w' => e = .returned (.tuple #[.agg #[.int .u64 0, .int .u64 0, .int .i64 0, .int .u32 0], .int .i64 3]) ∧ ∃ L2, Bw w1 w' p q P Q (Lv m n0) dvS L2 M ((g, 5, bv Bd) :: osB x p P s r a b h k 0 5 4) ∧ Mod (p :: L) wF w') := by
              have hh := BF.save (fun y hy => List.mem_cons_of_mem _ (hy)) hT1 TR.sz hdR (by omega) (by omega) (by show n0 ≤ _; omega) (by show m.row.length ≤ _; rw [TR.row]; simp) Bd _ 0 hgb (fun y hy => by have e : y = g := (by simpa [blks] using hy); subst e; exact ⟨(BF.blk 0 rfl).lt, BF.outD 0 rfl⟩) (by omega)
              unfold SaveB at hh
              rw [saveG_long (by rw [HBL.out]; decide)] at hh
              exact hh
            refine wpT_call rfl rfl (fun K hK => ?_)
            go_wp2_with (go_at_call 16; (with_reducible refine (SV).mono ?_); rintro e wS ⟨rfl, L2, BS, hmS⟩)
            clear SV
            iterate 3 (refine wpT_n rfl rfl (fun K hK => ?_); go_wp2_with fail)
            refine wpT_nil ?_
            show WpT _ _ _ _ _ _
            refine wpT_e rfl rfl (fun K hK => ?_)
            refine wp_alloc zero_header ?_
            intro n wA hA1 hA2 hmA hBA
            simp only [put_some, List.set_cons_succ, List.set_cons_zero]
            refine hK _ _ ⟨(agains_cons rfl (again_const (fun _ => rfl)) (agains_cons rfl (again_load rfl rfl (hmA.block x (BS.blk 1 rfl).lt (by simp)) (BS.blk 1 rfl).kinds) (agains_cons rfl (again_const (fun _ => rfl)) (agains_cons rfl (again_load rfl rfl (hmA.block x (BS.blk 1 rfl).lt (by simp)) (BS.blk 1 rfl).kinds) (agains_cons rfl (again_const (fun _ => rfl)) agains_nil))))), ?_⟩
            clear hK K
            have hnf := BS.fresh hA1
            have BA := BS.new (cs := [.int .u64 0, .int .u64 0, .int .i64 0, .int .u32 0]) hmA hA1 hBA
            refine wpT_e0 rfl rfl (fun K hK => ?_)
            refine wp_store (u := .agg #[.int .u64 0, .int .u64 0, .int .i64 0, .int .u32 0]) (by rfl) (by rfl) (by kernel_rfl) (BA.blk 0 rfl) (by simp [Value.cells]) (by simp [Value.cells, Value.oneCell']) ?_
            intro wT hmT hBT
            refine hK _ _ ?_
            clear hK K
            have BT := BA.put (cs' := [.int .u64 0, .int .u64 0, .int .i64 0, .int .u32 0]) hnf hmT hBT
            iterate 1 (refine wpT_n rfl rfl (fun K hK => ?_); go_wp2_with fail)
            refine wpT_nil ?_
            go_wp2_with fail
            go_ret
            exact ⟨rfl, hm1.ext BT.m⟩
end Go.Proofs.YtminfegoldgjpaaDoor
