import Derived.Test.YtdmnogmhnhjdgaaPwF
import Derived.Test.YtdmnogmhnhjdgaaDkI
import Derived.Deep.DeepCutAuto
/-! PowerCuts: its walk. -/
set_option linter.unusedVariables false
set_option linter.unusedSimpArgs false
set_option maxRecDepth 100000
namespace Go.Proofs.Ytdmnogmhnhjdgaa
open Go.RowKit Gw

theorem few6_any (ao : Option Addr) (n cap : Nat) (w : World) (hc : n ≤ cap) (hc2 : cap ≤ 9223372036854775807) : Calls Try.prog 15 #[.slice ao n cap] w fun e w' => e = .returned (.slice ao (min n 80) cap) ∧ w = w' := by
  by_cases h : n ≤ 80
  · rw [Nat.min_eq_left h]
    have y : (n : Int) ≤ 80 := by omega
    go_enter Try.func15, Try.ntmps15
    go_wp2_with fail
    go_ret
    exact ⟨rfl, rfl⟩
  · rw [Nat.min_eq_right (by omega)]
    have y : (80 : Int) < n := by omega
    have y2 : 80 ≤ cap := by omega
    go_enter Try.func15, Try.ntmps15
    go_wp2_with fail
    go_ret
    exact ⟨rfl, rfl⟩
theorem zero_pop : (Try.prog.info? 37).map (·.zero) = some (some (.agg #[.int .i64 0, .int .i64 0, .int .i64 0, .slice none 0 0, .bool false, .slice none 0 0])) := by kernel_rfl
/-- a step that is none else is a Sync -/
def normO (o : Pop) : Pop := if o.k = 1 ∨ o.k = 2 then o else { o with k := 3 }
theorem normO_ok {w : World} {o : Pop} (h : OkPop w o) : OkPop w (normO o) := by
  unfold normO
  split
  · exact h
  · exact ⟨h.b, h.fs, h.old, ⟨show (-9223372036854775808 : Int) ≤ 3 by decide, show (3 : Int) ≤ 9223372036854775807 by decide⟩, h.n, h.a, h.l, h.f⟩
section
variable {W w w' : World} {u p q : Nat} {Lu L L' Lu' : List Nat} {v v' : Pv} {m m' : Dm}
theorem Cut.ask (h : Cut W w u Lu p q v L) (hP : Ps W w' p q v' L') (hm : Mod (p :: L) w w') (hL : ∀ k ∈ L', k ∈ L ∨ w.heap.size ≤ k) : Dk w' u v.m Lu ∧ ∀ k ∈ Lu, k ∉ p :: L' :=
  ⟨h.u.mod hm h.ap, fun k hk hh => by
    rcases List.mem_cons.1 hh with e | e
    · exact h.ap k hk (by rw [e]; exact List.mem_cons_self)
    · exact (hL k e).elim (fun h1 => h.ap k hk (List.mem_cons_of_mem _ h1)) fun h1 => by have := h.u.lt k hk; omega⟩
theorem Cut.dk (hu : Dk w u m Lu) (hap : ∀ k ∈ Lu, k ∉ p :: L) (huo : ∀ k ∈ Lu, W.heap.size ≤ k) (hP : Ps W w p q v L) (hD : Dk w' u m' Lu') (hm : Mod Lu w w') (hL : ∀ k ∈ Lu', k ∈ Lu ∨ w.heap.size ≤ k) (he : m' = v.m) : Cut W w' u Lu' p q v L :=
  ⟨he ▸ hD, hP.keep hm hap huo, fun k hk => (hL k hk).elim (huo k) fun h1 => Nat.le_trans hP.m.size h1, fun k hk hh => (hL k hk).elim (fun h1 => hap k h1 hh) fun h1 => by
    rcases List.mem_cons.1 hh with e | e
    · have := hP.d.b.lt; omega
    · have := hP.d.d.lt k e; omega⟩
end
theorem Cut.ext {W w w' : World} {u p q : Nat} {Lu L : List Nat} {v : Pv} (h : Cut W w u Lu p q v L) (hm : Mod [] w w') : Cut W w' u Lu p q v L := ⟨h.u.ext hm, h.d.ext hm, h.uo, h.ap⟩
theorem askV_row (v : Pv) (o : Pop) : (askV v o).m.row.length ≤ v.m.row.length + 1 := by
  rcases v.go_cases with ⟨h, _⟩ | h
  · rw [askV_go h]; exact doM_rows _ _
  · rw [askV_no h, Pv.md_m]; omega
theorem shl_01 (k : Int) (h : k = 0 ∨ k = 1) : (64 * 2 ^ k.toNat : Nat) = 64 ∨ (64 * 2 ^ k.toNat : Nat) = 128 := by rcases h with rfl | rfl <;> simp
set_option maxRecDepth 1000000 in
set_option maxHeartbeats 16000000 in
theorem powerCuts_core (s z n : Int) (sv fv : Value) (os : List Pop) (F : List (Int × Int)) (W : World) (hs : Pops W sv os) (hF : Fs W fv F) (hFo : F ≠ [] → ∀ b ∈ blks fv, b < W.heap.size) (hFl : F.length ≤ 1048576) (ws : i64 s) (wz : i64 z) (wn : i64 n) :
    Calls Try.prog 3 #[.int .i64 s, .int .i64 z, sv, .int .i64 n, fv] W fun e w' => e = .returned (.bool true) ∧ Mod [] W w' := by
  obtain ⟨hs1, hs2⟩ := hs
  obtain ⟨aos, caps, rfl, hcs, hcs2⟩ := hs1.form
  obtain ⟨aof, capf, rfl, hcf, hcf2⟩ := hF.form
  have hone := Sl.one hF
  have hT := pops_take (k := min os.length 80) hs1 (Nat.min_le_left _ _)
  have hT2 : ∀ o ∈ os.take (min os.length 80), OkPop W o := fun o ho => hs2 o (List.mem_of_mem_take ho)
  have hTl : (os.take (min os.length 80)).length = min os.length 80 := by rw [List.length_take]; omega
  have FE := fun w => few6_any aos os.length caps w hcs hcs2
  obtain ⟨N, hN⟩ : ∃ N, N = min os.length 80 := ⟨_, rfl⟩
  obtain ⟨T, hTT⟩ : ∃ T, T = os.take N := ⟨_, rfl⟩
  rw [← hN] at FE hT hT2 hTl
  have hN80 : N ≤ 80 := by omega
  rw [← hTT] at hT hT2 hTl
  clear hN hTT hs1 hs2 hcs hcs2
  have AW := fun w => pwawake_any w
  have P8 := fun w => pick_any s 8 w ws.1 ws.2 (by omega) (by omega)
  have P2 := fun w => pick_any z 2 w wz.1 wz.2 (by omega) (by omega)
  have g8 := pick_ge s 8
  have l8 := pick_lt s 8 (by omega)
  have g2 := pick_ge z 2
  have l2 := pick_lt z 2 (by omega)
  obtain ⟨k8, hk8⟩ : ∃ k, k = (pick s 8).toNat := ⟨_, rfl⟩
  obtain ⟨Z, hZ⟩ : ∃ Z, Z = pick z 2 := ⟨_, rfl⟩
  rw [show pick s 8 = (k8 : Int) by omega] at P8 l8
  rw [← hZ] at P2 g2 l2
  clear hk8 hZ g8
  have key : ∀ ZZ : Nat, (ZZ = 64 ∨ ZZ = 128) → ((ZZ : Nat) : Int) = wrap64 (64 * 2 ^ Z.toNat) → Calls Try.prog 3 #[.int .i64 s, .int .i64 z, .slice aos os.length caps, .int .i64 n, .slice aof F.length capf] W fun e w' => e = .returned (.bool true) ∧ Mod [] W w' := by
    intro ZZ hZZ hsh
    have hmay := may_small (1 + k8) (by omega) (by omega) ZZ hZZ
    have N0 := fun w => dnew_yes (1 + k8) ZZ w hmay
    unfold NewD at N0
    have hok0 : (Dm.mk ZZ (List.replicate (1 + k8) (zeros ZZ)) []).ok := by
      refine ⟨?_, ?_, ?_, ?_, ?_, ?_⟩ <;> simp [zeros] <;> omega
    obtain ⟨m0, hm0⟩ : ∃ m : Dm, m = ⟨ZZ, List.replicate (1 + k8) (zeros ZZ), []⟩ := ⟨_, rfl⟩
    have hrow0 : m0.row.length = 0 := by rw [hm0]; rfl
    rw [← hm0] at N0 hok0
    clear hm0
    obtain ⟨SS, hSS⟩ : ∃ S : Nat, S = 1 + k8 := ⟨_, rfl⟩
    rw [← hSS] at N0
    rw [hsh, show ((SS : Nat) : Int) = 1 + (k8 : Int) by omega] at N0
    clear hSS
    have PN := fun w q L h => pnew_yes q m0 L w h hok0
    have AR := fun w p q L h => pArm_any p q ⟨m0, false, -1, 0⟩ L n w h wn.2
    have s2 : (Pv.mk m0 false (-1) 0).arm n = ⟨m0, false, max n (-1), 0⟩ := rfl
    simp only [s2, Bool.false_eq_true, if_false] at AR
    clear s2
    have hSt0 : StA n ⟨m0, false, max n (-1), 0⟩ 0 := ⟨rfl, .inl ⟨rfl, fun h => by show max n (-1) = -1; omega, fun h => by show max n (-1) = n - 0 ∧ _; omega⟩⟩
    obtain ⟨v0, hv0⟩ : ∃ v : Pv, v = ⟨m0, false, max n (-1), 0⟩ := ⟨_, rfl⟩
    have hm00 : v0.m = m0 := by rw [hv0]
    rw [← hv0] at AR hSt0
    have hrv0 : v0.m.row.length = 0 := by rw [hm00]; exact hrow0
    clear hv0
    go_enter Try.func3, Try.ntmps3
    go_wp2_with (go_at_call 10; (with_reducible refine (AW _).mono ?_); rintro e w1 ⟨rfl, hm1⟩)
    refine wp_region_T [⟨0, true, []⟩, ⟨3, true, []⟩, ⟨1, false, []⟩, ⟨2, true, []⟩, ⟨4, false, [2]⟩, ⟨5, true, []⟩, ⟨6, true, []⟩, ⟨7, true, []⟩] (by kernel_rfl) (by kernel_rfl) ?_
    have hm2 := hm1.ext (Mod.drew [] _)
    obtain ⟨w2, hw2⟩ : ∃ x, x = w1.drew := ⟨_, rfl⟩
    rw [← hw2] at hm2 ⊢
    clear hw2 hm1
    iterate 2 (refine wpT_n rfl rfl (fun K hK => ?_); go_wp2_with fail)
    refine wpT_call rfl rfl (fun K hK => ?_)
    go_wp2_with (go_at_call 11; (with_reducible refine (P8 _).mono ?_); rintro e w3 ⟨rfl, rfl⟩)
    refine wpT_n rfl rfl (fun K hK => ?_)
    go_wp2_with fail
    refine wpT_callh rfl rfl (fun K hK => ?_)
    go_wp2_with (go_at_call 11; (with_reducible refine (P2 _).mono ?_); rintro e w3 ⟨rfl, rfl⟩)
    refine ⟨agains_same, ?_⟩
    iterate 3 (refine wpT_n rfl rfl (fun K hK => ?_); go_wp2_with fail)
    refine wpT_nil ?_
    go_wp2_with fail
    clear P8 P2 AW
    go_upto_region 5 with (go_at_call 12; refine (N0 _).mono ?_; rintro e w4 ⟨u, Lu, rfl, hU4, hLu4, hmu⟩)
    go_wp2_with (first
                  | (go_at_call 12; refine (N0 _).mono ?_; rintro e w5 ⟨q, L, rfl, hQ5, hLq5, hmq⟩)
                  | (go_at_call 13; refine (PN _ _ _ hQ5).mono ?_; rintro e w6 ⟨p, rfl, hP6, hp6, hm6⟩)
                  | (go_at_call 14; refine (AR _ _ _ _ hP6).mono ?_; rintro e w7 ⟨rfl, hP7, hm7⟩)
                  | (go_at_call 15; (with_reducible refine (FE _).mono ?_); rintro e w8 ⟨rfl, rfl⟩))
    have hC : Cut W w7 u Lu p q v0 L := by
      have s2 := hm2.size
      have su := hmu.size
      have s5 := hmq.size
      have hU6 := (hU4.ext hmq).ext hm6
      have hpu : ∀ k ∈ Lu, k ≠ p := fun k hk e => by have := hU4.lt k hk; omega
      have h7 : Mod [] W w7 := (((hm2.ext hmu).ext hmq).ext hm6).fresh hm7 (by simp; omega)
      refine ⟨hm00 ▸ hU6.mod hm7 (fun b hb hh => hpu b hb (by simpa using hh)), ⟨hP7, h7, by omega, fun k hk => Nat.le_trans s2 (Nat.le_trans su (hLq5 k hk))⟩, fun k hk => Nat.le_trans s2 (hLu4 k hk), fun k hk hh => ?_⟩
      rcases List.mem_cons.1 hh with e | e
      · exact hpu k hk e
      · have := hLq5 k e; have := hU4.lt k hk; omega
    clear hm2 hU4 hLu4 hmu hQ5 hLq5 hmq hP6 hp6 hm6 hP7 hm7 N0 PN AR FE hok0 hrow0 hm00
    go_wp2_with fail
    go_loopw [17, 18] (fun dn i wr => ∃ (j d : Nat) (Lu L : List Nat) (v : Pv), j ≤ N ∧ d ≤ j ∧ dn = .int .i64 d ∧ i = .int .i64 j ∧ Cut W wr u Lu p q v L ∧ StA n v d ∧ v.m.row.length ≤ j) (fun _ i _ => N - (intOf i).toNat)
    case atStart => exact ⟨0, 0, Lu, L, v0, Nat.zero_le _, Nat.le_refl _, rfl, rfl, hC, hSt0, by omega⟩
    case round =>
      obtain ⟨j, d, Lu, L, v, hj, hdj, rfl, rfl, hC, hSt, hrow⟩ := hrel
      by_cases hlt : j < N
      · have y1 : (j : Int) < N := by omega
        have hMW := hC.d.m
        have hjT : j < T.length := by omega
        obtain ⟨b, o, rfl, hcr⟩ := Pops.elem (Sl.ext hT hMW) hjT
        have hop := hT2 _ (List.getElem_mem hjT)
        obtain ⟨op, hop'⟩ : ∃ op, op = T[j] := ⟨_, rfl⟩
        rw [← hop'] at hcr hop
        clear hop'
        have hno := normO_ok hop
        have hkn : normO op = if op.k = 1 ∨ op.k = 2 then op else { op with k := 3 } := rfl
        obtain ⟨op2, hop2⟩ : ∃ x, x = normO op := ⟨_, rfl⟩
        rw [← hop2] at hno hkn
        clear hop2
        obtain ⟨k, n', a, bw, l, raw, fv', F'⟩ := op
        obtain ⟨aob, capb, hbe, _, _⟩ := hop.b.form
        obtain ⟨aoF, capF, hfe, _, _⟩ := hop.fs.form
        dsimp only at hbe hfe hkn
        subst hbe hfe
        clear hop
        dsimp only [Pop.cells] at hcr
        go_wp2_with (with_reducible refine st_load 37 ?_)
        refine StopOp.go rfl fun K hK => ?_
        refine wp_load_mid 37 _ rfl b (o + j * 6) (by rfl) [.int .i64 k, .int .i64 n', .int .i64 a, .slice aob l.length capb, .bool raw, .slice aoF F'.length capF] _ hcr Try.underlying37 rfl (by kernel_rfl) ?_
        simp only [put_some, List.set_cons_succ, List.set_cons_zero]
        refine hK _ _ ?_
        clear hK K
        go_wp2_with (with_reducible refine st_alloc ?_)
        refine StopOp.go rfl fun K hK => ?_
        refine wp_alloc zero_pop ?_
        intro g w2 hg1 hg2 hm2 hB2
        simp only [put_some, List.set_cons_succ, List.set_cons_zero]
        refine hK _ _ ?_
        clear hK K
        go_wp2_with (with_reducible refine st_store ?_)
        refine StopOp.go rfl fun K hK => ?_
        refine wp_store (u := .agg #[.int .i64 k, .int .i64 n', .int .i64 a, .slice aob l.length capb, .bool raw, .slice aoF F'.length capF]) (by rfl) (by rfl) (by kernel_rfl) hB2 (by simp [Value.cells]) (by simp [Value.cells, Value.oneCell']) ?_
        intro w3 hm3 hB3
        refine hK _ _ ?_
        clear hK K
        have hm23 : Mod [] wr w3 := hm2.fresh hm3 (by simpa using hg1)
        have hG : Blk w3 g 37 [.int .i64 k, .int .i64 n', .int .i64 a, .slice aob l.length capb, .bool raw, .slice aoF F'.length capF] := hB3
        clear hB2 hB3 hm2 hm3 hcr
        obtain ⟨c, hc⟩ : ∃ c, c = decide (k ≠ 1 ∧ k ≠ 2) := ⟨_, rfl⟩
        have HC := Lib.hid hc
        have HKN := Lib.hid hkn
        clear hc hkn
        have c0 := hG.cell' (i := 0) rfl
        go_upto_region 15 with fail
        go_cut [92] (fun x wx => x = .bool c ∧ w3 = wx)
        case first =>
          by_cases h1 : k = 1
          · subst h1
            go_wp2_with fail
            go_meet
            exact ⟨by rw [HC.out]; rfl, rfl⟩
          · have e1 : (k == 1) = false := by rw [beq_eq_false_iff_ne]; exact h1
            by_cases h2 : k = 2
            · subst h2
              go_wp2_with fail
              go_meet
              exact ⟨by rw [HC.out]; rfl, rfl⟩
            · have e2 : (k == 2) = false := by rw [beq_eq_false_iff_ne]; exact h2
              go_wp2_with fail
              go_meet
              exact ⟨by rw [HC.out, decide_eq_true ⟨h1, h2⟩]; simp [bne, e1, e2], rfl⟩
        case rest =>
        obtain ⟨rfl, rfl⟩ := hcut
        go_upto_if 92 with fail
        go_cut [] (fun wx => Blk wx g 37 op2.cells ∧ Mod [g] w3 wx)
        case first =>
          cases c with
          | false =>
            go_wp2_with fail
            go_meet
            have hk : k = 1 ∨ k = 2 := by have := of_decide_eq_false HC.out.symm; omega
            rw [HKN.out, if_pos hk]
            exact ⟨hG, Mod.refl _ _⟩
          | true =>
            have hk : ¬ (k = 1 ∨ k = 2) := by have := of_decide_eq_true HC.out.symm; omega
            go_wp2_with (with_reducible refine st_store ?_)
            refine StopOp.go rfl fun K hK => ?_
            refine wp_store1 (by kernel_rfl) (by rfl) (u := .int .i64 3) (by rfl) ⟨rfl, rfl⟩ hG (by simp) ?_
            intro w4 hm4 hB4
            refine hK _ _ ?_
            clear hK K
            go_wp2_with fail
            go_meet
            rw [HKN.out, if_neg hk]
            exact ⟨hB4, hm4⟩
        case rest =>
        obtain ⟨hG2, hm34⟩ := hcut
        have hm24 := hm23.fresh hm34 (by simpa using hg1)
        have hC4 := hC.ext hm24
        clear HC HKN hG hm23 hm34 c0
        obtain ⟨k', n2, a2, bw2, l2, raw2, fv2, F2⟩ := op2
        obtain ⟨aob2, capb2, hbe, _, _⟩ := hno.b.form
        obtain ⟨aof2, capf2, hfe, _, _⟩ := hno.fs.form
        dsimp only at hbe hfe
        subst hbe hfe
        obtain ⟨o2, ho2⟩ : ∃ x : Pop, x = ⟨k', n2, a2, .slice aob2 l2.length capb2, l2, raw2, .slice aof2 F2.length capf2, F2⟩ := ⟨_, rfl⟩
        have hcells : o2.cells = [.int .i64 k', .int .i64 n2, .int .i64 a2, .slice aob2 l2.length capb2, .bool raw2, .slice aof2 F2.length capf2] := by rw [ho2]; rfl
        rw [← ho2] at hno hG2
        rw [hcells] at hG2
        have hn4 : v.n ≤ 1000000 := by have := hSt.cnt; omega
        have hr4 : v.m.row.length ≤ 1000000 := by omega
        have hvr := askV_row v o2
        have AS := fun w h => asks_any W w p q v L o2 h hno hn4 hr4
        unfold AskP at AS
        rw [hcells] at AS
        have DE := fun w h hm => does6_any W w u v.m Lu o2 h hC4.d.d.ok.m hm hno hr4
        unfold DoP at DE
        rw [hcells] at DE
        clear ho2 hcells
        have x0 := hG2.cell' (i := 0) rfl
        have x1 := hG2.cell' (i := 1) rfl
        have x2 := hG2.cell' (i := 2) rfl
        have x3 := hG2.cell' (i := 3) rfl
        have x4 := hG2.cell' (i := 4) rfl
        have x5 := hG2.cell' (i := 5) rfl
        have hP4 := hC4.d
        by_cases hst : 0 ≤ n ∧ n ≤ d
        · obtain ⟨g1, g2, g3⟩ := hSt.stop hst.1 hst.2
          rw [e_no g1, askB_no g1, askV_no g1] at AS
          rw [askV_no g1] at hvr
          have z1 := hst.1
          have z2 := hst.2
          have DO := fun w h => pDown_any p q v.md w h
          rw [g2] at DO
          have hmd := v.md_m
          have HVR := Lib.hid hvr
          have HMD := Lib.hid hmd
          clear hvr hmd DE hst g1 g2
          go_wp2_with (first
                        | (go_at_call 16; refine (AS _ hP4).mono ?_; rintro e w5 ⟨rv, L5, rfl, ho5, hn5, hP5, hm5, hL5⟩; obtain ⟨aov, capv, rfl, _, _⟩ := ho5.sl.form; have hB5 := hP5.d.b)
                        | (go_at_call 17; refine (DO _ hB5).mono ?_; rintro e w6 ⟨rfl, rfl⟩))
          obtain ⟨k1, k2⟩ := hC4.ask hP5 hm5 hL5
          have hvm := HMD.out
          have hvr := HVR.out
          go_roundw
          case rel => exact ⟨j + 1, d, Lu, L5, v.md, by omega, by omega, rfl, by simp, ⟨hvm.symm ▸ k1, hP5, hC4.uo, k2⟩, g3, by omega⟩
          case measure => simp [intOf]; omega
        · obtain ⟨g1, g2, g3⟩ := hSt.next hst (doM v.m o2)
          rw [e_go g1, askB_go g1, askV_go g1] at AS
          rw [askV_go g1] at hvr
          obtain ⟨M, hM⟩ : ∃ x, x = doM v.m o2 := ⟨_, rfl⟩
          obtain ⟨E, hE⟩ : ∃ x, x = doE v.m o2 := ⟨_, rfl⟩
          obtain ⟨B, hB⟩ : ∃ x, x = doB v.m o2 := ⟨_, rfl⟩
          rw [← hM] at AS DE hvr g2 g3
          rw [← hE] at AS DE
          rw [← hB] at AS DE
          clear hM hE hB
          obtain ⟨V, hV⟩ : ∃ x, x = v.md.at M := ⟨_, rfl⟩
          have hVm : M = V.m := by rw [hV]; rfl
          rw [← hV] at AS hvr g2 g3
          clear hV
          have DO := fun w h => pDown_any p q V w h
          rw [g2] at DO
          have HVR := Lib.hid hvr
          have HST := Lib.hid hst
          clear hvr g2 g1
          go_upto_region 18 with (go_at_call 16; refine (AS _ hP4).mono ?_; rintro e w5 ⟨rv, L5, rfl, ho5, hn5, hP5, hm5, hL5⟩; obtain ⟨k1, k2⟩ := hC4.ask hP5 hm5 hL5; obtain ⟨aov, capv, rfl, _, _⟩ := ho5.sl.form)
          go_cut [106] (fun x wx => x = .bool false ∧ w5 = wx)
          case first =>
            have hst := HST.out
            by_cases hn0 : 0 ≤ n
            · have z2 : (d : Int) < n := by omega
              go_wp2_with fail
              go_meet
              exact ⟨by rw [decide_eq_false (by omega)], rfl⟩
            · have z2 : n < 0 := by omega
              go_wp2_with fail
              go_meet
              exact ⟨rfl, rfl⟩
          case rest =>
          obtain ⟨rfl, rfl⟩ := hcut
          have hG5 := hG2.mod hm5 (fun hh => by
            rcases List.mem_cons.1 hh with e | e
            · have := hC.d.d.b.lt; omega
            · have := hC.d.d.d.lt g e; omega)
          have y0 := hG5.cell' (i := 0) rfl
          have y1 := hG5.cell' (i := 1) rfl
          have y2 := hG5.cell' (i := 2) rfl
          have y3 := hG5.cell' (i := 3) rfl
          have y4 := hG5.cell' (i := 4) rfl
          have y5 := hG5.cell' (i := 5) rfl
          have hm05 := hP5.m
          have hlt5 : ∀ k ∈ Lu, k < wc.heap.size := hC4.u.lt
          go_wp2_with (first
                        | (go_at_call 18; refine (DE _ k1 hm05).mono ?_; rintro e w6 ⟨cv, Lu6, rfl, ho6, hn6, hD6, hok6, hm6, hL6⟩; have hC6 := Cut.dk k1 k2 hC4.uo hP5 hD6 hm6 hL6 hVm; obtain ⟨aoc, capc, rfl, _, _⟩ := ho6.sl.form; have ho56 := Ow.mod ho5 hm6 (fun b hb hh => by have := hn5 b hb; have := hlt5 b hh; omega))
                        | (go_at_call 19; refine (same_yes B B _ _ _ (Ob.bs ho56) (Ob.bs ho6) rfl).mono ?_; rintro e w7 ⟨rfl, hm7⟩; have hC7 := hC6.ext hm7; have hB7 := hC7.d.d.b)
                        | (go_at_call 17; refine (DO _ hB7).mono ?_; rintro e w8 ⟨rfl, rfl⟩))
          have hvr := HVR.out
          go_roundw
          case rel => exact ⟨j + 1, d + 1, Lu6, L5, V, by omega, by omega, by simp, by simp, hC7, g3, by omega⟩
          case measure => simp [intOf]; omega
      · have y1 : (N : Int) ≤ j := by omega
        have hcnt := hSt.cnt
        have CO := fun w h => pCount_any p q v w h
        rw [hcnt] at CO
        have WA := fun w h => pWaiting_any p q v L w h
        have WU := fun w h => dWaiting_any u v.m Lu w h hC.d.d.ok.m.s1
        have CF := fun w h => copyF_any F (.slice aof F.length capf) w h (by omega)
        have RE := fun w fv h hF hFL => pRestart_any p q v L F fv w h (by omega) hF hFL
        have CR := fun w fv h hF hFL => dcrash_any u v.m Lu F fv w h hC.d.d.ok.m (by omega) hF hFL
        have hokm : (v.m.crash F).ok := hC.d.d.ok.m.settle _
        have hV1 : (v.re F).m = v.m.crash F := rfl
        have hV2 : (v.re F).off = false := rfl
        have hV3 : (v.re F).n = 0 := rfl
        have hV4 : (v.re F).m.row.length = 0 := rfl
        obtain ⟨V, hV⟩ : ∃ x, x = v.re F := ⟨_, rfl⟩
        obtain ⟨M, hM⟩ : ∃ x, x = v.m.crash F := ⟨_, rfl⟩
        rw [← hV] at RE hV1 hV2 hV3 hV4
        rw [← hM] at CR hV1 hokm
        clear hV hM
        have IM := fun w L h => pImage_any p q V L w h
        have IU := fun w L h => dimage_any u M L w h hokm
        rw [hV1] at IM
        unfold ImgPost at IM IU
        have CO2 := fun w h => pCount_any p q V w h
        have DO2 := fun w h => pDown_any p q V w h
        have WA2 := fun w L h => pWaiting_any p q V L w h
        rw [hV3] at CO2
        rw [hV2] at DO2
        rw [hV4] at WA2
        have HV1 := Lib.hid hV1
        clear hV1 hV2 hV3 hV4 hSt hcnt hrow hdj hj hlt hokm
        have hP := hC.d.d
        have hB := hP.b
        have hU := hC.u
        have hFw := Sl.ext hF hC.d.m
        have hFw' : Fs wr (.slice aof F.length capf) F := hFw
        have hap := hC.ap
        have huo := hC.uo
        go_upto_region 27 with (first
                      | (go_at_call 20; refine (CO _ hB).mono ?_; rintro e w1 ⟨rfl, rfl⟩)
                      | (go_at_call 21; refine (WA _ hP).mono ?_; rintro e w1 ⟨rfl, rfl⟩)
                      | (go_at_call 22; refine (WU _ hU).mono ?_; rintro e w1 ⟨rfl, rfl⟩))
        have hge := hC.d.ge
        have hPl := hP.d.lt
        have hUl := hU.lt
        have hMW := hC.d.m
        clear CO WA WU hFw hC
        go_upto_region 29 with (first
                      | (go_at_call 24; (with_reducible refine (CF _ hFw').mono ?_); rintro e w2 ⟨f2, rfl, hF2, hn2, hm2⟩; obtain ⟨ao2, cap2, rfl, _, _⟩ := hF2.form; have hP2 := hP.ext hm2; have hFL2 : F ≠ [] → ∀ b ∈ blks (.slice ao2 F.length cap2), b ∉ L := (fun _ b hb hh => by have := hn2 b hb; have := hPl b hh; omega))
                      | (go_at_call 23; (with_reducible refine (RE _ _ hP2 hF2 hFL2).mono ?_); rintro e w3 ⟨rfl, hp3⟩; obtain ⟨L3, hP3, hm3, hL3⟩ := hp3; have hU3 := (hU.ext hm2).mod hm3 hap; have hM3 := (hMW.ext hm2).fresh hm3 hge; have hF3 : Fs w3 (.slice aof F.length capf) F := Sl.ext hF hM3)
                      | (go_at_call 24; (with_reducible refine (CF _ hF3).mono ?_); rintro e w4 ⟨f4, rfl, hF4, hn4, hm4⟩; obtain ⟨ao4, cap4, rfl, _, _⟩ := hF4.form; have hU4 := hU3.ext hm4; have hFL4 : F ≠ [] → ∀ b ∈ blks (.slice ao4 F.length cap4), b ∉ Lu := (fun _ b hb hh => by have := hn4 b hb; have := hU3.lt b hh; omega))
                      | (go_at_call 25; (with_reducible refine (CR _ _ hU4 hF4 hFL4).mono ?_); rintro e w5 ⟨rfl, hp5⟩; obtain ⟨Lu5, hU5, hm5, hLu5⟩ := hp5))
        have hP5 : Pd w5 p q V L3 := (hP3.ext hm4).mod hm5 (fun hh => hap p hh List.mem_cons_self) (fun b hb hh => (hL3 b hb).elim (fun h1 => hap b hh (List.mem_cons_of_mem _ h1)) (fun h1 => by have := hUl b hh; have := hm2.size; omega))
        have hM5 : Mod [] W w5 := (hM3.ext hm4).fresh hm5 huo
        clear hFw' hF2 hF4 hFL2 hFL4 hP2 hP3 hU3 hU4 hF3 CF RE CR
        go_wp2_with (first
                      | (go_at_call 27; (with_reducible refine (IM _ _ hP5).mono ?_); rintro e w6 ⟨v6, d6, rfl, hr6, he6, hm6⟩; obtain ⟨ao6, cap6, rfl, _, _⟩ := hr6.ow.sl.form; have hU6 := hU5.ext hm6)
                      | (go_at_call 28; (with_reducible refine (IU _ _ hU6).mono ?_); rintro e w7 ⟨v7, d7, rfl, hr7, he7, hm7⟩; obtain ⟨ao7, cap7, rfl, _, _⟩ := hr7.ow.sl.form; have hr67 := hr6.ext hm7)
                      | (go_at_call 26; refine (sameRows_yes d6 d7 _ _ _ hr67.r hr7.r (he6.trans he7.symm)).mono ?_; rintro e w8 ⟨rfl, hm8⟩; have hP8 := ((hP5.ext hm6).ext hm7).ext hm8; have hB8 := hP8.b)
                      | (go_at_call 20; (with_reducible refine (CO2 _ hB8).mono ?_); rintro e w9 ⟨rfl, rfl⟩)
                      | (go_at_call 17; (with_reducible refine (DO2 _ hB8).mono ?_); rintro e w9 ⟨rfl, rfl⟩)
                      | (go_at_call 21; (with_reducible refine (WA2 _ _ hP8).mono ?_); rintro e w9 ⟨rfl, rfl⟩))
        go_ret
        exact ⟨rfl, ((hM5.ext hm6).ext hm7).ext hm8⟩
  obtain rfl | rfl : Z = 0 ∨ Z = 1 := by omega
  · exact key 64 (.inl rfl) (by simp [wrap64])
  · exact key 128 (.inr rfl) (by simp [wrap64])
end Go.Proofs.Ytdmnogmhnhjdgaa
