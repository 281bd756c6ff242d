import Derived.Test.YtkedbphdflhhlaaRkR
/-! The reference's disks: Crash, Sync. -/
set_option linter.unusedVariables false
set_option linter.unusedSimpArgs false
set_option maxRecDepth 100000
namespace Go.Proofs.Ytkedbphdflhhlaa
open Go.RowKit Gw

theorem tear_at {k n i : Nat} {b old : List UInt8} (hb : b.length = n) (ho : old.length = n) (hk : k ≤ n) : (tear k b old)[i]? = if i < k then b[i]? else old[i]? := by
  unfold tear
  split
  · rename_i h
    rw [List.getElem?_append_left (by rw [List.length_take]; omega), List.getElem?_take_of_lt h]
  · rename_i h
    rw [List.getElem?_append_right (by rw [List.length_take]; omega), List.getElem?_drop, List.length_take]
    congr 1
    omega
theorem tear_succ {k n : Nat} {b old : List UInt8} (hb : b.length = n) (ho : old.length = n) (hk : k < n) : (tear k b old).set k (b[k]'(by omega)) = tear (k + 1) b old := by
  apply List.ext_getElem?
  intro i
  rw [tear_at hb ho (by omega), List.getElem?_set, tear_len hb ho, tear_at hb ho (by omega)]
  by_cases hin : k = i
  · subst hin
    rw [if_pos rfl, if_pos (by omega), if_pos (by omega), List.getElem?_eq_getElem]
  · rw [if_neg hin]
    by_cases h1 : i < k
    · rw [if_pos h1, if_pos (by omega)]
    · rw [if_neg h1, if_neg (by omega)]
theorem tear_zero (b old : List UInt8) : tear 0 b old = old := by simp [tear]
theorem settleD_congr {g g' : Nat → Nat} {row : List (Nat × List UInt8)} (h : ∀ i, i < row.length → g i = g' i) (d : List (List UInt8)) : settleD g row d = settleD g' row d := by
  unfold settleD
  have key : ∀ (l : List ((Nat × List UInt8) × Nat)) (d : List (List UInt8)), (∀ x ∈ l, x.2 < row.length) → l.foldl (stepD g) d = l.foldl (stepD g') d := by
    intro l
    induction l with
    | nil => intro d _; rfl
    | cons x l ih =>
      intro d hx
      rw [List.foldl_cons, List.foldl_cons]
      have : stepD g d x = stepD g' d x := by unfold stepD; rw [h _ (hx x (List.mem_cons_self ..))]
      rw [this]
      exact ih _ fun y hy => hx y (List.mem_cons_of_mem _ hy)
  refine key _ _ fun x hx => ?_
  have := List.snd_lt_of_mem_zipIdx hx
  simpa using this
theorem rcrash_no (v fv : Value) (w : World) (h : NoRk w v) : Calls Try.prog 94 #[v, fv] w fun e w' => e = .returned (.int .i64 1) ∧ w = w' := by
  obtain ⟨p, rfl, hB⟩ := h
  have c0 := hB.cell' (i := 0) rfl
  clear hB
  go_enter Try.func94, Try.ntmps94
  go_wp2
  go_ret
  exact ⟨rfl, rfl⟩
theorem ow_head {w : World} {e : TypeId} {sz n cap : Nat} {ao : Option Addr} {xs : List Value} (h : Ow w e sz (.slice ao n cap) n xs) (hn : 0 < n) : ∃ g, ao = some ⟨g, 0, none⟩ ∧ ∃ rest, Blk w g e (xs ++ rest) := by
  rcases h.blk with ⟨_, h0, _⟩ | ⟨g, cap, rest, h1, h2, _⟩
  · omega
  · injection h1 with h1
    exact ⟨g, h1, rest, h2⟩
theorem Ow.head' {w : World} {e : TypeId} {sz n g cap : Nat} {xs : List Value} (h : Ow w e sz (.slice (some ⟨g, 0, none⟩) n cap) n xs) : ∃ rest, Blk w g e (xs ++ rest) := by
  rcases h.blk with ⟨h0, _⟩ | ⟨g, cap, rest, h1, h2, _⟩
  · cases h0
  · injection h1 with h1
    injection h1 with h1
    injection h1 with h1
    subst h1
    exact ⟨rest, h2⟩
set_option maxRecDepth 1000000 in
set_option maxHeartbeats 8000000 in
theorem rcrash_any (p : Nat) (m : Dm) (L : List Nat) (F : List (Int × Int)) (fv : Value) (w : World) (h : Rk w p m L) (hok : m.ok) (hr : m.row.length ≤ 1000000000) (hF : Fs w fv F) (hFL : F ≠ [] → ∀ b ∈ blks fv, b ∉ L) :
    Calls Try.prog 94 #[.pointer (some ⟨p, 0, none⟩), fv] w fun e w' => e = .returned (.int .i64 0) ∧ RkPost w p (m.crash F) L w' := by
  have hs1 := hok.s1
  have hs2 := hok.s2
  have hd := hok.d
  have hrr := hok.r
  obtain ⟨D, R, dp, rp, hB, hm, hL⟩ := h
  have e1 : m.dur.length = dp.length := by rw [hm]; simp [Dm.of]
  have e2 : m.row.length = rp.length := by rw [hm]; simp [Dm.of]
  have e3 : ∀ (j : Nat) (hj : j < rp.length), rp[j].1 < dp.length ∧ rp[j].2.2.length = m.sz := fun j hj => by
    rw [← e1]
    exact hrr (rp[j].1, rp[j].2.2) (by rw [hm]; exact List.mem_map.2 ⟨rp[j], List.getElem_mem hj, rfl⟩)
  have e4 : m.dur = dp.map (·.2) := by rw [hm]; rfl
  have e5 : m.row = rp.map fun x => (x.1, x.2.2) := by rw [hm]; rfl
  have hn1 : 0 < dp.length := by have := hok.n1; omega
  -- the sizes hold of whatever has these rows
  have KP : ∀ (dq : List (Value × List UInt8)) (k a : Int) (L' : List Nat) (w : World), (∀ b ∈ dq.map (·.2), b.length = m.sz) → dq.length = dp.length → RkB w p D R dq rp → Calls Try.prog 122 #[.pointer (some ⟨p, 0, none⟩), .agg #[.int .i64 k, .int .i64 a]] w fun e w' => e = .returned (.int .i64 (keptN m.sz k a : Nat)) ∧ Mod [] w w' := fun dq k a L' w hall hlen hb =>
    rkept_any p ⟨m.sz, dq.map (·.2), m.row⟩ (fpR p D R dq rp) k a w ⟨_, _, _, _, hb, by unfold Dm.of; rw [e5], rfl⟩ ⟨hs1, hs2, by simp only [List.length_map]; omega, by simp only [List.length_map]; have := hok.n2; omega, hall, fun x hx => by simp only [List.length_map]; have := hrr x hx; rw [hlen, ← e1]; exact this⟩
  rw [e2] at hr
  obtain ⟨aoD, capD, rfl, hcD, _⟩ := hB.dur.sl.form
  obtain ⟨gD, hgD, _⟩ := ow_head hB.dur hn1
  subst hgD
  obtain ⟨aoR, capR, rfl, hcR, _⟩ := hB.row.sl.form
  obtain ⟨aof, capf, rfl, hcf, _⟩ := hF.form
  obtain ⟨sz, hsz⟩ : ∃ sz, sz = m.sz := ⟨_, rfl⟩
  have hdl : ∀ b ∈ m.dur, b.length = sz := by rw [hsz]; exact hd
  rw [← hsz] at KP hs1 hs2 e3
  obtain ⟨G, hG⟩ : ∃ G : Nat → Nat, G = fun i => clampN (fateK sz F i) sz := ⟨_, rfl⟩
  have hGk : ∀ j (hj : j < F.length), G j = keptN sz F[j].1 F[j].2 := fun j hj => by rw [hG]; unfold fateK keptN; simp only [List.getElem?_eq_getElem hj]
  have hGn : ∀ j, F.length ≤ j → G j = 0 := fun j hj => by rw [hG]; unfold fateK clampN; simp only [List.getElem?_eq_none hj]; simp
  have hGl : ∀ j, G j ≤ sz := fun j => by rw [hG]; exact clampN_le _ _
  rw [show m.crash F = ⟨sz, settleD G m.row m.dur, []⟩ by rw [hG, hsz]; rfl]
  rw [e4] at hdl
  have hfin : ∀ dq : List (Value × List UInt8), dq.map (·.2) = settleD G (rp.map fun x => (x.1, x.2.2)) (dp.map (·.2)) → (⟨sz, settleD G m.row m.dur, []⟩ : Dm) = Dm.of sz dq [] := fun dq h => by rw [e5, e4, ← h]; rfl
  have HFIN := Lib.hid hfin
  have HGK := Lib.hid hGk
  have HGN := Lib.hid hGn
  obtain ⟨FP, hFP⟩ : ∃ F, F = L := ⟨_, rfl⟩
  rw [← hFP] at hFL ⊢
  have HL := Lib.hid (hFP.trans hL)
  have hszg : sz ≤ 4096 := hs2
  have y9 : (dp.length == 0) = false := by rw [beq_eq_false_iff_ne]; omega
  clear hm hL hok hd hrr e1 e2 e4 e5 hsz hfin hFP hn1 hG hGk hGn
  have c0 := hB.blk.cell' (i := 0) rfl
  go_enter Try.func94, Try.ntmps94
  go_wp2_with fail
  clear c0 y9
  go_loopw [5] (fun i wr => ∃ (j : Nat) (dq : List (Value × List UInt8)), j ≤ rp.length ∧ i = .int .i64 j ∧ RkB wr p (.slice (some ⟨gD, 0, none⟩) dp.length capD) (.slice aoR rp.length capR) dq rp ∧ dq.map (·.1) = dp.map (·.1) ∧ dq.map (·.2) = settleD G ((rp.map fun x => (x.1, x.2.2)).take j) (dp.map (·.2)) ∧ fpR p (.slice (some ⟨gD, 0, none⟩) dp.length capD) (.slice aoR rp.length capR) dq rp = FP ∧ Mod FP w wr) (fun i _ => rp.length - (intOf i).toNat)
  case atStart => exact ⟨0, dp, by omega, rfl, hB, rfl, rfl, HL.out.symm, Mod.refl _ _⟩
  case round =>
    obtain ⟨j, dq, hj, rfl, hBr, hq1, hq2, hq3, hMr⟩ := hrel
    have c1 := hBr.blk.cell' (i := 1) rfl
    by_cases hj2 : j < rp.length
    · have y0 : (j : Int) < rp.length := by omega
      have y1 : (0 : Int) ≤ j := by omega
      have hql : dq.length = dp.length := by simpa using congrArg List.length hq1
      obtain ⟨ha, hbl⟩ := e3 j hj2
      have hall : ∀ b ∈ dq.map (·.2), b.length = sz := by
        intro b hb
        rw [hq2] at hb
        refine settleD_all _ hdl ?_ _ hb
        intro x hx
        obtain ⟨y, hy, rfl⟩ := List.mem_map.1 (List.mem_of_mem_take hx)
        obtain ⟨q, hq, rfl⟩ := List.getElem_of_mem hy
        have := e3 q hq
        exact ⟨by simpa using this.1, this.2⟩
      have KPj := fun k a w h => KP dq k a [] w hall hql h
      obtain ⟨N, hN⟩ : ∃ N, N = G j := ⟨_, rfl⟩
      have hNl : N ≤ sz := by rw [hN]; exact hGl j
      have HN := Lib.hid hN
      have HQ := Lib.hid (And.intro hq1 (And.intro hq2 (And.intro hq3 hql)))
      have HALL := Lib.hid hall
      clear hN hq1 hq2 hq3 hql hall
      go_upto_if 26 with fail
      go_cut [6] (fun u wx => u = .int .i64 (N : Nat) ∧ Mod [] wr wx)
      case first =>
        by_cases hjF : j < F.length
        · have hFr : Fs wr (.slice aof F.length capf) F := Fs.far hF hMr hFL
          obtain ⟨bf, of, cf, hv, _, _, hcell⟩ := hFr.at (by intro h; have := congrArg List.length h; rw [fcells_len] at this; simp only [List.length_nil] at this; omega)
          injection hv with e1 e2 e3'
          subst e1 e3'
          have f0 := hcell _ _ (fcells_at F j hjF).1
          have f1 := hcell _ _ (fcells_at F j hjF).2
          rw [← Nat.add_assoc] at f1
          have hNk : N = keptN sz F[j].1 F[j].2 := HN.out.trans (HGK.out j hjF)
          obtain ⟨k, hkk⟩ : ∃ k, k = F[j].1 := ⟨_, rfl⟩
          obtain ⟨a, haa⟩ : ∃ k, k = F[j].2 := ⟨_, rfl⟩
          rw [← hkk] at f0 hNk
          rw [← haa] at f1 hNk
          have KK := fun w h => KPj k a w h
          rw [← hNk] at KK
          have z1 : (j : Int) < F.length := by omega
          clear hkk haa hcell hNk KPj KP hFr
          go_wp2_with (go_at_call 122; (with_reducible refine (KK _ hBr).mono ?_); rintro e w2 ⟨rfl, hm2⟩)
          go_meet
          exact ⟨rfl, hm2⟩
        · obtain rfl : N = 0 := HN.out.trans (HGN.out j (by omega))
          have z1 : (F.length : Int) ≤ j := by omega
          go_wp2_with fail
          go_meet
          exact ⟨rfl, Mod.refl _ _⟩
      case rest =>
      obtain ⟨rfl, hmc⟩ := hcut
      have hBc := hBr.ext hmc
      have hMc := hMr.ext hmc
      obtain ⟨hq1, hq2, hq3, hql⟩ := HQ.out
      have haq : rp[j].1 < dq.length := by omega
      have hsl : dq[rp[j].1].2.length = sz := HALL.out _ (List.mem_map.2 ⟨dq[rp[j].1], List.getElem_mem haq, rfl⟩)
      have hrj : (rp.map fun x => (x.1, x.2.2))[j]? = some (rp[j].1, rp[j].2.2) := by rw [List.getElem?_map, List.getElem?_eq_getElem hj2]; rfl
      obtain ⟨a, hae⟩ : ∃ a, a = rp[j].1 := ⟨_, rfl⟩
      obtain ⟨b, hbe⟩ : ∃ b, b = rp[j].2.2 := ⟨_, rfl⟩
      have hRB : ∀ (dr : List (Value × List UInt8)) (w : World), RkB w p (.slice (some ⟨gD, 0, none⟩) dp.length capD) (.slice aoR rp.length capR) dr rp → ∃ gR gb cb, aoR = some ⟨gR, 0, none⟩ ∧ rp[j].2.1 = .slice (some ⟨gb, 0, none⟩) sz cb ∧ sz ≤ cb ∧ w.cell? ⟨gR, j * 2, none⟩ = some (.int .i64 (a : Nat)) ∧ w.cell? ⟨gR, j * 2 + 1, none⟩ = some rp[j].2.1 ∧ ∀ (k : Nat) (hk : k < b.length), w.cell? ⟨gb, k, none⟩ = some (.int .u8 (b[k].toNat : Nat)) := fun dr w hb => by
        obtain ⟨gR, hgR, restR, hRb⟩ := ow_head hb.row (by omega)
        obtain ⟨hw0, hw1⟩ := wcells_at rp j hj2
        have hwl : 2 * j + 1 < (wcells rp).length := by rw [wcells_len]; omega
        have hbo := (hb.fam.ob rp[j].2 (List.mem_append_right _ (List.mem_map.2 ⟨rp[j], List.getElem_mem hj2, rfl⟩))).1
        obtain ⟨gb, cb, restb, hvb, hbb, hcb, _⟩ := Ob.headn hbo hbl (by omega)
        refine ⟨gR, gb, cb, hgR, hvb, hcb, ?_, ?_, fun k hk => ?_⟩
        · rw [hae]; exact hRb.cell' (i := j * 2) (by rw [List.getElem?_append_left (by omega), Nat.mul_comm]; exact hw0)
        · exact hRb.cell' (i := j * 2 + 1) (by rw [List.getElem?_append_left (by omega), Nat.mul_comm]; exact hw1)
        · subst hbe
          exact cell_u8 hbb hk
      obtain ⟨va, hva⟩ : ∃ v, v = dq[rp[j].1].1 := ⟨_, rfl⟩
      obtain ⟨old, hold⟩ : ∃ v, v = dq[rp[j].1].2 := ⟨_, rfl⟩
      rw [← hold] at hsl
      have hset0 : dq.set a (va, tear 0 b old) = dq := by
        rw [tear_zero, hva, hold]
        subst hae
        exact List.set_getElem_self _
      have hDA : ∀ (k : Nat) (w : World), RkB w p (.slice (some ⟨gD, 0, none⟩) dp.length capD) (.slice aoR rp.length capR) (dq.set a (va, tear k b old)) rp → ∃ g cap rest, va = .slice (some ⟨g, 0, none⟩) sz cap ∧ sz ≤ cap ∧ w.cell? ⟨gD, a, none⟩ = some va ∧ Blk w g 5 (bv (tear k b old) ++ rest) ∧ cap ≤ 9223372036854775807 ∧ (bv (tear k b old) ++ rest).length = cap := fun k w hb => by
        have hai : a < (dq.set a (va, tear k b old)).length := by rw [List.length_set, hae]; exact haq
        have hag : (dq.set a (va, tear k b old))[a] = (va, tear k b old) := by simp
        have hso := (hb.fam.ob _ (List.mem_append_left _ (List.getElem_mem hai))).1
        rw [hag] at hso
        obtain ⟨g, cap, rest, h1, h2, h3, h4, h5⟩ := Ob.headn hso (tear_len (by rw [hbe]; exact hbl) hsl) (by omega)
        obtain ⟨restD, hDb⟩ := Ow.head' (g := gD) (by have := hb.dur; rwa [List.length_set, hql] at this)
        refine ⟨g, cap, rest, h1, h3, hDb.cell' ?_, h2, h4, h5⟩
        rw [List.getElem?_append_left (by simpa using hai), List.getElem?_map, List.getElem?_eq_getElem hai, hag]
        rfl
      have lb : b.length = sz := by rw [hbe]; exact hbl
      have hab : a < dp.length := by rw [hae]; exact ha
      have haq' : a < dq.length := by rw [hae]; exact haq
      have hvab : va = dq[a].1 := by rw [hva]; subst hae; rfl
      have hold2 : old = dq[a].2 := by rw [hold]; subst hae; rfl
      have HB := Lib.hid (And.intro hrj (And.intro hae (And.intro hbe (And.intro hsl (And.intro lb (And.intro hset0 (And.intro hvab (And.intro hold2 (And.intro hq1 (And.intro hq2 hq3))))))))))
      have HHL := Lib.hid hql
      clear hrj hbe hsl hset0 hvab hold2 hold hae hq1 hq2 hq3 hql hva haq hbl ha c1 KPj KP
      go_wp2_with fail
      go_loopw [7] (fun i wx => ∃ k : Nat, k ≤ N ∧ i = .int .i64 k ∧ RkB wx p (.slice (some ⟨gD, 0, none⟩) dp.length capD) (.slice aoR rp.length capR) (dq.set a (va, tear k b old)) rp ∧ fpR p (.slice (some ⟨gD, 0, none⟩) dp.length capD) (.slice aoR rp.length capR) (dq.set a (va, tear k b old)) rp = FP ∧ Mod FP w wx) (fun i _ => N - (intOf i).toNat)
      case atStart =>
        obtain ⟨_, _, _, _, _, hset0, _, _, _, _, hq3⟩ := HB.out
        exact ⟨0, by omega, rfl, by rw [hset0]; exact hBc, by rw [hset0]; exact hq3, hMc⟩
      case round =>
        obtain ⟨k, hk, rfl, hBk, hfk, hMk⟩ := hrel
        by_cases hlt : k < N
        · have z0 : (k : Int) < N := by omega
          go_wp2_with fail
          refine wp_region_T [⟨0, true, []⟩, ⟨1, true, []⟩, ⟨2, true, []⟩, ⟨3, true, []⟩, ⟨4, true, []⟩, ⟨5, true, []⟩, ⟨6, true, []⟩, ⟨7, true, []⟩, ⟨8, true, []⟩, ⟨9, true, []⟩, ⟨10, true, []⟩, ⟨11, true, []⟩, ⟨12, true, []⟩, ⟨13, true, []⟩, ⟨14, true, []⟩, ⟨15, true, []⟩, ⟨16, true, []⟩, ⟨17, true, []⟩, ⟨18, true, []⟩, ⟨19, true, []⟩, ⟨20, true, []⟩, ⟨21, true, []⟩, ⟨22, true, []⟩, ⟨23, true, []⟩, ⟨24, true, []⟩, ⟨25, true, []⟩, ⟨26, true, []⟩, ⟨27, false, []⟩] (by kernel_rfl) (by kernel_rfl) ?_
          have hM0 := hMk.ext (Mod.drew [] _)
          have hB0 := hBk.ext (Mod.drew [] _)
          obtain ⟨w0, hw0⟩ : ∃ x, x = wr.drew := ⟨_, rfl⟩
          rw [← hw0] at hM0 hB0 ⊢
          clear hw0
          have c0 := hB0.blk.cell' (i := 0) rfl
          have c1 := hB0.blk.cell' (i := 1) rfl
          obtain ⟨gR, gb, cb, rfl, hvb, hcb, r0, r1, rb⟩ := hRB _ _ hB0
          rw [hvb] at r1
          have rbk := rb k (by have := HB.out.2.2.2.2.1; omega)
          obtain ⟨g, cap, rest, hvg, hcap, da, hGb, hcap2, hlen⟩ := hDA k _ hB0
          rw [hvg] at da
          have z1 : (0 : Int) ≤ a := by omega
          have z2 : (a : Int) < dp.length := by omega
          have z3 : (k : Int) < sz := by omega
          obtain ⟨u, hu⟩ : ∃ u, u = b[k]'(by have := HB.out.2.2.2.2.1; omega) := ⟨_, rfl⟩
          rw [← hu] at rbk
          have HU := Lib.hid (And.intro hu (And.intro hvb (And.intro hvg hlen)))
          clear hu rb hvb hvg hRB hDA hlen
          iterate 27 (refine wpT_n rfl rfl (fun K hK => ?_); go_wp2_with fail)
          refine wpT_e0 rfl rfl (fun K hK => ?_)
          refine wp_store1 (by kernel_rfl) (by rfl) (u := .int .u8 (u.toNat : Nat)) (by rfl) ⟨rfl, rfl⟩ hGb (by rw [List.length_append, bv_length, tear_len HB.out.2.2.2.2.1 HB.out.2.2.2.1]; omega) ?_
          intro x3 hmx3 hBx3
          refine hK _ _ ?_
          clear hK K
          have hnew : RkB x3 p (.slice (some ⟨gD, 0, none⟩) dp.length capD) (.slice (some ⟨gR, 0, none⟩) rp.length capR) (dq.set a (va, tear (k + 1) b old)) rp ∧ fpR p (.slice (some ⟨gD, 0, none⟩) dp.length capD) (.slice (some ⟨gR, 0, none⟩) rp.length capR) (dq.set a (va, tear (k + 1) b old)) rp = FP ∧ Mod FP w x3 := by
            obtain ⟨hu, hvb, hvg, hlen⟩ := HU.out
            obtain ⟨_, _, _, hsl, lb, _⟩ := HB.out
            have hai : a < (dq.set a (va, tear k b old)).length := by rw [List.length_set]; exact haq'
            have hag : (dq.set a (va, tear k b old))[a] = (va, tear k b old) := by simp
            rw [bv_set _ _ _ _ (by rw [tear_len lb hsl]; omega), hu, tear_succ lb hsl (by omega)] at hBx3
            have hob : Ob x3 va (tear (k + 1) b old) := by
              rw [hvg]
              unfold Ob
              rw [tear_len lb hsl]
              refine Ow.of_blk hBx3 hcap hcap2 ?_ (by rw [bv_length, tear_len lb hsl, Nat.mul_one])
              rw [List.length_append, bv_length, tear_len lb hsl] at hlen ⊢
              omega
            have ht := hB0.turn (l' := tear (k + 1) b old) hai (by rw [hag, hvg]; simpa [blks] using hmx3) (by rw [hag]; exact hob)
            rw [hag, List.set_set] at ht
            refine ⟨ht.1, ht.2.1.trans hfk, hM0.trans ?_⟩
            rw [← hfk]
            exact ht.2.2
          clear hmx3 hBx3 hGb hB0 hM0 hBk hfk hMk
          refine wpT_nil ?_
          go_wp2_with fail
          go_roundw
          case rel => exact ⟨k + 1, by omega, by go_num, hnew⟩
          case measure => simp [intOf]; omega
        · obtain rfl : N = k := by omega
          go_wp2_with fail
          go_roundw
          case rel =>
            obtain ⟨hrj, hae, hbe, hsl, lb, _, hvab, hold, hq1, hq2, hq3⟩ := HB.out
            refine ⟨j + 1, _, by omega, by go_num, hBk, ?_, ?_, hfk, hMk⟩
            · rw [← hq1, List.map_set]
              apply List.ext_getElem?
              intro i
              rw [List.getElem?_set]
              split
              · subst_vars; simp [haq']
              · rfl
            · have hjl : j < (rp.map fun x => (x.1, x.2.2)).length := by simpa using hj2
              have hjj : (rp.map fun x => (x.1, x.2.2))[j] = (a, b) := by
                rw [List.getElem?_eq_getElem hjl] at hrj
                rw [Option.some.inj hrj, hae, hbe]
              rw [settleD_succ _ _ _ j hjl, hjj, ← hq2, List.map_set]
              unfold stepD
              dsimp only
              rw [← HN.out, List.getD_eq_getElem?_getD, List.getElem?_map, List.getElem?_eq_getElem haq', hold]
              rfl
          case measure => simp [intOf]; omega
    · obtain rfl : j = rp.length := by omega
      have HQ := Lib.hid (And.intro hq1 (And.intro hq2 hq3))
      clear hq1 hq2 hq3
      go_wp2_with (with_reducible refine st_store ?_)
      refine StopOp.go rfl fun K hK => ?_
      refine wp_store1 (by kernel_rfl) (by rfl) (u := (.slice none 0 0)) (by rfl) ⟨rfl, rfl⟩ hBr.blk (by simp) ?_
      intro x1 hmx1 hBx1
      refine hK _ _ ?_
      clear hK K
      have hfi := hBr.clear hmx1 (by simpa using hBx1)
      clear hBx1 c1
      go_wp2_with fail
      go_ret
      obtain ⟨hq1, hq2, hq3⟩ := HQ.out
      refine ⟨rfl, _, ⟨_, _, dq, [], hfi.1, HFIN.out dq (by rw [hq2, List.take_of_length_le (by simp)]), rfl⟩, ?_, ?_⟩
      · rw [hq3] at hfi
        exact hMr.trans hfi.2.2
      · intro k hk
        have := hfi.2.1 k hk
        rw [hq3] at this
        exact .inl this
end Go.Proofs.Ytkedbphdflhhlaa
