import Derived.Test.YtdmnogmhnhjdgaaGPw
import Derived.Lib.AppendZerosOnto
/-! slices.Grow of nothing, slices.Concat. -/
set_option linter.unusedVariables false
set_option linter.unusedSimpArgs false
set_option maxRecDepth 100000
namespace Go.Proofs.Ytdmnogmhnhjdgaa
open Go.RowKit Gw

/-- append(nil, make(..)...) -/
theorem wp_append_zeros {P : Program} {a : Act} {w : World} {K : Act → World → Prop} {Q : Exit → Act → World → Prop} {d : Option Tmp} {ty : TypeId} {ps : String} {af : Array Edge} {gd : Option (Nat × Bool)} {t tn e : TypeId} {z : Value} {sz bytes : Nat}
    (st : ST P t e z sz bytes) (htn : P.underlying tn = some (.int .i64)) {s x : Operand} {k : Nat} (hs : a.eval s = .slice none 0 0) (hx : a.eval x = .int .i64 (k : Nat)) (h0 : 0 < k) (hb : k * bytes ≤ 140737488355328) (hk : k ≤ 4611686018427387904)
    (h : ∀ g cap cs w', w.heap.size ≤ g → g < w'.heap.size → Mod [] w w' → k ≤ cap → cap ≤ 9223372036854775807 → cs.length = cap * sz → Blk w' g e cs → K (a.put d (.slice (some ⟨g, 0, none⟩) k cap)) w') :
    Oper.wp P { dst := d, op := .call { callee := .builtin .append, args := #[s, x], argTypes := #[t, tn] }, type := ty, pos := ps, after := af, guard := gd } a w K Q := by
  obtain ⟨i, hi, hz, hsi, hby⟩ := info_parts st.info
  have hr := Lib.run_append_grow_zeros (P := P) w t tn ty e i z .i64 .i64 st.under htn hi hz none 0 0 [] (by simp [Builtin.firstCells]) k h0 (by rw [hsi]; exact st.pos) (by omega) (by omega) (by rw [hby]; omega) (by
    have : Builtin.nextslicecap (0 + k) 0 = k := by unfold Builtin.nextslicecap; rw [if_pos (by omega)]; omega
    rw [this, hby]; omega)
  have hge := grownCap_ge w (0 + k) 0 e
  have hle := grownCap_le_maxLen w (0 + k) 0 e (by unfold maxLen; omega)
  unfold maxLen at hle
  unfold Oper.wp execOp
  simp only [resolve, invoke, builtin, Sem.run_bind, Sem.run_pure, Result.andThen_ok, List.map_toArray, List.map_cons, List.map_nil, hs, hx, hr]
  obtain ⟨c, hc⟩ : ∃ c, c = grownCap w (0 + k) 0 e := ⟨_, rfl⟩
  rw [← hc] at hge hle ⊢
  have hB := Blk.new w.drew e (#[] ++ Builtin.zeroCells z.cells k ++ Builtin.zeroCells z.cells (c - (0 + k)))
  rw [Nat.zero_add] at hB ⊢
  refine h w.heap.size c _ _ (Nat.le_refl _) (by simp) ((Mod.drew [] w).ext (Mod.alloc [] _ _)) (by omega) (by omega) ?_ hB
  simp only [Array.toList_append, List.length_append, Array.length_toList, size_zeroCells, st.cells, Array.size_empty, List.length_nil, Nat.zero_add]
  rw [← Nat.add_mul]
  congr 1
  omega
set_option maxHeartbeats 2000000 in
theorem grow_nil (k : Nat) (w : World) (hk : k ≤ 140737488355328) : Calls Try.prog 101 #[.slice none 0 0, .int .i64 (k : Nat)] w fun e w' => ∃ v, e = .returned v ∧ Ow w' 5 1 v 0 [] ∧ New w v ∧ Mod [] w w' := by
  by_cases h0 : k = 0
  · subst h0
    go_enter Try.func101, Try.ntmps101
    go_wp2_with fail
    go_ret
    exact ⟨_, rfl, Ow.nil _ _ _, by simp [New, blks], Mod.refl _ _⟩
  · have y0 : (0 : Int) < k := by omega
    have y1 : ¬ ((k : Int) < 0) := by omega
    have y2 : (k : Int) ≤ 140737488355328 := by omega
    go_enter Try.func101, Try.ntmps101
    go_wp2_with (with_reducible refine st_append ?_)
    refine StopOp.go rfl fun K hK => ?_
    refine wp_append_zeros (k := k) stB Try.underlying3 (by rfl) (by rfl) (by omega) (by omega) (by omega) ?_
    intro g cap cs w1 hg1 hg2 hm1 hc1 hc2 hcs hB
    simp only [put_some, List.set_cons_succ, List.set_cons_zero]
    refine hK _ _ ?_
    clear hK K
    go_wp2_with fail
    go_ret
    exact ⟨_, rfl, Ow.of_blk (xs := []) (rest := cs) hB (Nat.zero_le _) hc2 (by simpa using hcs) (by simp), fun b hb => by have e : b = g := (by simpa [blks] using hb); omega, hm1⟩
theorem flat_take (D : List (Value × List UInt8)) {j : Nat} (h : j < D.length) : (D.take (j + 1)).flatMap (·.2) = (D.take j).flatMap (·.2) ++ D[j].2 := by
  rw [List.take_succ_eq_append_getElem h, List.flatMap_append]
  simp
set_option maxHeartbeats 4000000 in
theorem concat_any (D : List (Value × List UInt8)) (lv : Value) (w : World) (h : RowsR w lv D) (hN : D.length ≤ 1048576) (hl : (D.flatMap (·.2)).length ≤ 1048576000) :
    Calls Try.prog 78 #[lv] w fun e w' => ∃ v, e = .returned v ∧ Ob w' v (D.flatMap (·.2)) ∧ New w v ∧ Mod [] w w' := by
  obtain ⟨ao, cap, rfl, hc1, hc2⟩ := h.1.form
  have hlen : ∀ j, ((D.take j).flatMap (·.2)).length ≤ (D.flatMap (·.2)).length := fun j => by
    conv => rhs; rw [← List.take_append_drop j D, List.flatMap_append, List.length_append]
    omega
  have GR := fun w => grow_nil (D.flatMap (·.2)).length w (by omega)
  obtain ⟨N, hN'⟩ : ∃ N, N = D.length := ⟨_, rfl⟩
  obtain ⟨T, hT⟩ : ∃ T, T = (D.flatMap (·.2)).length := ⟨_, rfl⟩
  rw [← hT] at GR hl hlen
  have H := Lib.hid (And.intro hN' (And.intro hT hlen))
  have hS : Sl w 1 (.slice ao D.length cap) D.length (D.map (·.1)) := h.1
  have hR := h.2
  rw [← hN'] at hS hN ⊢
  clear hN' hT hlen h
  go_enter Try.func78, Try.ntmps78
  go_wp2_with fail
  go_loopw [3, 5, 11] (fun sv _ iv wr => ∃ j S : Nat, j ≤ N ∧ iv = .int .i64 j ∧ sv = .int .i64 S ∧ S = ((D.take j).flatMap (·.2)).length ∧ w = wr) (fun _ _ iv _ => N - (intOf iv).toNat)
  case atStart => exact ⟨0, 0, Nat.zero_le _, rfl, rfl, by simp, rfl⟩
  case round =>
    obtain ⟨j, S, hj, rfl, rfl, hS', rfl⟩ := hrel
    by_cases hlt : j < N
    · have y1 : (j : Int) < N := by omega
      have hjD : j < D.length := by have := H.out.1; omega
      obtain ⟨b, o, rfl, c0⟩ := sl_at' hS (i := j) (by simpa using hjD)
      have hb := hR _ (List.getElem_mem hjD)
      obtain ⟨aob, capb, hbv, _, _⟩ := hb.form
      rw [List.getElem_map, hbv] at c0
      have h1 := H.out.2.2 (j + 1)
      have h2 := flat_take D hjD
      obtain ⟨m, hm⟩ : ∃ m, m = D[j].2.length := ⟨_, rfl⟩
      have h3 : ((D.take (j + 1)).flatMap (·.2)).length = S + m := by rw [h2, List.length_append, hS', hm]
      rw [h3] at h1
      rw [← hm] at c0
      have H3 := Lib.hid h3
      clear h2 h3 hS' hm hbv hb
      go_wp2_with fail
      go_roundw
      case rel => exact ⟨j + 1, S + m, by omega, by go_num, by go_num, H3.out.symm, by trivial⟩
      case measure => simp [intOf]; omega
    · obtain rfl : j = N := by omega
      have e : (D.take j).flatMap (·.2) = D.flatMap (·.2) := by rw [List.take_of_length_le (by have := H.out.1; omega)]
      obtain rfl : S = T := by rw [hS', e]; exact H.out.2.1.symm
      clear e hS'
      go_wp2_with (go_at_call 101; refine (GR _).mono ?_; rintro e w1 ⟨v1, rfl, ho1, hn1, hm1⟩; obtain ⟨ao1, cap1, rfl, _, _⟩ := ho1.sl.form)
      go_loopw [6, 8, 27] (fun nv _ iv wr => ∃ (i : Nat) (X : List UInt8), i ≤ j ∧ iv = .int .i64 i ∧ X = (D.take i).flatMap (·.2) ∧ Ob wr nv X ∧ New w nv ∧ Mod [] w wr) (fun _ _ iv _ => j - (intOf iv).toNat)
      case atStart => exact ⟨0, [], Nat.zero_le _, rfl, by simp, ho1, hn1, hm1⟩
      case round =>
        obtain ⟨i, X, hi, rfl, hX, hoX, hnX, hmX⟩ := hrel
        by_cases hlt : i < j
        · have y1 : (i : Int) < j := by omega
          have hiD : i < D.length := by have := H.out.1; omega
          obtain ⟨b, o, rfl, c0⟩ := sl_at' (Sl.ext hS hmX) (i := i) (by simpa using hiD)
          have hb := (hR _ (List.getElem_mem hiD)).ext hmX
          obtain ⟨aob, capb, hbv, _, _⟩ := hb.form
          rw [List.getElem_map, hbv] at c0
          rw [hbv] at hb
          have h1 := H.out.2.2 (i + 1)
          have h2 := flat_take D hiD
          rw [← hX] at h2
          rw [h2, List.length_append] at h1
          obtain ⟨Y, hY⟩ : ∃ m, m = D[i].2 := ⟨_, rfl⟩
          rw [← hY] at c0 hb h1 h2
          have H2 := Lib.hid h2
          clear h2 hX hY hbv
          obtain ⟨aon, capn, rfl, _, _⟩ := hoX.sl.form
          go_wp2_with (with_reducible refine st_append ?_)
          refine StopOp.go rfl fun K hK => ?_
          refine wp_append_ow stB (by rfl) (by rfl) hoX hb (bv_one Y) (by omega) (by omega) ?_
          intro v5 w5 ho5 hm5 hb5
          simp only [put_some, List.set_cons_succ, List.set_cons_zero]
          refine hK _ _ ?_
          clear hK K
          rw [← bv_append, ← List.length_append] at ho5
          obtain ⟨ao5, cap5, rfl, _, _⟩ := ho5.sl.form
          go_wp2_with fail
          go_roundw
          case rel => exact ⟨i + 1, X ++ Y, by omega, by go_num, H2.out.symm, ho5, fun k hk => (hb5 k hk).elim (hnX k) (fun h => Nat.le_trans hmX.size h), hmX.fresh hm5 hnX⟩
          case measure => simp [intOf]; omega
        · obtain rfl : i = j := by omega
          obtain ⟨aon, capn, rfl, _, _⟩ := hoX.sl.form
          go_wp2_with fail
          go_ret
          refine ⟨_, rfl, ?_, hnX, hmX⟩
          rw [List.take_of_length_le (by have := H.out.1; omega)] at hX
          rw [← hX]
          exact hoX
end Go.Proofs.Ytdmnogmhnhjdgaa
