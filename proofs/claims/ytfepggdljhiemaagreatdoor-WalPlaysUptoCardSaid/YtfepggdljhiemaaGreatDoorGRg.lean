import Derived.Test.YtfepggdljhiemaaGreatDoorGPw
import Derived.Lib.AppendZerosOnto
/-! slices.Grow of nothing, slices.Concat. -/
set_option linter.unusedVariables false
set_option linter.unusedSimpArgs false
set_option maxRecDepth 100000
namespace Go.Proofs.YtfepggdljhiemaaGreatDoor
open Go.RowKit Gw

/-- append(nil, make(..)...) -/
theorem wp_append_zeros {P : Program} {a : Act} {w : World} {K : Act → World → Prop} {Q : Exit → Act → World → Prop} {d : Option Tmp} {ty : TypeId} {ps : String} {af : Array Edge} {gd : Option (Nat × Bool)} {t tn e : TypeId} {z : Value} {sz bytes : Nat}
    (st : ST P t e z sz bytes) (htn : P.underlying tn = some (.int .i64)) {s x : Operand} {k : Nat} (hs : a.eval s = .slice none 0 0) (hx : a.eval x = .int .i64 (k : Nat)) (h0 : 0 < k) (hb : k * bytes ≤ 140737488355328) (hk : k ≤ 4611686018427387904)
    (h : ∀ g cap cs w', w.heap.size ≤ g → g < w'.heap.size → Mod [] w w' → k ≤ cap → cap ≤ 9223372036854775807 → cs.length = cap * sz → Blk w' g e cs → K (a.put d (.slice (some ⟨g, 0, none⟩) k cap)) w') :
    Oper.wp P { dst := d, op := .call { callee := .builtin .append, args := #[s, x], argTypes := #[t, tn] }, type := ty, pos := ps, after := af, guard := gd } a w K Q := by
  obtain ⟨i, hi, hz, hsi, hby⟩ := info_parts st.info
  have hr := Lib.run_append_grow_zeros (P := P) w t tn ty e i z .i64 .i64 st.under htn hi hz none 0 0 [] (by simp [Builtin.firstCells]) k h0 (by rw [hsi]; exact st.pos) (by omega) (by omega) (by rw [hby]; omega) (by
    have : Builtin.nextslicecap (0 + k) 0 = k := by unfold Builtin.nextslicecap; rw [if_pos (by omega)]; omega
    rw [this, hby]; omega)
  have hge := grownCap_ge w (0 + k) 0 e
  have hle := grownCap_le_maxLen w (0 + k) 0 e (by unfold maxLen; omega)
  unfold maxLen at hle
  unfold Oper.wp execOp
  simp only [resolve, invoke, builtin, Sem.run_bind, Sem.run_pure, Result.andThen_ok, List.map_toArray, List.map_cons, List.map_nil, hs, hx, hr]
  obtain ⟨c, hc⟩ : ∃ c, c = grownCap w (0 + k) 0 e := ⟨_, rfl⟩
  rw [← hc] at hge hle ⊢
  have hB := Blk.new w.drew e (#[] ++ Builtin.zeroCells z.cells k ++ Builtin.zeroCells z.cells (c - (0 + k)))
  rw [Nat.zero_add] at hB ⊢
  refine h w.heap.size c _ _ (Nat.le_refl _) (by simp) ((Mod.drew [] w).ext (Mod.alloc [] _ _)) (by omega) (by omega) ?_ hB
  simp only [Array.toList_append, List.length_append, Array.length_toList, size_zeroCells, st.cells, Array.size_empty, List.length_nil, Nat.zero_add]
  rw [← Nat.add_mul]
  congr 1
  omega
set_option maxHeartbeats 2000000 in
theorem grow_nil (k : Nat) (w : World) (hk : k ≤ 140737488355328) : Calls Tryz.prog 145 #[.slice none 0 0, .int .i64 (k : Nat)] w fun e w' => ∃ v, e = .returned v ∧ Ow w' 5 1 v 0 [] ∧ New w v ∧ Mod [] w w' := by
  by_cases h0 : k = 0
  · subst h0
    go_enter Tryz.func145, Tryz.ntmps145
    go_wp2_with fail
    go_ret
    exact ⟨_, rfl, Ow.nil _ _ _, by simp [New, blks], Mod.refl _ _⟩
  · have y0 : (0 : Int) < k := by omega
    have y1 : ¬ ((k : Int) < 0) := by omega
    have y2 : (k : Int) ≤ 140737488355328 := by omega
    go_enter Tryz.func145, Tryz.ntmps145
    go_wp2_with (with_reducible refine st_append ?_)
    refine StopOp.go rfl fun K hK => ?_
    refine wp_append_zeros (k := k) stB Tryz.underlying3 (by rfl) (by rfl) (by omega) (by omega) (by omega) ?_
    intro g cap cs w1 hg1 hg2 hm1 hc1 hc2 hcs hB
    simp only [put_some, List.set_cons_succ, List.set_cons_zero]
    refine hK _ _ ?_
    clear hK K
    go_wp2_with fail
    go_ret
    exact ⟨_, rfl, Ow.of_blk (xs := []) (rest := cs) hB (Nat.zero_le _) hc2 (by simpa using hcs) (by simp), fun b hb => by have e : b = g := (by simpa [blks] using hb); omega, hm1⟩
theorem flat_take (D : List (Value × List UInt8)) {j : Nat} (h : j < D.length) : (D.take (j + 1)).flatMap (·.2) = (D.take j).flatMap (·.2) ++ D[j].2 := by
  rw [List.take_succ_eq_append_getElem h, List.flatMap_append]
  simp
set_option maxHeartbeats 4000000 in
theorem concat_any (D : List (Value × List UInt8)) (lv : Value) (w : World) (h : RowsR w lv D) (hN : D.length ≤ 1048576) (hl : (D.flatMap (·.2)).length ≤ 1048576000) :
    Calls Tryz.prog 97 #[lv] w fun e w' => ∃ v, e = .returned v ∧ Ob w' v (D.flatMap (·.2)) ∧ New w v ∧ Mod [] w w' := by
  obtain ⟨ao, cap, rfl, hc1, hc2⟩ := h.1.form
  have hlen : ∀ j, ((D.take j).flatMap (·.2)).length ≤ (D.flatMap (·.2)).length := fun j => by
    conv => rhs; rw [← List.take_append_drop j D, List.flatMap_append, List.length_append]
    omega
  have GR := fun w => grow_nil (D.flatMap (·.2)).length w (by omega)
  obtain ⟨N, hN'⟩ : ∃ N, N = D.length := ⟨_, rfl⟩
  obtain ⟨T, hT⟩ : ∃ T, T = (D.flatMap (·.2)).length := ⟨_, rfl⟩
  rw [← hT] at GR hl hlen
  have H := Lib.hid (And.intro hN' (And.intro hT hlen))
  have hS : Sl w 1 (.slice ao D.length cap) D.length (D.map (·.1)) := h.1
  have hR := h.2
  rw [← hN'] at hS hN ⊢
  clear hN' hT hlen h
  go_enter Tryz.func97, Tryz.ntmps97
  go_wp2_with fail
  go_loopw [3, 5, 11] (fun sv _ iv wr => ∃ j S : Nat, j ≤ N ∧ iv = .int .i64 j ∧ sv = .int .i64 S ∧ S = ((D.take j).flatMap (·.2)).length ∧ w = wr) (fun _ _ iv _ => N - (intOf iv).toNat)
  case atStart => exact ⟨0, 0, Nat.zero_le _, rfl, rfl, by simp, rfl⟩
  case round =>
    obtain ⟨j, S, hj, rfl, rfl, hS', rfl⟩ := hrel
    by_cases hlt : j < N
    · have y1 : (j : Int) < N := by omega
      have hjD : j < D.length := by have := H.out.1; omega
      obtain ⟨b, o, rfl, c0⟩ := sl_at' hS (i := j) (by simpa using hjD)
      have hb := hR _ (List.getElem_mem hjD)
      obtain ⟨aob, capb, hbv, _, _⟩ := hb.form
      rw [List.getElem_map, hbv] at c0
      have h1 := H.out.2.2 (j + 1)
      have h2 := flat_take D hjD
      obtain ⟨m, hm⟩ : ∃ m, m = D[j].2.length := ⟨_, rfl⟩
      have h3 : ((D.take (j + 1)).flatMap (·.2)).length = S + m := by rw [h2, List.length_append, hS', hm]
      rw [h3] at h1
      rw [← hm] at c0
      have H3 := Lib.hid h3
      clear h2 h3 hS' hm hbv hb
      go_wp2_with fail
      go_roundw
      case rel => exact ⟨j + 1, S + m, by omega, by go_num, by go_num, H3.out.symm, by trivial⟩
      case measure => simp [intOf]; omega
    · obtain rfl : j = N := by omega
      have e : (D.take j).flatMap (·.2) = D.flatMap (·.2) := by rw [List.take_of_length_le (by have := H.out.1; omega)]
      obtain rfl : S = T := by rw [hS', e]; exact H.out.2.1.symm
      clear e hS'
      go_wp2_with (go_at_call 145; refine (GR _).mono ?_; rintro e w1 ⟨v1, rfl, ho1, hn1, hm1⟩; obtain ⟨ao1, cap1, rfl, _, _⟩ := ho1.sl.form)
      go_loopw [6, 8, 27] (fun nv _ iv wr => ∃ (i : Nat) (X : List UInt8), i ≤ j ∧ iv = .int .i64 i ∧ X = (D.take i).flatMap (·.2) ∧ Ob wr nv X ∧ New w nv ∧ Mod [] w wr) (fun _ _ iv _ => j - (intOf iv).toNat)
      case atStart => exact ⟨0, [], Nat.zero_le _, rfl, by simp, ho1, hn1, hm1⟩
      case round =>
        obtain ⟨i, X, hi, rfl, hX, hoX, hnX, hmX⟩ := hrel
        by_cases hlt : i < j
        · have y1 : (i : Int) < j := by omega
          have hiD : i < D.length := by have := H.out.1; omega
          obtain ⟨b, o, rfl, c0⟩ := sl_at' (Sl.ext hS hmX) (i := i) (by simpa using hiD)
          have hb := (hR _ (List.getElem_mem hiD)).ext hmX
          obtain ⟨aob, capb, hbv, _, _⟩ := hb.form
          rw [List.getElem_map, hbv] at c0
          rw [hbv] at hb
          have h1 := H.out.2.2 (i + 1)
          have h2 := flat_take D hiD
          rw [← hX] at h2
          rw [h2, List.length_append] at h1
          obtain ⟨Y, hY⟩ : ∃ m, m = D[i].2 := ⟨_, rfl⟩
          rw [← hY] at c0 hb h1 h2
          have H2 := Lib.hid h2
          clear h2 hX hY hbv
          obtain ⟨aon, capn, rfl, _, _⟩ := hoX.sl.form
          go_wp2_with (with_reducible refine st_append ?_)
          refine StopOp.go rfl fun K hK => ?_
          refine wp_append_ow stB (by rfl) (by rfl) hoX hb (bv_one Y) (by omega) (by omega) ?_
          intro v5 w5 ho5 hm5 hb5
          simp only [put_some, List.set_cons_succ, List.set_cons_zero]
          refine hK _ _ ?_
          clear hK K
          rw [← bv_append, ← List.length_append] at ho5
          obtain ⟨ao5, cap5, rfl, _, _⟩ := ho5.sl.form
          go_wp2_with fail
          go_roundw
          case rel => exact ⟨i + 1, X ++ Y, by omega, by go_num, H2.out.symm, ho5, fun k hk => (hb5 k hk).elim (hnX k) (fun h => Nat.le_trans hmX.size h), hmX.fresh hm5 hnX⟩
          case measure => simp [intOf]; omega
        · obtain rfl : i = j := by omega
          obtain ⟨aon, capn, rfl, _, _⟩ := hoX.sl.form
          go_wp2_with fail
          go_ret
          refine ⟨_, rfl, ?_, hnX, hmX⟩
          rw [List.take_of_length_le (by have := H.out.1; omega)] at hX
          rw [← hX]
          exact hoX
end Go.Proofs.YtfepggdljhiemaaGreatDoor

/-! Regions: what they are; each. -/
namespace Go.Proofs.YtfepggdljhiemaaGreatDoor
open Go.RowKit Gw

/-- where a chunk ends in its sector -/
def toC (z a e : Nat) : Nat := min z (a % z + (e - a))
/-- where the next one begins -/
def nxt (z a e : Nat) : Nat := a + (toC z a e - a % z)
theorem toC_gt {z a e : Nat} (h : a < e) (hz : 0 < z) : a % z < toC z a e := by
  have := Nat.mod_lt a hz
  unfold toC
  omega
theorem toC_le (z a e : Nat) : toC z a e ≤ z := by unfold toC; omega
theorem nxt_gt {z a e : Nat} (h : a < e) (hz : 0 < z) : a < nxt z a e := by
  have := toC_gt h hz
  unfold nxt
  omega
theorem nxt_le {z a e : Nat} (h : a ≤ e) : nxt z a e ≤ e := by
  unfold nxt toC
  omega
/-- Read: the device, the answer, what was read -/
def rdG (f z : Nat) (v : Pv) (a e : Nat) (acc : List UInt8) : Pv × Int × List UInt8 :=
  if h : a < e ∧ 0 < z then
    if v.go = true then rdG f z v.md (nxt z a e) e (acc ++ ((v.m.read (f + a / z)).drop (a % z)).take (toC z a e - a % z)) else (v.md, 60, [])
  else (v, 0, acc)
termination_by e - a
decreasing_by have := nxt_gt h.1 h.2; omega
/-- a chunk of a Write -/
def wrC (v : Pv) (S M T z : Nat) (full : List UInt8) : Pv × Int :=
  if T - M < z then
    if v.go = true then
      if v.md.go = true then (v.md.wr S ((v.m.read S).take M ++ full ++ (v.m.read S).drop T), 0) else (v.md.md, 60)
    else (v.md, 60)
  else if v.go = true then (v.wr S full, 0) else (v.md, 60)
/-- Write: the device, the answer -/
def wrG (f z : Nat) (v : Pv) (a e : Nat) (b : List UInt8) : Pv × Int :=
  if h : a < e ∧ 0 < z then
    if (wrC v (f + a / z) (a % z) (toC z a e) z (b.take (toC z a e - a % z))).2 = 0 then
      wrG f z (wrC v (f + a / z) (a % z) (toC z a e) z (b.take (toC z a e - a % z))).1 (nxt z a e) e (b.drop (toC z a e - a % z))
    else wrC v (f + a / z) (a % z) (toC z a e) z (b.take (toC z a e - a % z))
  else (v, 0)
termination_by e - a
decreasing_by have := nxt_gt h.1 h.2; omega
/-- a region in memory -/
def Rgn (w : World) (r p f c z : Nat) : Prop := Blk w r 142 [.pointer (some ⟨p, 0, none⟩), .int .i64 (f : Nat), .int .i64 (c : Nat), .int .i64 (z : Nat)]
theorem Rgn.mod {w w' : World} {r p f c z : Nat} {M : List Nat} (h : Rgn w r p f c z) (hm : Mod M w w') (hr : r ∉ M) : Rgn w' r p f c z := Blk.mod h hm hr
theorem Rgn.ext {w w' : World} {r p f c z : Nat} (h : Rgn w r p f c z) (hm : Mod [] w w') : Rgn w' r p f c z := Blk.ext h hm
/-- one that is none -/
def NoRg (w : World) (v : Value) : Prop := v = .pointer none ∨ ∃ r, v = .pointer (some ⟨r, 0, none⟩) ∧ Blk w r 142 [.pointer none, .int .i64 0, .int .i64 0, .int .i64 0]
set_option maxHeartbeats 4000000 in
theorem eachR_any (r p f c z : Nat) (c1 c2 : Option Addr) (at_ n : Nat) (J : Nat → World → Prop) (R : Int → World → Prop) (w : World) (hz : 0 < z) (hz2 : z ≤ 4096) (hf : f ≤ 65536) (hb : at_ + n ≤ 1099511627776) (h0 : J at_ w)
    (hB : ∀ a W, J a W → Rgn W r p f c z)
    (hS : ∀ a W, J a W → at_ ≤ a → a < at_ + n → Calls Tryz.prog 100 #[.int .i64 ((f + a / z : Nat) : Int), .int .i64 ((a % z : Nat) : Int), .int .i64 ((toC z a (at_ + n) : Nat) : Int), .pointer c1, .pointer c2] W fun e W' => ∃ E, e = .returned (.int .i64 E) ∧ (E = 0 → J (nxt z a (at_ + n)) W') ∧ (E ≠ 0 → R E W')) :
    Calls Tryz.prog 94 #[.pointer (some ⟨r, 0, none⟩), .int .i64 (at_ : Nat), .int .i64 (n : Nat), .func (.func 100) #[] #[.pointer c1, .pointer c2]] w fun e w' => ∃ E, e = .returned (.int .i64 E) ∧ (E = 0 → J (at_ + n) w') ∧ (E ≠ 0 → R E w') := by
  have y0 : (at_ : Int) + n ≤ 1099511627776 := by omega
  obtain ⟨e, he⟩ : ∃ e, e = at_ + n := ⟨_, rfl⟩
  have he' : (at_ : Int) + n = (e : Nat) := by omega
  rw [← he] at hS hb ⊢
  have hae : at_ ≤ e := by omega
  have y3 : (e : Int) ≤ 1099511627776 := by omega
  clear he y0
  go_enter Tryz.func94, Tryz.ntmps94
  go_wp2_with fail
  go_loopw [1, 10, 11, 12, 13] (fun av _ _ _ _ wr => ∃ a : Nat, av = .int .i64 a ∧ at_ ≤ a ∧ a ≤ e ∧ J a wr) (fun av _ _ _ _ _ => e - (intOf av).toNat)
  case atStart => exact ⟨at_, rfl, Nat.le_refl _, hae, h0⟩
  case round =>
    obtain ⟨a, rfl, ha1, ha2, hJ⟩ := hrel
    by_cases hlt : a < e
    · have y1 : (a : Int) < e := by omega
      have hr := hB a wr hJ
      have ST := hS a wr hJ ha1 hlt
      have h1 := toC_gt hlt hz
      have h2 := toC_le z a e
      have h3 : nxt z a e = a + (toC z a e - a % z) := rfl
      have h4 : toC z a e = min z (a % z + (e - a)) := rfl
      have h5 := nxt_le (z := z) ha2
      have h6 := nxt_gt hlt hz
      have hml := Nat.mod_lt a hz
      have hdl : a / z ≤ a := Nat.div_le_self a z
      obtain ⟨S, hS'⟩ : ∃ S, S = a / z := ⟨_, rfl⟩
      obtain ⟨M, hM'⟩ : ∃ M, M = a % z := ⟨_, rfl⟩
      obtain ⟨T, hT'⟩ : ∃ M, M = toC z a e := ⟨_, rfl⟩
      obtain ⟨X, hX'⟩ : ∃ M, M = nxt z a e := ⟨_, rfl⟩
      have q1 : (a : Int) / (z : Int) = (S : Nat) := by rw [hS']; exact (Int.natCast_ediv a z).symm
      have q2 : (a : Int) % (z : Int) = (M : Nat) := by rw [hM']; exact (Int.natCast_emod a z).symm
      rw [← hS', ← hM', ← hT', ← hX'] at ST
      rw [← hT', ← hM', ← hX'] at h3
      rw [← hT', ← hM'] at h1 h4
      rw [← hT'] at h2
      rw [← hX'] at h5 h6
      rw [← hM'] at hml
      rw [← hS'] at hdl
      clear hS' hM' hT' hX'
      have q0 : ((f + S : Nat) : Int) = (f : Int) + (S : Nat) := by omega
      rw [q0] at ST
      have z1 : (0 : Int) < z := by omega
      have z2 : (z : Int) ≠ 0 := by omega
      have z3 : (M : Int) < z := by omega
      have z4 : (S : Int) ≤ a := by omega
      have z5 : (z : Int) ≤ 4096 := by omega
      have z6 : (f : Int) ≤ 65536 := by omega
      have z7 : (a : Int) + ((T : Int) - M) = (X : Nat) := by omega
      have HX := Lib.hid (And.intro h3 (And.intro h5 (And.intro h6 (And.intro h1 h2))))
      have c3 := hr.cell' (i := 3) rfl
      have c1' := hr.cell' (i := 1) rfl
      have c0' := hr.cell' (i := 0) rfl
      clear hr h3 h5 h6 q0 hdl
      by_cases hc : z ≤ M + (e - a)
      · obtain rfl : T = z := by omega
        have z8 : (T : Int) ≤ M + e - a := by omega
        clear h4 h1 h2 hc
        go_upto_region 7 with (go_at_call 100; refine (ST).mono ?_; rintro e w1 ⟨E, rfl, hE0, hE1⟩)
        by_cases hE : E = 0
        · subst hE
          have hJ' := hE0 rfl
          have hx := HX.out
          clear hE0 hE1
          go_wp2_with fail
          go_roundw
          case rel => exact ⟨X, congrArg (Value.int IntKind.i64) (by omega), by omega, by omega, hJ'⟩
          case measure => simp [intOf]; omega
        · have hJ' := hE1 hE
          have hb : (E == 0) = false := by rw [beq_eq_false_iff_ne]; exact hE
          clear hE0 hE1
          go_wp2_with fail
          go_ret
          exact ⟨E, rfl, fun h => absurd h hE, fun _ => hJ'⟩
      · have z8 : (M : Int) + e - a < z := by omega
        have z9 : (M : Int) + e - a = (T : Nat) := by omega
        clear h4 h1 h2 hc
        go_upto_region 7 with (go_at_call 100; refine (ST).mono ?_; rintro e w1 ⟨E, rfl, hE0, hE1⟩)
        by_cases hE : E = 0
        · subst hE
          have hJ' := hE0 rfl
          have hx := HX.out
          clear hE0 hE1
          go_wp2_with fail
          go_roundw
          case rel => exact ⟨X, congrArg (Value.int IntKind.i64) (by omega), by omega, by omega, hJ'⟩
          case measure => simp [intOf]; omega
        · have hJ' := hE1 hE
          have hb : (E == 0) = false := by rw [beq_eq_false_iff_ne]; exact hE
          clear hE0 hE1
          go_wp2_with fail
          go_ret
          exact ⟨E, rfl, fun h => absurd h hE, fun _ => hJ'⟩
    · obtain rfl : a = e := by omega
      go_wp2_with fail
      go_ret
      exact ⟨0, rfl, fun _ => hJ, fun h => absurd rfl h⟩
set_option maxHeartbeats 4000000 in
theorem eachW_any (r p f c z : Nat) (c1 c2 : Option Addr) (at_ n : Nat) (J : Nat → World → Prop) (R : Int → World → Prop) (w : World) (hz : 0 < z) (hz2 : z ≤ 4096) (hf : f ≤ 65536) (hb : at_ + n ≤ 1099511627776) (h0 : J at_ w)
    (hB : ∀ a W, J a W → Rgn W r p f c z)
    (hS : ∀ a W, J a W → at_ ≤ a → a < at_ + n → Calls Tryz.prog 95 #[.int .i64 ((f + a / z : Nat) : Int), .int .i64 ((a % z : Nat) : Int), .int .i64 ((toC z a (at_ + n) : Nat) : Int), .pointer c1, .pointer c2] W fun e W' => ∃ E, e = .returned (.int .i64 E) ∧ (E = 0 → J (nxt z a (at_ + n)) W') ∧ (E ≠ 0 → R E W')) :
    Calls Tryz.prog 94 #[.pointer (some ⟨r, 0, none⟩), .int .i64 (at_ : Nat), .int .i64 (n : Nat), .func (.func 95) #[] #[.pointer c1, .pointer c2]] w fun e w' => ∃ E, e = .returned (.int .i64 E) ∧ (E = 0 → J (at_ + n) w') ∧ (E ≠ 0 → R E w') := by
  have y0 : (at_ : Int) + n ≤ 1099511627776 := by omega
  obtain ⟨e, he⟩ : ∃ e, e = at_ + n := ⟨_, rfl⟩
  have he' : (at_ : Int) + n = (e : Nat) := by omega
  rw [← he] at hS hb ⊢
  have hae : at_ ≤ e := by omega
  have y3 : (e : Int) ≤ 1099511627776 := by omega
  clear he y0
  go_enter Tryz.func94, Tryz.ntmps94
  go_wp2_with fail
  go_loopw [1, 10, 11, 12, 13] (fun av _ _ _ _ wr => ∃ a : Nat, av = .int .i64 a ∧ at_ ≤ a ∧ a ≤ e ∧ J a wr) (fun av _ _ _ _ _ => e - (intOf av).toNat)
  case atStart => exact ⟨at_, rfl, Nat.le_refl _, hae, h0⟩
  case round =>
    obtain ⟨a, rfl, ha1, ha2, hJ⟩ := hrel
    by_cases hlt : a < e
    · have y1 : (a : Int) < e := by omega
      have hr := hB a wr hJ
      have ST := hS a wr hJ ha1 hlt
      have h1 := toC_gt hlt hz
      have h2 := toC_le z a e
      have h3 : nxt z a e = a + (toC z a e - a % z) := rfl
      have h4 : toC z a e = min z (a % z + (e - a)) := rfl
      have h5 := nxt_le (z := z) ha2
      have h6 := nxt_gt hlt hz
      have hml := Nat.mod_lt a hz
      have hdl : a / z ≤ a := Nat.div_le_self a z
      obtain ⟨S, hS'⟩ : ∃ S, S = a / z := ⟨_, rfl⟩
      obtain ⟨M, hM'⟩ : ∃ M, M = a % z := ⟨_, rfl⟩
      obtain ⟨T, hT'⟩ : ∃ M, M = toC z a e := ⟨_, rfl⟩
      obtain ⟨X, hX'⟩ : ∃ M, M = nxt z a e := ⟨_, rfl⟩
      have q1 : (a : Int) / (z : Int) = (S : Nat) := by rw [hS']; exact (Int.natCast_ediv a z).symm
      have q2 : (a : Int) % (z : Int) = (M : Nat) := by rw [hM']; exact (Int.natCast_emod a z).symm
      rw [← hS', ← hM', ← hT', ← hX'] at ST
      rw [← hT', ← hM', ← hX'] at h3
      rw [← hT', ← hM'] at h1 h4
      rw [← hT'] at h2
      rw [← hX'] at h5 h6
      rw [← hM'] at hml
      rw [← hS'] at hdl
      clear hS' hM' hT' hX'
      have q0 : ((f + S : Nat) : Int) = (f : Int) + (S : Nat) := by omega
      rw [q0] at ST
      have z1 : (0 : Int) < z := by omega
      have z2 : (z : Int) ≠ 0 := by omega
      have z3 : (M : Int) < z := by omega
      have z4 : (S : Int) ≤ a := by omega
      have z5 : (z : Int) ≤ 4096 := by omega
      have z6 : (f : Int) ≤ 65536 := by omega
      have z7 : (a : Int) + ((T : Int) - M) = (X : Nat) := by omega
      have HX := Lib.hid (And.intro h3 (And.intro h5 (And.intro h6 (And.intro h1 h2))))
      have c3 := hr.cell' (i := 3) rfl
      have c1' := hr.cell' (i := 1) rfl
      have c0' := hr.cell' (i := 0) rfl
      clear hr h3 h5 h6 q0 hdl
      by_cases hc : z ≤ M + (e - a)
      · obtain rfl : T = z := by omega
        have z8 : (T : Int) ≤ M + e - a := by omega
        clear h4 h1 h2 hc
        go_upto_region 7 with (go_at_call 95; refine (ST).mono ?_; rintro e w1 ⟨E, rfl, hE0, hE1⟩)
        by_cases hE : E = 0
        · subst hE
          have hJ' := hE0 rfl
          have hx := HX.out
          clear hE0 hE1
          go_wp2_with fail
          go_roundw
          case rel => exact ⟨X, congrArg (Value.int IntKind.i64) (by omega), by omega, by omega, hJ'⟩
          case measure => simp [intOf]; omega
        · have hJ' := hE1 hE
          have hb : (E == 0) = false := by rw [beq_eq_false_iff_ne]; exact hE
          clear hE0 hE1
          go_wp2_with fail
          go_ret
          exact ⟨E, rfl, fun h => absurd h hE, fun _ => hJ'⟩
      · have z8 : (M : Int) + e - a < z := by omega
        have z9 : (M : Int) + e - a = (T : Nat) := by omega
        clear h4 h1 h2 hc
        go_upto_region 7 with (go_at_call 95; refine (ST).mono ?_; rintro e w1 ⟨E, rfl, hE0, hE1⟩)
        by_cases hE : E = 0
        · subst hE
          have hJ' := hE0 rfl
          have hx := HX.out
          clear hE0 hE1
          go_wp2_with fail
          go_roundw
          case rel => exact ⟨X, congrArg (Value.int IntKind.i64) (by omega), by omega, by omega, hJ'⟩
          case measure => simp [intOf]; omega
        · have hJ' := hE1 hE
          have hb : (E == 0) = false := by rw [beq_eq_false_iff_ne]; exact hE
          clear hE0 hE1
          go_wp2_with fail
          go_ret
          exact ⟨E, rfl, fun h => absurd h hE, fun _ => hJ'⟩
    · obtain rfl : a = e := by omega
      go_wp2_with fail
      go_ret
      exact ⟨0, rfl, fun _ => hJ, fun h => absurd rfl h⟩
end Go.Proofs.YtfepggdljhiemaaGreatDoor

/-! Regions: made, bytes, holds, New, and what is asked of them. -/
namespace Go.Proofs.YtfepggdljhiemaaGreatDoor
open Go.RowKit Gw

theorem Bs.prefR {w : World} {ao : Option Addr} {n cap k : Nat} {l : List UInt8} (h : Bs w (.slice ao n cap) l) (hn : n = l.length) (hk : k ≤ n) (hc : k ≤ cap) : Bs w (.slice ao k cap) (l.take k) := by
  subst hn
  have h2 := Sl.cut (lo := 0) (hi := k) (m := cap) h (Nat.zero_le _) hk hc (Nat.le_refl _)
  have hl : (l.take k).length = k := by rw [List.length_take]; omega
  unfold Bs
  rw [hl]
  have e : bv (l.take k) = ((bv l).drop (0 * 1)).take ((k - 0) * 1) := by unfold bv; simp
  rw [e]
  have e2 : ao.map (·.add (0 * 1)) = ao := by cases ao <;> simp [Addr.add]
  rw [e2] at h2
  simpa using h2
theorem Bs.sufR {w : World} {ao : Option Addr} {n cap p : Nat} {l : List UInt8} (h : Bs w (.slice ao n cap) l) (hn : n = l.length) (hp : p ≤ n) (hc : n ≤ cap) : Bs w (.slice (if cap = p then ao else Option.map (fun x => x.add p) ao) (n - p) (cap - p)) (l.drop p) := by
  subst hn
  have h2 := Sl.cut (lo := p) (hi := l.length) (m := cap) h hp (Nat.le_refl _) hc (Nat.le_refl _)
  have hl : (l.drop p).length = l.length - p := List.length_drop
  unfold Bs
  rw [hl]
  have e : bv (l.drop p) = ((bv l).drop (p * 1)).take ((l.length - p) * 1) := by
    unfold bv
    rw [Nat.mul_one, Nat.mul_one, ← List.map_drop, List.take_of_length_le (by rw [List.length_map]; omega)]
  rw [e]
  simpa only [Nat.mul_one] using h2
theorem Bs.subR {w : World} {ao : Option Addr} {n cap lo hi : Nat} {l : List UInt8} (h : Bs w (.slice ao n cap) l) (h1 : lo ≤ hi) (h2 : hi ≤ l.length) (hc : n ≤ cap) (hn : n = l.length) (hcm : lo < cap) : Bs w (.slice (ao.map (·.add lo)) (hi - lo) (cap - lo)) ((l.drop lo).take (hi - lo)) := by
  subst hn
  have h3 := Sl.cut (lo := lo) (hi := hi) (m := cap) h h1 h2 (by omega) (Nat.le_refl _)
  have hl : ((l.drop lo).take (hi - lo)).length = hi - lo := by rw [List.length_take, List.length_drop]; omega
  unfold Bs
  rw [hl]
  have e : bv ((l.drop lo).take (hi - lo)) = ((bv l).drop (lo * 1)).take ((hi - lo) * 1) := by
    unfold bv
    rw [Nat.mul_one, Nat.mul_one, List.map_take, List.map_drop]
  rw [e]
  rw [if_neg (by omega)] at h3
  simpa only [Nat.mul_one] using h3
theorem gmade_yes (r p f c z : Nat) (w : World) (h : Rgn w r p f c z) : Calls Tryz.prog 83 #[.pointer (some ⟨r, 0, none⟩)] w fun e w' => e = .returned (.bool true) ∧ w = w' := by
  have c0 := Blk.cell' h (i := 0) rfl
  clear h
  go_enter Tryz.func83, Tryz.ntmps83
  go_wp2_with fail
  go_ret
  exact ⟨rfl, rfl⟩
theorem gbytes_any (r p f c z : Nat) (w : World) (h : Rgn w r p f c z) (hb : c * z ≤ 1099511627776) : Calls Tryz.prog 84 #[.pointer (some ⟨r, 0, none⟩)] w fun e w' => e = .returned (.int .i64 (c * z : Nat)) ∧ Mod [] w w' := by
  have q : (c : Int) * (z : Int) = ((c * z : Nat) : Int) := (Int.natCast_mul c z).symm
  obtain ⟨B, hB⟩ : ∃ B, B = c * z := ⟨_, rfl⟩
  rw [← hB] at q hb ⊢
  clear hB
  have y0 : (B : Int) ≤ 1099511627776 := by omega
  go_enter Tryz.func84, Tryz.ntmps84
  go_wp2_with fail
  refine wp_region_T [⟨0, true, []⟩, ⟨1, true, []⟩, ⟨2, true, []⟩, ⟨3, true, []⟩, ⟨4, true, []⟩, ⟨5, true, []⟩, ⟨6, true, []⟩, ⟨7, true, []⟩, ⟨8, true, []⟩, ⟨9, true, []⟩, ⟨10, true, []⟩] (by kernel_rfl) (by kernel_rfl) ?_
  have hm := Mod.drew [] w
  obtain ⟨x, hx⟩ : ∃ x, x = w.drew := ⟨_, rfl⟩
  rw [← hx] at hm ⊢
  clear hx
  have h2 := h.ext hm
  have c1 := Blk.cell' h2 (i := 2) rfl
  have c2 := Blk.cell' h2 (i := 3) rfl
  iterate 11 (refine wpT_n rfl rfl (fun K hK => ?_); go_wp2_with fail)
  refine wpT_nil ?_
  go_wp2_with fail
  go_ret
  exact ⟨rfl, hm⟩
/-- are these bytes the region's? -/
def hold (B : Nat) (a n : Int) : Bool := decide (0 ≤ a ∧ 0 ≤ n ∧ a ≤ B ∧ n ≤ B - a)
set_option maxHeartbeats 2000000 in
theorem gholds_any (r p f c z : Nat) (a n : Int) (w : World) (h : Rgn w r p f c z) (hb : c * z ≤ 1099511627776) (ha : i64 a) (hn : i64 n) : Calls Tryz.prog 93 #[.pointer (some ⟨r, 0, none⟩), .int .i64 a, .int .i64 n] w fun e w' => e = .returned (.bool (hold (c * z) a n)) ∧ Mod [] w w' := by
  have BY := fun w h => gbytes_any r p f c z w h hb
  obtain ⟨B, hB⟩ : ∃ B, B = c * z := ⟨_, rfl⟩
  rw [← hB] at hb BY ⊢
  clear hB
  obtain ⟨ha1, ha2⟩ := ha
  obtain ⟨hn1, hn2⟩ := hn
  have y0 : (B : Int) ≤ 1099511627776 := by omega
  have y1 : (0 : Int) ≤ B := by omega
  by_cases g1 : 0 ≤ a
  · by_cases g2 : 0 ≤ n
    · by_cases g3 : a ≤ B
      · by_cases g4 : n ≤ B - a
        · rw [show hold B a n = true from decide_eq_true ⟨g1, g2, g3, g4⟩]
          go_enter Tryz.func93, Tryz.ntmps93
          go_wp2_with (first
                        | (go_at_call 84; (with_reducible refine (BY _ h).mono ?_); rintro e w1 ⟨rfl, hm1⟩; have h1 := h.ext hm1)
                        | (go_at_call 84; (with_reducible refine (BY _ h1).mono ?_); rintro e w2 ⟨rfl, hm2⟩))
          go_ret
          exact ⟨rfl, hm1.ext hm2⟩
        · rw [show hold B a n = false from decide_eq_false (fun hh => g4 hh.2.2.2)]
          have g5 : decide (n ≤ (B : Int) - a) = false := decide_eq_false g4
          go_enter Tryz.func93, Tryz.ntmps93
          go_wp2_with (first
                        | (go_at_call 84; (with_reducible refine (BY _ h).mono ?_); rintro e w1 ⟨rfl, hm1⟩; have h1 := h.ext hm1)
                        | (go_at_call 84; (with_reducible refine (BY _ h1).mono ?_); rintro e w2 ⟨rfl, hm2⟩))
          go_ret
          exact ⟨rfl, hm1.ext hm2⟩
      · rw [show hold B a n = false from decide_eq_false (fun hh => g3 hh.2.2.1)]
        have g5 : (B : Int) < a := by omega
        go_enter Tryz.func93, Tryz.ntmps93
        go_wp2_with (go_at_call 84; (with_reducible refine (BY _ h).mono ?_); rintro e w1 ⟨rfl, hm1⟩)
        go_ret
        exact ⟨rfl, hm1⟩
    · rw [show hold B a n = false from decide_eq_false (fun hh => g2 hh.2.1)]
      have g5 : n < 0 := by omega
      go_enter Tryz.func93, Tryz.ntmps93
      go_wp2_with fail
      go_ret
      exact ⟨rfl, Mod.refl _ _⟩
  · rw [show hold B a n = false from decide_eq_false (fun hh => g1 hh.1)]
    have g5 : a < 0 := by omega
    go_enter Tryz.func93, Tryz.ntmps93
    go_wp2_with fail
    go_ret
    exact ⟨rfl, Mod.refl _ _⟩
theorem NoRg.ext {w w' : World} {v : Value} (h : NoRg w v) (hm : Mod [] w w') : NoRg w' v := h.imp id fun ⟨r, h1, h2⟩ => ⟨r, h1, h2.ext hm⟩
/-- of a region -/
theorem gBytes_any (r p f c z : Nat) (w : World) (h : Rgn w r p f c z) (hb : c * z ≤ 1099511627776) : Calls Tryz.prog 33 #[.pointer (some ⟨r, 0, none⟩)] w fun e w' => e = .returned (.int .i64 (c * z : Nat)) ∧ Mod [] w w' := by
  have MA := fun w h => gmade_yes r p f c z w h
  have BY := fun w h => gbytes_any r p f c z w h hb
  go_enter Tryz.func33, Tryz.ntmps33
  go_wp2_with (first
                | (go_at_call 83; (with_reducible refine (MA _ h).mono ?_); rintro e w1 ⟨rfl, rfl⟩)
                | (go_at_call 84; (with_reducible refine (BY _ h).mono ?_); rintro e w1 ⟨rfl, hm1⟩))
  go_ret
  exact ⟨rfl, hm1⟩
theorem gSync_any (r p q f c z : Nat) (v : Pv) (L : List Nat) (w : World) (h : Rgn w r p f c z) (hP : Pd w p q v L) (hn : v.n ≤ 1000000) (hr : v.m.row.length ≤ 1000000) : Calls Tryz.prog 40 #[.pointer (some ⟨r, 0, none⟩)] w fun e w' => e = .returned (.int .i64 (v.e 0)) ∧ PdP w p q v.sy L w' := by
  have MA := fun w h => gmade_yes r p f c z w h
  have SY := fun w h => pSync_any p q v L w h hn hr
  have c0 := Blk.cell' h (i := 0) rfl
  go_enter Tryz.func40, Tryz.ntmps40
  go_wp2_with (first
                | (go_at_call 83; (with_reducible refine (MA _ h).mono ?_); rintro e w1 ⟨rfl, rfl⟩)
                | (go_at_call 99; (with_reducible refine (SY _ hP).mono ?_); rintro e w1 ⟨rfl, hp1⟩))
  go_ret
  exact ⟨rfl, hp1⟩
end Go.Proofs.YtfepggdljhiemaaGreatDoor

/-! Regions: New. -/
namespace Go.Proofs.YtfepggdljhiemaaGreatDoor
open Go.RowKit Gw

def nErr (N : Nat) (f c : Int) : Int := if f < 0 ∨ c < 1 ∨ (N : Int) < f ∨ (N : Int) - f < c then 2 else 0
/-- the document's region in memory -/
def Rgr (w : World) (r p f c : Nat) : Prop := Blk w r 64 [.pointer (some ⟨p, 0, none⟩), .int .i64 (f : Nat), .int .i64 (c : Nat)]
theorem Rgr.mod {w w' : World} {r p f c : Nat} {M : List Nat} (h : Rgr w r p f c) (hm : Mod M w w') (hr : r ∉ M) : Rgr w' r p f c := Blk.mod h hm hr
theorem Rgr.ext {w w' : World} {r p f c : Nat} (h : Rgr w r p f c) (hm : Mod [] w w') : Rgr w' r p f c := Blk.ext h hm
set_option maxRecDepth 1000000 in
set_option maxHeartbeats 4000000 in
theorem gnew_any (p q : Nat) (v : Pv) (L : List Nat) (f c : Int) (w : World) (hP : Pd w p q v L) (hf : i64 f) (hc : i64 c) :
    Calls Tryz.prog 29 #[.pointer (some ⟨p, 0, none⟩), .agg #[.int .i64 f, .int .i64 c]] w fun e w' => (nErr v.m.dur.length f c = 0 ∧ ∃ r, e = .returned (.tuple #[.pointer (some ⟨r, 0, none⟩), .int .i64 0]) ∧ Rgn w' r p f.toNat c.toNat v.m.sz ∧ w.heap.size ≤ r ∧ Mod [] w w') ∨ (nErr v.m.dur.length f c ≠ 0 ∧ e = .returned (.tuple #[.pointer none, .int .i64 2]) ∧ Mod [] w w') := by
  have hN1 := hP.ok.m.n1
  have hN2 := hP.ok.m.n2
  have SE := fun w h => pSectors_any p q v L w h
  have SI := fun w h => pSize_any p q v L w h
  obtain ⟨N, hN⟩ : ∃ N, N = v.m.dur.length := ⟨_, rfl⟩
  obtain ⟨z, hz⟩ : ∃ z, z = v.m.sz := ⟨_, rfl⟩
  rw [← hN] at hN1 hN2 SE ⊢
  rw [← hz] at SI ⊢
  have y1 : (1 : Int) ≤ N := by omega
  have y2 : (N : Int) ≤ 65536 := by omega
  have e0 : ((N : Int) == 0) = false := by rw [beq_eq_false_iff_ne]; omega
  obtain ⟨hf1, hf2⟩ := hf
  obtain ⟨hc1, hc2⟩ := hc
  clear hN1 hN2 hN hz
  by_cases g1 : f < 0
  · skip
    go_enter Tryz.func29, Tryz.ntmps29
    go_wp2_with (with_reducible refine st_box ?_)
    refine StopOp.go rfl fun K hK => ?_
    refine wp_box (v := .agg #[.int .i64 f, .int .i64 c]) (by rfl) ?_
    intro t w1 ht1 ht2 hm1 hT
    simp only [put_some, List.set_cons_succ, List.set_cons_zero]
    refine hK _ _ ?_
    clear hK K
    have hT1 : Blk w1 t 62 [.int .i64 f, .int .i64 c] := hT
    have hP1 := hP.ext hm1
    clear hT
    go_wp2_with (go_at_call 79; (with_reducible refine (SE _ hP1).mono ?_); rintro e w2 ⟨rfl, rfl⟩)
    refine wp_region_T [⟨0, true, []⟩, ⟨1, true, []⟩, ⟨2, true, []⟩, ⟨3, true, []⟩, ⟨4, true, []⟩, ⟨5, true, []⟩, ⟨6, true, []⟩, ⟨7, true, []⟩, ⟨8, true, []⟩, ⟨9, true, []⟩, ⟨10, true, []⟩, ⟨11, true, []⟩, ⟨12, false, [10]⟩, ⟨13, true, []⟩, ⟨14, true, []⟩, ⟨15, true, []⟩, ⟨16, true, []⟩, ⟨17, true, []⟩, ⟨18, true, []⟩, ⟨20, true, []⟩, ⟨21, true, []⟩, ⟨19, false, [17, 21]⟩, ⟨22, true, []⟩, ⟨23, true, []⟩, ⟨24, true, []⟩, ⟨25, true, []⟩] (by kernel_rfl) (by kernel_rfl) ?_
    have hmD := hm1.ext (Mod.drew [] w1)
    have hm1D := Mod.drew [] w1
    obtain ⟨x, hx⟩ : ∃ x, x = w1.drew := ⟨_, rfl⟩
    rw [← hx] at hmD hm1D ⊢
    clear hx
    have hT2 := hT1.ext hm1D
    have hP2 := hP1.ext hm1D
    have c0 := hT2.cell' (i := 0) rfl
    have c1 := hT2.cell' (i := 1) rfl
    iterate 4 (refine wpT_n rfl rfl (fun K hK => ?_); go_wp2_with fail)
    iterate 3 (refine wpT_gk (gi := 3) rfl rfl rfl rfl rfl rfl (fun K hK => ?_); go_wp2_with fail)
    iterate 2 (refine wpT_n rfl rfl (fun K hK => ?_); go_wp2_with fail)
    iterate 5 (refine wpT_gk (gi := 8) rfl rfl rfl rfl rfl rfl (fun K hK => ?_); go_wp2_with fail)
    iterate 2 (refine wpT_n rfl rfl (fun K hK => ?_); go_wp2_with fail)
    iterate 8 (refine wpT_gk (gi := 15) rfl rfl rfl rfl rfl rfl (fun K hK => ?_); go_wp2_with fail)
    iterate 2 (refine wpT_n rfl rfl (fun K hK => ?_); go_wp2_with fail)
    refine wpT_nil ?_
    go_wp2_with fail
    go_ret2
    rw [show nErr N f c = 2 from if_pos (by omega)]
    exact .inr ⟨by decide, rfl, hmD⟩
  have q1 : decide (f < 0) = false := decide_eq_false (by omega)
  by_cases g2 : c < 1
  · have g1' : 0 ≤ f := by omega
    go_enter Tryz.func29, Tryz.ntmps29
    go_wp2_with (with_reducible refine st_box ?_)
    refine StopOp.go rfl fun K hK => ?_
    refine wp_box (v := .agg #[.int .i64 f, .int .i64 c]) (by rfl) ?_
    intro t w1 ht1 ht2 hm1 hT
    simp only [put_some, List.set_cons_succ, List.set_cons_zero]
    refine hK _ _ ?_
    clear hK K
    have hT1 : Blk w1 t 62 [.int .i64 f, .int .i64 c] := hT
    have hP1 := hP.ext hm1
    clear hT
    go_wp2_with (go_at_call 79; (with_reducible refine (SE _ hP1).mono ?_); rintro e w2 ⟨rfl, rfl⟩)
    refine wp_region_T [⟨0, true, []⟩, ⟨1, true, []⟩, ⟨2, true, []⟩, ⟨3, true, []⟩, ⟨4, true, []⟩, ⟨5, true, []⟩, ⟨6, true, []⟩, ⟨7, true, []⟩, ⟨8, true, []⟩, ⟨9, true, []⟩, ⟨10, true, []⟩, ⟨11, true, []⟩, ⟨12, false, [10]⟩, ⟨13, true, []⟩, ⟨14, true, []⟩, ⟨15, true, []⟩, ⟨16, true, []⟩, ⟨17, true, []⟩, ⟨18, true, []⟩, ⟨20, true, []⟩, ⟨21, true, []⟩, ⟨19, false, [17, 21]⟩, ⟨22, true, []⟩, ⟨23, true, []⟩, ⟨24, true, []⟩, ⟨25, true, []⟩] (by kernel_rfl) (by kernel_rfl) ?_
    have hmD := hm1.ext (Mod.drew [] w1)
    have hm1D := Mod.drew [] w1
    obtain ⟨x, hx⟩ : ∃ x, x = w1.drew := ⟨_, rfl⟩
    rw [← hx] at hmD hm1D ⊢
    clear hx
    have hT2 := hT1.ext hm1D
    have hP2 := hP1.ext hm1D
    have c0 := hT2.cell' (i := 0) rfl
    have c1 := hT2.cell' (i := 1) rfl
    iterate 4 (refine wpT_n rfl rfl (fun K hK => ?_); go_wp2_with fail)
    iterate 3 (refine wpT_gq (gi := 3) rfl rfl rfl rfl rfl (fun K hK => ?_); go_wp2_with fail)
    iterate 2 (refine wpT_n rfl rfl (fun K hK => ?_); go_wp2_with fail)
    iterate 5 (refine wpT_gk (gi := 8) rfl rfl rfl rfl rfl rfl (fun K hK => ?_); go_wp2_with fail)
    iterate 2 (refine wpT_n rfl rfl (fun K hK => ?_); go_wp2_with fail)
    iterate 8 (refine wpT_gk (gi := 15) rfl rfl rfl rfl rfl rfl (fun K hK => ?_); go_wp2_with fail)
    iterate 2 (refine wpT_n rfl rfl (fun K hK => ?_); go_wp2_with fail)
    refine wpT_nil ?_
    go_wp2_with fail
    go_ret2
    rw [show nErr N f c = 2 from if_pos (by omega)]
    exact .inr ⟨by decide, rfl, hmD⟩
  have q2 : decide (c < 1) = false := decide_eq_false (by omega)
  by_cases g3 : (N : Int) < f
  · have g1' : 0 ≤ f := by omega
    have g2' : 1 ≤ c := by omega
    go_enter Tryz.func29, Tryz.ntmps29
    go_wp2_with (with_reducible refine st_box ?_)
    refine StopOp.go rfl fun K hK => ?_
    refine wp_box (v := .agg #[.int .i64 f, .int .i64 c]) (by rfl) ?_
    intro t w1 ht1 ht2 hm1 hT
    simp only [put_some, List.set_cons_succ, List.set_cons_zero]
    refine hK _ _ ?_
    clear hK K
    have hT1 : Blk w1 t 62 [.int .i64 f, .int .i64 c] := hT
    have hP1 := hP.ext hm1
    clear hT
    go_wp2_with (go_at_call 79; (with_reducible refine (SE _ hP1).mono ?_); rintro e w2 ⟨rfl, rfl⟩)
    refine wp_region_T [⟨0, true, []⟩, ⟨1, true, []⟩, ⟨2, true, []⟩, ⟨3, true, []⟩, ⟨4, true, []⟩, ⟨5, true, []⟩, ⟨6, true, []⟩, ⟨7, true, []⟩, ⟨8, true, []⟩, ⟨9, true, []⟩, ⟨10, true, []⟩, ⟨11, true, []⟩, ⟨12, false, [10]⟩, ⟨13, true, []⟩, ⟨14, true, []⟩, ⟨15, true, []⟩, ⟨16, true, []⟩, ⟨17, true, []⟩, ⟨18, true, []⟩, ⟨20, true, []⟩, ⟨21, true, []⟩, ⟨19, false, [17, 21]⟩, ⟨22, true, []⟩, ⟨23, true, []⟩, ⟨24, true, []⟩, ⟨25, true, []⟩] (by kernel_rfl) (by kernel_rfl) ?_
    have hmD := hm1.ext (Mod.drew [] w1)
    have hm1D := Mod.drew [] w1
    obtain ⟨x, hx⟩ : ∃ x, x = w1.drew := ⟨_, rfl⟩
    rw [← hx] at hmD hm1D ⊢
    clear hx
    have hT2 := hT1.ext hm1D
    have hP2 := hP1.ext hm1D
    have c0 := hT2.cell' (i := 0) rfl
    have c1 := hT2.cell' (i := 1) rfl
    iterate 4 (refine wpT_n rfl rfl (fun K hK => ?_); go_wp2_with fail)
    iterate 3 (refine wpT_gq (gi := 3) rfl rfl rfl rfl rfl (fun K hK => ?_); go_wp2_with fail)
    iterate 2 (refine wpT_n rfl rfl (fun K hK => ?_); go_wp2_with fail)
    iterate 3 (refine wpT_gq (gi := 8) rfl rfl rfl rfl rfl (fun K hK => ?_); go_wp2_with fail)
    refine wpT_gcallh (gi := 8) rfl rfl rfl rfl (fun K hK => ?_)
    go_wp2_with (go_at_call 79; (with_reducible refine (SE _ hP2).mono ?_); rintro e w3 ⟨rfl, rfl⟩)
    refine ⟨agains_same, ?_⟩
    refine wpT_gq (gi := 8) rfl rfl rfl rfl rfl (fun K hK => ?_)
    go_wp2_with fail
    iterate 2 (refine wpT_n rfl rfl (fun K hK => ?_); go_wp2_with fail)
    iterate 8 (refine wpT_gk (gi := 15) rfl rfl rfl rfl rfl rfl (fun K hK => ?_); go_wp2_with fail)
    iterate 2 (refine wpT_n rfl rfl (fun K hK => ?_); go_wp2_with fail)
    refine wpT_nil ?_
    go_wp2_with fail
    go_ret2
    rw [show nErr N f c = 2 from if_pos (by omega)]
    exact .inr ⟨by decide, rfl, hmD⟩
  have g1' : 0 ≤ f := by omega
  have g2' : 1 ≤ c := by omega
  have g3' : f ≤ N := by omega
  have q3 : decide ((N : Int) < f) = false := decide_eq_false (by omega)
  by_cases g4 : (N : Int) - f < c
  · skip
    go_enter Tryz.func29, Tryz.ntmps29
    go_wp2_with (with_reducible refine st_box ?_)
    refine StopOp.go rfl fun K hK => ?_
    refine wp_box (v := .agg #[.int .i64 f, .int .i64 c]) (by rfl) ?_
    intro t w1 ht1 ht2 hm1 hT
    simp only [put_some, List.set_cons_succ, List.set_cons_zero]
    refine hK _ _ ?_
    clear hK K
    have hT1 : Blk w1 t 62 [.int .i64 f, .int .i64 c] := hT
    have hP1 := hP.ext hm1
    clear hT
    go_wp2_with (go_at_call 79; (with_reducible refine (SE _ hP1).mono ?_); rintro e w2 ⟨rfl, rfl⟩)
    refine wp_region_T [⟨0, true, []⟩, ⟨1, true, []⟩, ⟨2, true, []⟩, ⟨3, true, []⟩, ⟨4, true, []⟩, ⟨5, true, []⟩, ⟨6, true, []⟩, ⟨7, true, []⟩, ⟨8, true, []⟩, ⟨9, true, []⟩, ⟨10, true, []⟩, ⟨11, true, []⟩, ⟨12, false, [10]⟩, ⟨13, true, []⟩, ⟨14, true, []⟩, ⟨15, true, []⟩, ⟨16, true, []⟩, ⟨17, true, []⟩, ⟨18, true, []⟩, ⟨20, true, []⟩, ⟨21, true, []⟩, ⟨19, false, [17, 21]⟩, ⟨22, true, []⟩, ⟨23, true, []⟩, ⟨24, true, []⟩, ⟨25, true, []⟩] (by kernel_rfl) (by kernel_rfl) ?_
    have hmD := hm1.ext (Mod.drew [] w1)
    have hm1D := Mod.drew [] w1
    obtain ⟨x, hx⟩ : ∃ x, x = w1.drew := ⟨_, rfl⟩
    rw [← hx] at hmD hm1D ⊢
    clear hx
    have hT2 := hT1.ext hm1D
    have hP2 := hP1.ext hm1D
    have c0 := hT2.cell' (i := 0) rfl
    have c1 := hT2.cell' (i := 1) rfl
    iterate 4 (refine wpT_n rfl rfl (fun K hK => ?_); go_wp2_with fail)
    iterate 3 (refine wpT_gq (gi := 3) rfl rfl rfl rfl rfl (fun K hK => ?_); go_wp2_with fail)
    iterate 2 (refine wpT_n rfl rfl (fun K hK => ?_); go_wp2_with fail)
    iterate 3 (refine wpT_gq (gi := 8) rfl rfl rfl rfl rfl (fun K hK => ?_); go_wp2_with fail)
    refine wpT_gcallh (gi := 8) rfl rfl rfl rfl (fun K hK => ?_)
    go_wp2_with (go_at_call 79; (with_reducible refine (SE _ hP2).mono ?_); rintro e w3 ⟨rfl, rfl⟩)
    refine ⟨agains_same, ?_⟩
    refine wpT_gq (gi := 8) rfl rfl rfl rfl rfl (fun K hK => ?_)
    go_wp2_with fail
    iterate 2 (refine wpT_n rfl rfl (fun K hK => ?_); go_wp2_with fail)
    iterate 5 (refine wpT_gq (gi := 15) rfl rfl rfl rfl rfl (fun K hK => ?_); go_wp2_with fail)
    refine wpT_gcallh (gi := 15) rfl rfl rfl rfl (fun K hK => ?_)
    go_wp2_with (go_at_call 79; (with_reducible refine (SE _ hP2).mono ?_); rintro e w3 ⟨rfl, rfl⟩)
    refine ⟨agains_same, ?_⟩
    iterate 2 (refine wpT_gq (gi := 15) rfl rfl rfl rfl rfl (fun K hK => ?_); go_wp2_with fail)
    iterate 2 (refine wpT_n rfl rfl (fun K hK => ?_); go_wp2_with fail)
    refine wpT_nil ?_
    go_wp2_with fail
    go_ret2
    rw [show nErr N f c = 2 from if_pos (by omega)]
    exact .inr ⟨by decide, rfl, hmD⟩
  have g4' : c ≤ (N : Int) - f := by omega
  have q4 : decide ((N : Int) - f < c) = false := decide_eq_false (by omega)
  clear g1 g2 g3 g4
  go_enter Tryz.func29, Tryz.ntmps29
  go_wp2_with (with_reducible refine st_box ?_)
  refine StopOp.go rfl fun K hK => ?_
  refine wp_box (v := .agg #[.int .i64 f, .int .i64 c]) (by rfl) ?_
  intro t w1 ht1 ht2 hm1 hT
  simp only [put_some, List.set_cons_succ, List.set_cons_zero]
  refine hK _ _ ?_
  clear hK K
  have hT1 : Blk w1 t 62 [.int .i64 f, .int .i64 c] := hT
  have hP1 := hP.ext hm1
  clear hT
  go_wp2_with (go_at_call 79; (with_reducible refine (SE _ hP1).mono ?_); rintro e w2 ⟨rfl, rfl⟩)
  refine wp_region_T [⟨0, true, []⟩, ⟨1, true, []⟩, ⟨2, true, []⟩, ⟨3, true, []⟩, ⟨4, true, []⟩, ⟨5, true, []⟩, ⟨6, true, []⟩, ⟨7, true, []⟩, ⟨8, true, []⟩, ⟨9, true, []⟩, ⟨10, true, []⟩, ⟨11, true, []⟩, ⟨12, false, [10]⟩, ⟨13, true, []⟩, ⟨14, true, []⟩, ⟨15, true, []⟩, ⟨16, true, []⟩, ⟨17, true, []⟩, ⟨18, true, []⟩, ⟨20, true, []⟩, ⟨21, true, []⟩, ⟨19, false, [17, 21]⟩, ⟨22, true, []⟩, ⟨23, true, []⟩, ⟨24, true, []⟩, ⟨25, true, []⟩] (by kernel_rfl) (by kernel_rfl) ?_
  have hmD := hm1.ext (Mod.drew [] w1)
  have hm1D := Mod.drew [] w1
  obtain ⟨x, hx⟩ : ∃ x, x = w1.drew := ⟨_, rfl⟩
  rw [← hx] at hmD hm1D ⊢
  clear hx
  have hT2 := hT1.ext hm1D
  have hP2 := hP1.ext hm1D
  have c0 := hT2.cell' (i := 0) rfl
  have c1 := hT2.cell' (i := 1) rfl
  iterate 4 (refine wpT_n rfl rfl (fun K hK => ?_); go_wp2_with fail)
  iterate 3 (refine wpT_gq (gi := 3) rfl rfl rfl rfl rfl (fun K hK => ?_); go_wp2_with fail)
  iterate 2 (refine wpT_n rfl rfl (fun K hK => ?_); go_wp2_with fail)
  iterate 3 (refine wpT_gq (gi := 8) rfl rfl rfl rfl rfl (fun K hK => ?_); go_wp2_with fail)
  refine wpT_gcallh (gi := 8) rfl rfl rfl rfl (fun K hK => ?_)
  go_wp2_with (go_at_call 79; (with_reducible refine (SE _ hP2).mono ?_); rintro e w3 ⟨rfl, rfl⟩)
  refine ⟨agains_same, ?_⟩
  refine wpT_gq (gi := 8) rfl rfl rfl rfl rfl (fun K hK => ?_)
  go_wp2_with fail
  iterate 2 (refine wpT_n rfl rfl (fun K hK => ?_); go_wp2_with fail)
  iterate 5 (refine wpT_gq (gi := 15) rfl rfl rfl rfl rfl (fun K hK => ?_); go_wp2_with fail)
  refine wpT_gcallh (gi := 15) rfl rfl rfl rfl (fun K hK => ?_)
  go_wp2_with (go_at_call 79; (with_reducible refine (SE _ hP2).mono ?_); rintro e w3 ⟨rfl, rfl⟩)
  refine ⟨agains_same, ?_⟩
  iterate 2 (refine wpT_gq (gi := 15) rfl rfl rfl rfl rfl (fun K hK => ?_); go_wp2_with fail)
  iterate 2 (refine wpT_n rfl rfl (fun K hK => ?_); go_wp2_with fail)
  refine wpT_nil ?_
  go_wp2_with fail
  refine wp_region_T [⟨0, true, []⟩, ⟨1, true, []⟩, ⟨2, true, []⟩, ⟨3, false, [1]⟩, ⟨4, true, []⟩, ⟨5, true, []⟩, ⟨6, false, []⟩, ⟨7, true, []⟩, ⟨8, true, []⟩] (by kernel_rfl) (by kernel_rfl) ?_
  have hmE := hmD.ext (Mod.drew [] x)
  have hmxE := Mod.drew [] x
  obtain ⟨y, hy⟩ : ∃ y, y = x.drew := ⟨_, rfl⟩
  rw [← hy] at hmE hmxE ⊢
  clear hy c0 c1
  have hT3 := hT2.ext hmxE
  have hP3 := hP2.ext hmxE
  have c0 := hT3.cell' (i := 0) rfl
  have c1 := hT3.cell' (i := 1) rfl
  iterate 3 (refine wpT_n rfl rfl (fun K hK => ?_); go_wp2_with fail)
  refine wpT_callh rfl rfl (fun K hK => ?_)
  go_wp2_with (go_at_call 80; (with_reducible refine (SI _ hP3).mono ?_); rintro e w4 ⟨rfl, rfl⟩)
  refine ⟨agains_same, ?_⟩
  iterate 2 (refine wpT_n rfl rfl (fun K hK => ?_); go_wp2_with fail)
  refine wpT_e0 rfl rfl (fun K hK => ?_)
  refine wp_box (v := .agg #[.pointer (some ⟨p, 0, none⟩), .int .i64 f, .int .i64 c, .int .i64 (z : Nat)]) (by rfl) ?_
  intro r w5 hr1 hr2 hm5 hB5
  simp only [put_some, List.set_cons_succ, List.set_cons_zero]
  refine hK _ _ ?_
  clear hK K
  iterate 2 (refine wpT_n rfl rfl (fun K hK => ?_); go_wp2_with fail)
  refine wpT_nil ?_
  go_wp2_with fail
  go_ret2
  have s3 := hmE.size
  refine .inl ⟨if_neg (by omega), r, rfl, ?_, by omega, hmE.ext hm5⟩
  unfold Rgn
  rw [show ((f.toNat : Nat) : Int) = f by omega, show ((c.toNat : Nat) : Int) = c by omega]
  exact hB5
set_option maxRecDepth 1000000 in
set_option maxHeartbeats 4000000 in
theorem hnew_any (p q : Nat) (v : Pv) (L : List Nat) (f c : Int) (w : World) (hP : Pr w p q v L) (hf : i64 f) (hc : i64 c) :
    Calls Tryz.prog 31 #[.pointer (some ⟨p, 0, none⟩), .agg #[.int .i64 f, .int .i64 c]] w fun e w' => (nErr v.m.dur.length f c = 0 ∧ ∃ r, e = .returned (.tuple #[.pointer (some ⟨r, 0, none⟩), .int .i64 0]) ∧ Rgr w' r p f.toNat c.toNat ∧ w.heap.size ≤ r ∧ Mod [] w w') ∨ (nErr v.m.dur.length f c ≠ 0 ∧ e = .returned (.tuple #[.pointer none, .int .i64 2]) ∧ Mod [] w w') := by
  have hN1 := hP.ok.m.n1
  have hN2 := hP.ok.m.n2
  have SE := fun w h => qSectors_any p q v L w h
  obtain ⟨N, hN⟩ : ∃ N, N = v.m.dur.length := ⟨_, rfl⟩
  obtain ⟨z, hz⟩ : ∃ z, z = v.m.sz := ⟨_, rfl⟩
  rw [← hN] at hN1 hN2 SE ⊢
  have y1 : (1 : Int) ≤ N := by omega
  have y2 : (N : Int) ≤ 65536 := by omega
  have e0 : ((N : Int) == 0) = false := by rw [beq_eq_false_iff_ne]; omega
  obtain ⟨hf1, hf2⟩ := hf
  obtain ⟨hc1, hc2⟩ := hc
  clear hN1 hN2 hN hz
  by_cases g1 : f < 0
  · skip
    go_enter Tryz.func31, Tryz.ntmps31
    go_wp2_with (with_reducible refine st_box ?_)
    refine StopOp.go rfl fun K hK => ?_
    refine wp_box (v := .agg #[.int .i64 f, .int .i64 c]) (by rfl) ?_
    intro t w1 ht1 ht2 hm1 hT
    simp only [put_some, List.set_cons_succ, List.set_cons_zero]
    refine hK _ _ ?_
    clear hK K
    have hT1 : Blk w1 t 62 [.int .i64 f, .int .i64 c] := hT
    have hP1 := hP.ext hm1
    clear hT
    go_wp2_with fail
    refine wp_region_T [⟨0, true, []⟩, ⟨1, true, []⟩, ⟨2, true, []⟩, ⟨3, true, []⟩, ⟨4, true, []⟩, ⟨5, true, []⟩, ⟨6, true, []⟩, ⟨7, true, []⟩, ⟨8, true, []⟩, ⟨9, true, []⟩, ⟨10, true, []⟩, ⟨11, true, []⟩, ⟨12, false, [10]⟩, ⟨13, true, []⟩, ⟨14, true, []⟩, ⟨15, true, []⟩, ⟨16, true, []⟩, ⟨17, true, []⟩, ⟨18, true, []⟩, ⟨20, true, []⟩, ⟨21, true, []⟩, ⟨19, false, [17, 21]⟩, ⟨22, true, []⟩, ⟨23, true, []⟩, ⟨24, true, []⟩] (by kernel_rfl) (by kernel_rfl) ?_
    have hmD := hm1.ext (Mod.drew [] w1)
    have hm1D := Mod.drew [] w1
    obtain ⟨x, hx⟩ : ∃ x, x = w1.drew := ⟨_, rfl⟩
    rw [← hx] at hmD hm1D ⊢
    clear hx
    have hT2 := hT1.ext hm1D
    have hP2 := hP1.ext hm1D
    have c0 := hT2.cell' (i := 0) rfl
    have c1 := hT2.cell' (i := 1) rfl
    iterate 4 (refine wpT_n rfl rfl (fun K hK => ?_); go_wp2_with fail)
    iterate 3 (refine wpT_gk (gi := 3) rfl rfl rfl rfl rfl rfl (fun K hK => ?_); go_wp2_with fail)
    iterate 2 (refine wpT_n rfl rfl (fun K hK => ?_); go_wp2_with fail)
    iterate 5 (refine wpT_gk (gi := 8) rfl rfl rfl rfl rfl rfl (fun K hK => ?_); go_wp2_with fail)
    iterate 2 (refine wpT_n rfl rfl (fun K hK => ?_); go_wp2_with fail)
    iterate 8 (refine wpT_gk (gi := 15) rfl rfl rfl rfl rfl rfl (fun K hK => ?_); go_wp2_with fail)
    refine wpT_n rfl rfl (fun K hK => ?_)
    go_wp2_with fail
    refine wpT_nil ?_
    go_wp2_with fail
    go_ret2
    rw [show nErr N f c = 2 from if_pos (by omega)]
    exact .inr ⟨by decide, rfl, hmD⟩
  have q1 : decide (f < 0) = false := decide_eq_false (by omega)
  by_cases g2 : c < 1
  · have g1' : 0 ≤ f := by omega
    go_enter Tryz.func31, Tryz.ntmps31
    go_wp2_with (with_reducible refine st_box ?_)
    refine StopOp.go rfl fun K hK => ?_
    refine wp_box (v := .agg #[.int .i64 f, .int .i64 c]) (by rfl) ?_
    intro t w1 ht1 ht2 hm1 hT
    simp only [put_some, List.set_cons_succ, List.set_cons_zero]
    refine hK _ _ ?_
    clear hK K
    have hT1 : Blk w1 t 62 [.int .i64 f, .int .i64 c] := hT
    have hP1 := hP.ext hm1
    clear hT
    go_wp2_with fail
    refine wp_region_T [⟨0, true, []⟩, ⟨1, true, []⟩, ⟨2, true, []⟩, ⟨3, true, []⟩, ⟨4, true, []⟩, ⟨5, true, []⟩, ⟨6, true, []⟩, ⟨7, true, []⟩, ⟨8, true, []⟩, ⟨9, true, []⟩, ⟨10, true, []⟩, ⟨11, true, []⟩, ⟨12, false, [10]⟩, ⟨13, true, []⟩, ⟨14, true, []⟩, ⟨15, true, []⟩, ⟨16, true, []⟩, ⟨17, true, []⟩, ⟨18, true, []⟩, ⟨20, true, []⟩, ⟨21, true, []⟩, ⟨19, false, [17, 21]⟩, ⟨22, true, []⟩, ⟨23, true, []⟩, ⟨24, true, []⟩] (by kernel_rfl) (by kernel_rfl) ?_
    have hmD := hm1.ext (Mod.drew [] w1)
    have hm1D := Mod.drew [] w1
    obtain ⟨x, hx⟩ : ∃ x, x = w1.drew := ⟨_, rfl⟩
    rw [← hx] at hmD hm1D ⊢
    clear hx
    have hT2 := hT1.ext hm1D
    have hP2 := hP1.ext hm1D
    have c0 := hT2.cell' (i := 0) rfl
    have c1 := hT2.cell' (i := 1) rfl
    iterate 4 (refine wpT_n rfl rfl (fun K hK => ?_); go_wp2_with fail)
    iterate 3 (refine wpT_gq (gi := 3) rfl rfl rfl rfl rfl (fun K hK => ?_); go_wp2_with fail)
    iterate 2 (refine wpT_n rfl rfl (fun K hK => ?_); go_wp2_with fail)
    iterate 5 (refine wpT_gk (gi := 8) rfl rfl rfl rfl rfl rfl (fun K hK => ?_); go_wp2_with fail)
    iterate 2 (refine wpT_n rfl rfl (fun K hK => ?_); go_wp2_with fail)
    iterate 8 (refine wpT_gk (gi := 15) rfl rfl rfl rfl rfl rfl (fun K hK => ?_); go_wp2_with fail)
    refine wpT_n rfl rfl (fun K hK => ?_)
    go_wp2_with fail
    refine wpT_nil ?_
    go_wp2_with fail
    go_ret2
    rw [show nErr N f c = 2 from if_pos (by omega)]
    exact .inr ⟨by decide, rfl, hmD⟩
  have q2 : decide (c < 1) = false := decide_eq_false (by omega)
  by_cases g3 : (N : Int) < f
  · have g1' : 0 ≤ f := by omega
    have g2' : 1 ≤ c := by omega
    go_enter Tryz.func31, Tryz.ntmps31
    go_wp2_with (with_reducible refine st_box ?_)
    refine StopOp.go rfl fun K hK => ?_
    refine wp_box (v := .agg #[.int .i64 f, .int .i64 c]) (by rfl) ?_
    intro t w1 ht1 ht2 hm1 hT
    simp only [put_some, List.set_cons_succ, List.set_cons_zero]
    refine hK _ _ ?_
    clear hK K
    have hT1 : Blk w1 t 62 [.int .i64 f, .int .i64 c] := hT
    have hP1 := hP.ext hm1
    clear hT
    go_wp2_with fail
    refine wp_region_T [⟨0, true, []⟩, ⟨1, true, []⟩, ⟨2, true, []⟩, ⟨3, true, []⟩, ⟨4, true, []⟩, ⟨5, true, []⟩, ⟨6, true, []⟩, ⟨7, true, []⟩, ⟨8, true, []⟩, ⟨9, true, []⟩, ⟨10, true, []⟩, ⟨11, true, []⟩, ⟨12, false, [10]⟩, ⟨13, true, []⟩, ⟨14, true, []⟩, ⟨15, true, []⟩, ⟨16, true, []⟩, ⟨17, true, []⟩, ⟨18, true, []⟩, ⟨20, true, []⟩, ⟨21, true, []⟩, ⟨19, false, [17, 21]⟩, ⟨22, true, []⟩, ⟨23, true, []⟩, ⟨24, true, []⟩] (by kernel_rfl) (by kernel_rfl) ?_
    have hmD := hm1.ext (Mod.drew [] w1)
    have hm1D := Mod.drew [] w1
    obtain ⟨x, hx⟩ : ∃ x, x = w1.drew := ⟨_, rfl⟩
    rw [← hx] at hmD hm1D ⊢
    clear hx
    have hT2 := hT1.ext hm1D
    have hP2 := hP1.ext hm1D
    have c0 := hT2.cell' (i := 0) rfl
    have c1 := hT2.cell' (i := 1) rfl
    iterate 4 (refine wpT_n rfl rfl (fun K hK => ?_); go_wp2_with fail)
    iterate 3 (refine wpT_gq (gi := 3) rfl rfl rfl rfl rfl (fun K hK => ?_); go_wp2_with fail)
    iterate 2 (refine wpT_n rfl rfl (fun K hK => ?_); go_wp2_with fail)
    iterate 3 (refine wpT_gq (gi := 8) rfl rfl rfl rfl rfl (fun K hK => ?_); go_wp2_with fail)
    refine wpT_gcallh (gi := 8) rfl rfl rfl rfl (fun K hK => ?_)
    go_wp2_with (go_at_call 82; (with_reducible refine (SE _ hP2).mono ?_); rintro e w3 ⟨rfl, rfl⟩)
    refine ⟨agains_same, ?_⟩
    refine wpT_gq (gi := 8) rfl rfl rfl rfl rfl (fun K hK => ?_)
    go_wp2_with fail
    iterate 2 (refine wpT_n rfl rfl (fun K hK => ?_); go_wp2_with fail)
    iterate 8 (refine wpT_gk (gi := 15) rfl rfl rfl rfl rfl rfl (fun K hK => ?_); go_wp2_with fail)
    refine wpT_n rfl rfl (fun K hK => ?_)
    go_wp2_with fail
    refine wpT_nil ?_
    go_wp2_with fail
    go_ret2
    rw [show nErr N f c = 2 from if_pos (by omega)]
    exact .inr ⟨by decide, rfl, hmD⟩
  have g1' : 0 ≤ f := by omega
  have g2' : 1 ≤ c := by omega
  have g3' : f ≤ N := by omega
  have q3 : decide ((N : Int) < f) = false := decide_eq_false (by omega)
  by_cases g4 : (N : Int) - f < c
  · skip
    go_enter Tryz.func31, Tryz.ntmps31
    go_wp2_with (with_reducible refine st_box ?_)
    refine StopOp.go rfl fun K hK => ?_
    refine wp_box (v := .agg #[.int .i64 f, .int .i64 c]) (by rfl) ?_
    intro t w1 ht1 ht2 hm1 hT
    simp only [put_some, List.set_cons_succ, List.set_cons_zero]
    refine hK _ _ ?_
    clear hK K
    have hT1 : Blk w1 t 62 [.int .i64 f, .int .i64 c] := hT
    have hP1 := hP.ext hm1
    clear hT
    go_wp2_with fail
    refine wp_region_T [⟨0, true, []⟩, ⟨1, true, []⟩, ⟨2, true, []⟩, ⟨3, true, []⟩, ⟨4, true, []⟩, ⟨5, true, []⟩, ⟨6, true, []⟩, ⟨7, true, []⟩, ⟨8, true, []⟩, ⟨9, true, []⟩, ⟨10, true, []⟩, ⟨11, true, []⟩, ⟨12, false, [10]⟩, ⟨13, true, []⟩, ⟨14, true, []⟩, ⟨15, true, []⟩, ⟨16, true, []⟩, ⟨17, true, []⟩, ⟨18, true, []⟩, ⟨20, true, []⟩, ⟨21, true, []⟩, ⟨19, false, [17, 21]⟩, ⟨22, true, []⟩, ⟨23, true, []⟩, ⟨24, true, []⟩] (by kernel_rfl) (by kernel_rfl) ?_
    have hmD := hm1.ext (Mod.drew [] w1)
    have hm1D := Mod.drew [] w1
    obtain ⟨x, hx⟩ : ∃ x, x = w1.drew := ⟨_, rfl⟩
    rw [← hx] at hmD hm1D ⊢
    clear hx
    have hT2 := hT1.ext hm1D
    have hP2 := hP1.ext hm1D
    have c0 := hT2.cell' (i := 0) rfl
    have c1 := hT2.cell' (i := 1) rfl
    iterate 4 (refine wpT_n rfl rfl (fun K hK => ?_); go_wp2_with fail)
    iterate 3 (refine wpT_gq (gi := 3) rfl rfl rfl rfl rfl (fun K hK => ?_); go_wp2_with fail)
    iterate 2 (refine wpT_n rfl rfl (fun K hK => ?_); go_wp2_with fail)
    iterate 3 (refine wpT_gq (gi := 8) rfl rfl rfl rfl rfl (fun K hK => ?_); go_wp2_with fail)
    refine wpT_gcallh (gi := 8) rfl rfl rfl rfl (fun K hK => ?_)
    go_wp2_with (go_at_call 82; (with_reducible refine (SE _ hP2).mono ?_); rintro e w3 ⟨rfl, rfl⟩)
    refine ⟨agains_same, ?_⟩
    refine wpT_gq (gi := 8) rfl rfl rfl rfl rfl (fun K hK => ?_)
    go_wp2_with fail
    iterate 2 (refine wpT_n rfl rfl (fun K hK => ?_); go_wp2_with fail)
    iterate 5 (refine wpT_gq (gi := 15) rfl rfl rfl rfl rfl (fun K hK => ?_); go_wp2_with fail)
    refine wpT_gcallh (gi := 15) rfl rfl rfl rfl (fun K hK => ?_)
    go_wp2_with (go_at_call 82; (with_reducible refine (SE _ hP2).mono ?_); rintro e w3 ⟨rfl, rfl⟩)
    refine ⟨agains_same, ?_⟩
    iterate 2 (refine wpT_gq (gi := 15) rfl rfl rfl rfl rfl (fun K hK => ?_); go_wp2_with fail)
    refine wpT_n rfl rfl (fun K hK => ?_)
    go_wp2_with fail
    refine wpT_nil ?_
    go_wp2_with fail
    go_ret2
    rw [show nErr N f c = 2 from if_pos (by omega)]
    exact .inr ⟨by decide, rfl, hmD⟩
  have g4' : c ≤ (N : Int) - f := by omega
  have q4 : decide ((N : Int) - f < c) = false := decide_eq_false (by omega)
  clear g1 g2 g3 g4
  go_enter Tryz.func31, Tryz.ntmps31
  go_wp2_with (with_reducible refine st_box ?_)
  refine StopOp.go rfl fun K hK => ?_
  refine wp_box (v := .agg #[.int .i64 f, .int .i64 c]) (by rfl) ?_
  intro t w1 ht1 ht2 hm1 hT
  simp only [put_some, List.set_cons_succ, List.set_cons_zero]
  refine hK _ _ ?_
  clear hK K
  have hT1 : Blk w1 t 62 [.int .i64 f, .int .i64 c] := hT
  have hP1 := hP.ext hm1
  clear hT
  go_wp2_with fail
  refine wp_region_T [⟨0, true, []⟩, ⟨1, true, []⟩, ⟨2, true, []⟩, ⟨3, true, []⟩, ⟨4, true, []⟩, ⟨5, true, []⟩, ⟨6, true, []⟩, ⟨7, true, []⟩, ⟨8, true, []⟩, ⟨9, true, []⟩, ⟨10, true, []⟩, ⟨11, true, []⟩, ⟨12, false, [10]⟩, ⟨13, true, []⟩, ⟨14, true, []⟩, ⟨15, true, []⟩, ⟨16, true, []⟩, ⟨17, true, []⟩, ⟨18, true, []⟩, ⟨20, true, []⟩, ⟨21, true, []⟩, ⟨19, false, [17, 21]⟩, ⟨22, true, []⟩, ⟨23, true, []⟩, ⟨24, true, []⟩] (by kernel_rfl) (by kernel_rfl) ?_
  have hmD := hm1.ext (Mod.drew [] w1)
  have hm1D := Mod.drew [] w1
  obtain ⟨x, hx⟩ : ∃ x, x = w1.drew := ⟨_, rfl⟩
  rw [← hx] at hmD hm1D ⊢
  clear hx
  have hT2 := hT1.ext hm1D
  have hP2 := hP1.ext hm1D
  have c0 := hT2.cell' (i := 0) rfl
  have c1 := hT2.cell' (i := 1) rfl
  iterate 4 (refine wpT_n rfl rfl (fun K hK => ?_); go_wp2_with fail)
  iterate 3 (refine wpT_gq (gi := 3) rfl rfl rfl rfl rfl (fun K hK => ?_); go_wp2_with fail)
  iterate 2 (refine wpT_n rfl rfl (fun K hK => ?_); go_wp2_with fail)
  iterate 3 (refine wpT_gq (gi := 8) rfl rfl rfl rfl rfl (fun K hK => ?_); go_wp2_with fail)
  refine wpT_gcallh (gi := 8) rfl rfl rfl rfl (fun K hK => ?_)
  go_wp2_with (go_at_call 82; (with_reducible refine (SE _ hP2).mono ?_); rintro e w3 ⟨rfl, rfl⟩)
  refine ⟨agains_same, ?_⟩
  refine wpT_gq (gi := 8) rfl rfl rfl rfl rfl (fun K hK => ?_)
  go_wp2_with fail
  iterate 2 (refine wpT_n rfl rfl (fun K hK => ?_); go_wp2_with fail)
  iterate 5 (refine wpT_gq (gi := 15) rfl rfl rfl rfl rfl (fun K hK => ?_); go_wp2_with fail)
  refine wpT_gcallh (gi := 15) rfl rfl rfl rfl (fun K hK => ?_)
  go_wp2_with (go_at_call 82; (with_reducible refine (SE _ hP2).mono ?_); rintro e w3 ⟨rfl, rfl⟩)
  refine ⟨agains_same, ?_⟩
  iterate 2 (refine wpT_gq (gi := 15) rfl rfl rfl rfl rfl (fun K hK => ?_); go_wp2_with fail)
  refine wpT_n rfl rfl (fun K hK => ?_)
  go_wp2_with fail
  refine wpT_nil ?_
  go_wp2_with (with_reducible refine st_box ?_)
  refine StopOp.go rfl fun K hK => ?_
  refine wp_box (v := .agg #[.pointer (some ⟨p, 0, none⟩), .int .i64 f, .int .i64 c]) (by rfl) ?_
  intro r w5 hr1 hr2 hm5 hB5
  simp only [put_some, List.set_cons_succ, List.set_cons_zero]
  refine hK _ _ ?_
  clear hK K
  go_wp2_with fail
  go_ret2
  have s3 := hmD.size
  refine .inl ⟨if_neg (by omega), r, rfl, ?_, by omega, hmD.ext hm5⟩
  unfold Rgr
  rw [show ((f.toNat : Nat) : Int) = f by omega, show ((c.toNat : Nat) : Int) = c by omega]
  exact hB5
end Go.Proofs.YtfepggdljhiemaaGreatDoor

/-! Regions: Read. -/
namespace Go.Proofs.YtfepggdljhiemaaGreatDoor
open Go.RowKit Gw

theorem zero_bs : (Tryz.prog.info? 33).map (·.zero) = some (some (.slice none 0 0)) := by kernel_rfl
theorem Rgn.lt {w : World} {r p f c z : Nat} (h : Rgn w r p f c z) : r < w.heap.size := Blk.lt h
theorem Pd.lt0 {w : World} {p q : Nat} {v : Pv} {L : List Nat} (h : Pd w p q v L) : ∀ k ∈ p :: L, k < w.heap.size := fun k hk => (List.mem_cons.1 hk).elim (fun e => e ▸ h.b.lt) (h.d.lt k)
theorem Pd.keep0 {w w' : World} {p q : Nat} {v : Pv} {L G : List Nat} (h : Pd w p q v L) (hm : Mod G w w') (hG : ∀ k ∈ p :: L, k ∉ G) : Pd w' p q v L := h.mod hm (hG p List.mem_cons_self) (fun b hb => hG b (List.mem_cons_of_mem _ hb))
theorem Ob.nxR {w : World} {v : Value} {l : List UInt8} {n : Nat} (h : Ob w v l) (hl : l.length = n) : ∃ ao cap, v = .slice ao n cap ∧ n ≤ cap ∧ cap ≤ 9223372036854775807 := by
  subst hl; exact h.sl.form
theorem noneE_ok {N S : Nat} (h : S < N) : noneE N S = 0 := by unfold noneE; rw [if_neg (by omega)]
theorem rd_sec {v : Pv} {S : Nat} (hg : v.go = true) (hS : S < v.m.dur.length) : v.rd S = v.m.read S := by
  unfold Pv.rd oR
  rw [if_pos hg]
  dsimp only
  rw [if_pos (noneE_ok hS)]
  rfl
set_option maxRecDepth 1000000 in
set_option maxHeartbeats 4000000 in
theorem rd1_any (r p q f c z rc oc S M T : Nat) (v : Pv) (L : List Nat) (acc : List UInt8) (ov : Value) (W : World) (hP : Pd W p q v L) (hR : Rgn W r p f c z) (hrc : Blk W rc 23 [.pointer (some ⟨r, 0, none⟩)]) (hoc : Blk W oc 33 [ov]) (ho : Ob W ov acc)
    (hS : S < v.m.dur.length) (hz : v.m.sz = z) (hMT : M < T) (hTz : T ≤ z) (hn : v.n ≤ 1000000) (hal : acc.length ≤ 1000000) (hdis : ∀ k ∈ oc :: blks ov, k ∉ p :: L) :
    Calls Tryz.prog 100 #[.int .i64 (S : Nat), .int .i64 (M : Nat), .int .i64 (T : Nat), .pointer (some ⟨rc, 0, none⟩), .pointer (some ⟨oc, 0, none⟩)] W fun e W' =>
      (v.go = true ∧ e = .returned (.int .i64 0) ∧ ∃ ov', Blk W' oc 33 [ov'] ∧ Ob W' ov' (acc ++ ((v.m.read S).drop M).take (T - M)) ∧ (∀ k ∈ blks ov', k ∈ blks ov ∨ W.heap.size ≤ k) ∧ Pd W' p q v.md L ∧ Mod (p :: oc :: blks ov) W W') ∨ (v.go = false ∧ e = .returned (.int .i64 60) ∧ Pd W' p q v.md L ∧ Mod [p] W W') := by
  have RD := fun w h => pRead_any p q v L (S : Nat) w h hn
  rw [noneE_ok hS] at RD
  have hlen : (v.m.read S).length = z := by rw [hP.ok.m.read hS, hz]
  have hz2 := hP.ok.m.s2
  rw [hz] at hz2
  obtain ⟨V, hV⟩ : ∃ V, V = v.md := ⟨_, rfl⟩
  have c0 := hrc.cell' (i := 0) rfl
  have c1 := Blk.cell' hR (i := 0) rfl
  obtain ⟨aoo, capo, rfl, _, _⟩ := ho.sl.form
  have hocp : oc ≠ p := fun e => hdis oc List.mem_cons_self (by simp [e])
  have hop : ∀ k ∈ blks (.slice aoo acc.length capo), k ≠ p := fun k hk e => hdis k (List.mem_cons_of_mem _ hk) (by simp [e])
  cases hg : v.go with
  | false =>
    rw [show v.e 0 = 60 from if_neg (by rw [hg]; decide), show v.rd (S : Nat) = [] from by unfold Pv.rd; rw [if_neg (by rw [hg]; decide)]] at RD
    rw [← hV] at RD ⊢
    clear hV hlen hz hS
    go_enter Tryz.func100, Tryz.ntmps100
    go_wp2_with (go_at_call 96; refine (RD _ hP).mono ?_; rintro e w1 ⟨v1, rfl, ho1, hn1, hP1, hm1⟩; obtain ⟨ao1, cap1, rfl, _, _⟩ := Ob.nxR (n := 0) ho1 rfl)
    go_ret
    exact .inr ⟨by first | trivial | rfl, rfl, hP1, hm1⟩
  | true =>
    rw [show v.e 0 = 0 from if_pos hg, rd_sec hg hS] at RD
    obtain ⟨B, hB⟩ : ∃ B, B = v.m.read S := ⟨_, rfl⟩
    rw [← hB] at RD hlen ⊢
    rw [← hV] at RD ⊢
    have HB := Lib.hid (And.intro hB hV)
    have HL := Lib.hid hlen
    clear hV hlen hz hS hB
    have y1 : (M : Int) ≤ T := by omega
    have y2 : (T : Int) ≤ z := by omega
    have y3 : (z : Int) ≤ 4096 := by omega
    go_enter Tryz.func100, Tryz.ntmps100
    go_wp2_with (go_at_call 96; refine (RD _ hP).mono ?_; rintro e w1 ⟨v1, rfl, ho1, hn1, hP1, hm1⟩; obtain ⟨ao1, cap1, rfl, hc1, _⟩ := Ob.nxR (n := z) ho1 HL.out; have y4 : (z : Int) ≤ cap1 := (by omega))
    refine wp_region_T [⟨0, true, []⟩, ⟨1, true, []⟩, ⟨2, true, []⟩, ⟨3, true, []⟩, ⟨4, true, []⟩, ⟨5, false, []⟩, ⟨6, false, []⟩] (by kernel_rfl) (by kernel_rfl) ?_
    have hmD := Mod.drew [] w1
    obtain ⟨x, hx⟩ : ∃ x, x = w1.drew := ⟨_, rfl⟩
    rw [← hx] at hmD ⊢
    clear hx
    have hoc2 := (hoc.mod hm1 (by simpa using hocp)).ext hmD
    have ho2 : Ob x (.slice aoo acc.length capo) acc := (Ow.mod ho hm1 (fun k hk hh => hop k hk (by simpa using hh))).ext hmD
    have hb2 : Bs x (.slice ao1 z cap1) B := (Ob.bs ho1).ext hmD
    have hsub := Bs.subR (lo := M) (hi := T) hb2 (by omega) (by rw [HL.out]; omega) hc1 HL.out.symm (by omega)
    have o0 := hoc2.cell' (i := 0) rfl
    iterate 5 (refine wpT_n rfl rfl (fun K hK => ?_); go_wp2_with fail)
    refine wpT_e0 rfl rfl (fun K hK => ?_)
    have hsl : ((B.drop M).take (T - M)).length = T - M := by rw [List.length_take, List.length_drop, HL.out]; omega
    unfold Bs at hsub
    rw [hsl] at hsub
    refine wp_append_ow stB (by rfl) (by rfl) ho2 hsub (bv_one _) (by omega) (by omega) ?_
    intro v3 w3 ho3 hm3 hb3
    simp only [put_some, List.set_cons_succ, List.set_cons_zero]
    refine hK _ _ ?_
    clear hK K
    rw [← bv_append] at ho3
    have ho3' : Ob w3 v3 (acc ++ (B.drop M).take (T - M)) := by unfold Ob; rw [List.length_append, hsl]; exact ho3
    obtain ⟨ao3, cap3, rfl, _, _⟩ := ho3.sl.form
    have hoc3 := hoc2.mod hm3 (Ow.ne ho2 hoc2 (by decide))
    refine wpT_e0 rfl rfl (fun K hK => ?_)
    refine wp_store1 (by kernel_rfl) (by rfl) (u := .slice ao3 (acc.length + (T - M)) cap3) (by rfl) ⟨rfl, rfl⟩ hoc3 (by simp) ?_
    intro w4 hm4 hB4
    refine hK _ _ ?_
    clear hK K
    refine wpT_nil ?_
    go_wp2_with fail
    go_ret
    have s1 := hm1.size
    have sD := hmD.size
    refine .inl ⟨by first | trivial | rfl, rfl, _, hB4, Ow.mod ho3' hm4 (fun k hk hh => Ow.ne ho3 hoc3 (by decide) (by have e : k = oc := (by simpa using hh); exact e ▸ hk)), fun k hk => (hb3 k hk).imp id (fun h => by omega), ?_, ?_⟩
    · exact ((hP1.ext hmD).keep0 hm3 (fun k hk hh => hdis k (List.mem_cons_of_mem _ hh) hk)).keep0 hm4 (fun k hk hh => hdis k (by have e : k = oc := (by simpa using hh); simp [e]) hk)
    · exact ((((hm1.weak (by simp)).ext hmD).then hm3 (fun g hg => .inl (by simp [hg]))).then hm4 (fun g hg => .inl (by simp at hg; simp [hg])))
/-- what stands while Read goes -/
def RdJ (w : World) (r p q f c z rc oc : Nat) (L : List Nat) (e n0 : Nat) (R0 : Pv × Int × List UInt8) (a : Nat) (W : World) : Prop :=
  ∃ v acc ov, Pd W p q v L ∧ Rgn W r p f c z ∧ Blk W rc 23 [.pointer (some ⟨r, 0, none⟩)] ∧ Blk W oc 33 [ov] ∧ Ob W ov acc ∧ New w ov ∧ v.m.sz = z ∧ f + c ≤ v.m.dur.length ∧ v.n ≤ n0 + a ∧ acc.length ≤ a ∧ rdG f z v a e acc = R0 ∧ Mod [p] w W
def RdX (w : World) (p q : Nat) (L : List Nat) (R0 : Pv × Int × List UInt8) (E : Int) (W : World) : Prop := E = 60 ∧ ∃ v, Pd W p q v L ∧ R0 = (v, 60, []) ∧ Mod [p] w W
/-- what Read answers -/
def rdA (f c z : Nat) (v : Pv) (a n : Int) : Pv × Int × List UInt8 := if hold (c * z) a n = true then rdG f z v a.toNat (a.toNat + n.toNat) [] else (v, 2, [])
def GRdP (w : World) (p q : Nat) (L : List Nat) (R : Pv × Int × List UInt8) (e : Ending) (w' : World) : Prop := ∃ rv, e = .returned (.tuple #[rv, .int .i64 R.2.1]) ∧ Ob w' rv R.2.2 ∧ New w rv ∧ Pd w' p q R.1 L ∧ Mod [p] w w'
theorem rdG_go {f z : Nat} {v : Pv} {a e : Nat} {acc : List UInt8} (h : a < e) (hz : 0 < z) (hg : v.go = true) : rdG f z v a e acc = rdG f z v.md (nxt z a e) e (acc ++ ((v.m.read (f + a / z)).drop (a % z)).take (toC z a e - a % z)) := by
  rw [rdG, dif_pos ⟨h, hz⟩, if_pos hg]
theorem rdG_no {f z : Nat} {v : Pv} {a e : Nat} {acc : List UInt8} (h : a < e) (hz : 0 < z) (hg : v.go = false) : rdG f z v a e acc = (v.md, 60, []) := by
  rw [rdG, dif_pos ⟨h, hz⟩, if_neg (by rw [hg]; decide)]
theorem rdG_end {f z : Nat} {v : Pv} {a : Nat} {acc : List UInt8} : rdG f z v a a acc = (v, 0, acc) := by
  rw [rdG, dif_neg (by omega)]
theorem md_n2 (v : Pv) : v.md.n ≤ v.n + 1 := by
  unfold Pv.md
  split
  · omega
  · split <;> simp
set_option maxHeartbeats 4000000 in
theorem rdJ_step (w : World) (r p q f c z rc oc : Nat) (L : List Nat) (e n0 : Nat) (R0 : Pv × Int × List UInt8) (hL : ∀ k ∈ p :: L, k < w.heap.size) (hrc : w.heap.size ≤ rc) (hoc : w.heap.size ≤ oc) (hrcoc : rc ≠ oc) (hr : r < w.heap.size) (hrp : r ≠ p) (he : e ≤ c * z) (hn0 : n0 + c * z ≤ 1000000) (hz : 0 < z)
    (a : Nat) (W : World) (hJ : RdJ w r p q f c z rc oc L e n0 R0 a W) (ha : a < e) :
    Calls Tryz.prog 100 #[.int .i64 ((f + a / z : Nat) : Int), .int .i64 ((a % z : Nat) : Int), .int .i64 ((toC z a e : Nat) : Int), .pointer (some ⟨rc, 0, none⟩), .pointer (some ⟨oc, 0, none⟩)] W fun e' W' => ∃ E, e' = .returned (.int .i64 E) ∧ (E = 0 → RdJ w r p q f c z rc oc L e n0 R0 (nxt z a e) W') ∧ (E ≠ 0 → RdX w p q L R0 E W') := by
  obtain ⟨v, acc, ov, hP, hR, hrcB, hocB, ho, hno, hsz, hfc, hvn, hal, hrd, hm⟩ := hJ
  have hac : a / z < c := (Nat.div_lt_iff_lt_mul hz).2 (by omega)
  have h1 := toC_gt ha hz
  have h2 := toC_le z a e
  have h3 := nxt_gt ha hz
  have hdis : ∀ k ∈ oc :: blks ov, k ∉ p :: L := fun k hk hh => by
    have := hL k hh
    rcases List.mem_cons.1 hk with e | hk
    · omega
    · have := hno k hk; omega
  have hmsz := hm.size
  refine (rd1_any r p q f c z rc oc (f + a / z) (a % z) (toC z a e) v L acc ov W hP hR hrcB hocB ho (by omega) hsz h1 h2 (by omega) (by omega) hdis).mono fun e' W' hh => ?_
  rcases hh with ⟨hg, rfl, ov', hB', ho', hn', hP', hm'⟩ | ⟨hg, rfl, hP', hm'⟩
  · refine ⟨0, rfl, fun _ => ⟨v.md, _, ov', hP', hR.mod hm' (fun hh => ?_), hrcB.mod hm' (fun hh => ?_), hB', ho', fun k hk => (hn' k hk).elim (hno k) (fun h => by omega), by rw [v.md_m]; exact hsz, by rw [v.md_m]; exact hfc, by have := md_n2 v; omega, ?_, by rw [← rdG_go ha hz hg]; exact hrd, ?_⟩, fun h => absurd rfl h⟩
    · rcases List.mem_cons.1 hh with e | hh
      · exact hrp e
      · rcases List.mem_cons.1 hh with e | hh
        · omega
        · have := hno r hh; omega
    · rcases List.mem_cons.1 hh with e | hh
      · have := hL p List.mem_cons_self; omega
      · rcases List.mem_cons.1 hh with e | hh
        · exact hrcoc e
        · exact Ow.ne ho hrcB (by decide) hh
    · rw [List.length_append, List.length_take, List.length_drop]
      unfold nxt
      omega
    · exact hm.then hm' (fun g hg => by
        rcases List.mem_cons.1 hg with e | hg
        · exact .inl (by simp [e])
        · rcases List.mem_cons.1 hg with e | hg
          · exact .inr (by omega)
          · exact .inr (hno g hg))
  · exact ⟨60, rfl, fun h => absurd h (by decide), fun _ => ⟨rfl, v.md, hP', by rw [← hrd, rdG_no ha hz hg], hm.trans hm'⟩⟩
set_option maxRecDepth 1000000 in
set_option maxHeartbeats 8000000 in
theorem gRead_any (r p q f c z : Nat) (v : Pv) (L : List Nat) (a n : Int) (w : World) (hP : Pd w p q v L) (hR : Rgn w r p f c z) (hz : v.m.sz = z) (hfc : f + c ≤ v.m.dur.length) (hn : v.n + c * z ≤ 1000000) (ha : i64 a) (hn' : i64 n) :
    Calls Tryz.prog 42 #[.pointer (some ⟨r, 0, none⟩), .int .i64 a, .int .i64 n] w (GRdP w p q L (rdA f c z v a n)) := by
  have hs1 := hP.ok.m.s1
  have hs2 := hP.ok.m.s2
  have hn2 := hP.ok.m.n2
  rw [hz] at hs1 hs2
  have MA := fun w h => gmade_yes r p f c z w h
  have HO := fun w h => gholds_any r p f c z a n w h (by omega) ha hn'
  obtain ⟨hh, hhe⟩ : ∃ b, b = hold (c * z) a n := ⟨_, rfl⟩
  rw [← hhe] at HO
  unfold rdA
  rw [← hhe]
  cases hh with
  | false =>
    rw [if_neg (by decide)]
    clear hhe
    go_enter Tryz.func42, Tryz.ntmps42
    go_wp2_with (with_reducible refine st_box ?_)
    refine StopOp.go rfl fun K hK => ?_
    refine wp_box (v := .pointer (some ⟨r, 0, none⟩)) (by rfl) ?_
    intro t w1 ht1 ht2 hm1 hT
    simp only [put_some, List.set_cons_succ, List.set_cons_zero]
    refine hK _ _ ?_
    clear hK K
    have hR1 := hR.ext hm1
    have c0 := hT.cell' (i := 0) rfl
    go_wp2_with (first
                  | (go_at_call 83; (with_reducible refine (MA _ hR1).mono ?_); rintro e w2 ⟨rfl, rfl⟩)
                  | (go_at_call 93; (with_reducible refine (HO _ hR1).mono ?_); rintro e w2 ⟨rfl, hm2⟩))
    go_ret2
    exact ⟨.slice none 0 0, rfl, Ob.nil _, by simp [New, blks], (hP.ext hm1).ext hm2, (hm1.ext hm2).weak (by simp)⟩
  | true =>
    rw [if_pos rfl]
    obtain ⟨g1, g2, g3, g4⟩ := of_decide_eq_true hhe.symm
    obtain ⟨a', rfl⟩ := Int.eq_ofNat_of_zero_le g1
    obtain ⟨n', rfl⟩ := Int.eq_ofNat_of_zero_le g2
    have hle : a' + n' ≤ c * z := by omega
    rw [Int.toNat_natCast, Int.toNat_natCast]
    obtain ⟨R0, hR0⟩ : ∃ R, R = rdG f z v a' (a' + n') [] := ⟨_, rfl⟩
    rw [← hR0]
    have H0 := Lib.hid (And.intro hR0 hle)
    have hcz : c * z ≤ 1000000 := by omega
    have hH := Lib.hid (And.intro hz (And.intro hfc (And.intro hn hcz)))
    have y1 : (a' : Int) ≤ 1000000 := by omega
    have y2 : (n' : Int) ≤ 1000000 := by omega
    clear hhe g1 g2 g3 g4 hR0 hle hz hfc hn hcz ha hn'
    go_enter Tryz.func42, Tryz.ntmps42
    go_wp2_with (with_reducible refine st_box ?_)
    refine StopOp.go rfl fun K hK => ?_
    refine wp_box (v := .pointer (some ⟨r, 0, none⟩)) (by rfl) ?_
    intro t w1 ht1 ht2 hm1 hT
    simp only [put_some, List.set_cons_succ, List.set_cons_zero]
    refine hK _ _ ?_
    clear hK K
    have hT1 : Blk w1 t 23 [.pointer (some ⟨r, 0, none⟩)] := hT
    have hR1 := hR.ext hm1
    have c0 := hT1.cell' (i := 0) rfl
    clear hT
    go_wp2_with (first
                  | (with_reducible refine st_alloc ?_)
                  | (go_at_call 83; (with_reducible refine (MA _ hR1).mono ?_); rintro e w2 ⟨rfl, rfl⟩)
                  | (go_at_call 93; (with_reducible refine (HO _ hR1).mono ?_); rintro e w2 ⟨rfl, hm2⟩))
    refine StopOp.go rfl fun K hK => ?_
    refine wp_alloc zero_bs ?_
    intro oc w3 ho1 ho2 hm3 hO
    simp only [put_some, List.set_cons_succ, List.set_cons_zero]
    refine hK _ _ ?_
    clear hK K
    have hO3 : Blk w3 oc 33 [.slice none 0 0] := hO
    have hT3 := (hT1.ext hm2).ext hm3
    have hm03 := (hm1.ext hm2).ext hm3
    have c0 := hT3.cell' (i := 0) rfl
    have s1 := hm1.size
    have s2 := hm2.size
    have htlt := hT1.lt
    have hJ0 : RdJ w r p q f c z t oc L (a' + n') v.n R0 a' w3 := ⟨v, [], .slice none 0 0, hP.ext hm03, hR.ext hm03, hT3, hO3, Ob.nil _, by simp [New, blks], hH.out.1, hH.out.2.1, by omega, by simp, H0.out.1.symm, hm03.weak (by simp)⟩
    have EA := fun w' h0 => eachR_any r p f c z (some ⟨t, 0, none⟩) (some ⟨oc, 0, none⟩) a' n' (RdJ w r p q f c z t oc L (a' + n') v.n R0) (RdX w p q L R0) w' (by omega) hs2 (by have := hH.out.2.1; omega) (by omega) h0 (fun a W hJ => by obtain ⟨_, _, _, _, h, _⟩ := hJ; exact h)
      (fun a W hJ _ hlt => rdJ_step w r p q f c z t oc L (a' + n') v.n R0 hP.lt0 ht1 (by omega) (by omega) hR.lt (Blk.ne hR hP.b (by decide)) H0.out.2 hH.out.2.2.1 (by omega) a W hJ hlt)
    clear hO hT1 hR1 hm1 hm2 hm3 hO3 hT3 MA HO
    go_upto_region 7 with (go_at_call 94; refine (EA _ hJ0).mono ?_; rintro e w4 ⟨E, rfl, hE0, hE1⟩)
    by_cases hE : E = 0
    · subst hE
      obtain ⟨v', acc, ov, hP', hR', hrc', hoc', ho', hno', _, _, _, _, hrd', hm'⟩ := hE0 rfl
      rw [rdG_end] at hrd'
      have o0 := hoc'.cell' (i := 0) rfl
      obtain ⟨aov, capv, rfl, _, _⟩ := ho'.sl.form
      clear hE0 hE1
      go_wp2_with fail
      go_ret2
      rw [← hrd']
      exact ⟨_, rfl, ho', hno', hP', hm'⟩
    · obtain ⟨rfl, v', hP', hR', hm'⟩ := hE1 hE
      clear hE0 hE1 hE
      go_wp2_with fail
      go_ret2
      rw [hR']
      exact ⟨.slice none 0 0, rfl, Ob.nil _, by simp [New, blks], hP', hm'⟩
end Go.Proofs.YtfepggdljhiemaaGreatDoor

/-! Regions: a chunk of Write. -/
namespace Go.Proofs.YtfepggdljhiemaaGreatDoor
open Go.RowKit Gw

theorem writeE_ok {m : Dm} {S n : Nat} (h : S < m.dur.length) (hn : n = m.sz) : writeE m (S : Nat) n = 0 := by
  unfold writeE
  rw [if_pos (noneE_ok h), if_pos hn]
def Wr1P (W : World) (p q bc : Nat) (bv : Value) (b : List UInt8) (k : Nat) (L : List Nat) (R : Pv × Int) (e : Ending) (W' : World) : Prop :=
  ∃ L' bv', e = .returned (.int .i64 R.2) ∧ Pd W' p q R.1 L' ∧ Blk W' bc 33 [bv'] ∧ Bs W' bv' (b.drop k) ∧ (∀ x ∈ blks bv', x ∈ blks bv) ∧ Mod (bc :: p :: L) W W' ∧ ∀ x ∈ L', x ∈ L ∨ W.heap.size ≤ x
theorem wr_e (v : Pv) (S : Nat) (x : List UInt8) : (if v.go = true then (v.wr S x, (0 : Int)) else (v.md, 60)) = (v.wr S x, v.e 0) := by
  unfold Pv.wr Pv.e
  split <;> rfl
theorem take_subR {l : List UInt8} {M : Nat} (h : M ≤ l.length) : (l.take M).length = M := by rw [List.length_take]; omega
set_option maxRecDepth 1000000 in
set_option maxHeartbeats 8000000 in
theorem wr1a_any (r p q f c z rc bc S M T k : Nat) (v : Pv) (L : List Nat) (b : List UInt8) (aob : Option Addr) (capb : Nat) (W : World) (hP : Pd W p q v L) (hR : Rgn W r p f c z) (hrc : Blk W rc 23 [.pointer (some ⟨r, 0, none⟩)]) (hbc : Blk W bc 33 [.slice aob b.length capb]) (hb : Bs W (.slice aob b.length capb) b)
    (hS : S < v.m.dur.length) (hz : v.m.sz = z) (hMT : M < T) (hTz : T ≤ z) (hk : k = T - M) (hbl : k ≤ b.length) (hbl2 : b.length ≤ 1000000) (hn : v.n + 2 ≤ 1000000) (hr : v.m.row.length ≤ 1000000) (hdis : bc ∉ p :: L) (hdb : ∀ x ∈ blks (.slice aob b.length capb), x ∉ bc :: p :: L) (hrL : r ∉ bc :: p :: L) (hrcL : rc ∉ bc :: p :: L) (hck : k = capb) :
    Calls Tryz.prog 95 #[.int .i64 (S : Nat), .int .i64 (M : Nat), .int .i64 (T : Nat), .pointer (some ⟨bc, 0, none⟩), .pointer (some ⟨rc, 0, none⟩)] W (Wr1P W p q bc (.slice aob b.length capb) b k L (wrC v S M T z (b.take k))) := by
  obtain ⟨_, _, _, hcb, hcb2⟩ := hb.form
  rename_i hcv
  injection hcv with e1 e2 e3
  subst e1 e3
  clear e2
  have hz2 := hP.ok.m.s2
  have hz1 := hP.ok.m.s1
  rw [hz] at hz2 hz1
  have hlen : (v.m.read S).length = z := by rw [hP.ok.m.read hS, hz]
  have q1 : (T : Int) - (M : Int) = (k : Nat) := by omega
  have hpre := hb.prefR rfl (k := k) hbl (by omega)
  have hsuf := hb.sufR rfl (p := k) hbl hcb
  subst hck
  rw [if_pos rfl, Nat.sub_self, show b.length - k = 0 by omega] at hsuf
  have hsb : ∀ x ∈ blks (.slice aob 0 0), x ∈ blks (.slice aob b.length k) := fun x hx => by cases aob <;> exact hx
  have y0 : (b.length : Int) ≤ 1000000 := by omega
  have y1 : (k : Int) ≤ b.length := by omega
  have y2 : (z : Int) ≤ 4096 := by omega
  have y3 : (b.length : Int) ≤ k := by omega
  have hkl : (b.take k).length = k := by rw [List.length_take]; omega
  obtain ⟨b1, hb1⟩ : ∃ x, x = b.take k := ⟨_, rfl⟩
  obtain ⟨b2, hb2⟩ : ∃ x, x = b.drop k := ⟨_, rfl⟩
  rw [← hb1] at hpre hkl ⊢
  rw [← hb2] at hsuf
  unfold Wr1P
  rw [← hb2]
  have HH := Lib.hid (And.intro hb1 (And.intro hb2 (And.intro hk hbl)))
  have hpre' : ∀ {w' : World} {G : List Nat}, Mod G W w' → (∀ x ∈ blks (.slice aob b.length k), x ∉ G) → Bs w' (.slice aob k k) b1 := fun hm hG => Sl.mod hpre hm (fun x hx => hG x (by cases aob <;> exact hx))
  have hsuf' : ∀ {w' : World} {G : List Nat}, Mod G W w' → (∀ x ∈ blks (.slice aob b.length k), x ∉ G) → Bs w' (.slice aob 0 0) b2 := fun hm hG => Sl.mod hsuf hm (fun x hx => hG x (hsb x hx))
  have c0 := hrc.cell' (i := 0) rfl
  have c1 := Blk.cell' hR (i := 0) rfl
  have c3 := Blk.cell' hR (i := 3) rfl
  have d0 := hbc.cell' (i := 0) rfl
  by_cases hpart : k < z
  · have y4 : (k : Int) < z := by omega
    have eC : wrC v S M T z b1 = if v.go = true then if v.md.go = true then (v.md.wr S ((v.m.read S).take M ++ b1 ++ (v.m.read S).drop T), 0) else (v.md.md, 60) else (v.md, 60) := by unfold wrC; rw [if_pos (by omega)]
    rw [eC]
    clear eC
    have RD := fun w h => pRead_any p q v L (S : Nat) w h (by omega)
    rw [noneE_ok hS] at RD
    cases hg : v.go with
    | false =>
      rw [show v.e 0 = 60 from if_neg (by rw [hg]; decide), show v.rd (S : Nat) = [] from by unfold Pv.rd; rw [if_neg (by rw [hg]; decide)]] at RD
      rw [if_neg (by decide)]
      obtain ⟨V, hV⟩ : ∃ V, V = v.md := ⟨_, rfl⟩
      rw [← hV] at RD ⊢
      clear hb1 hb2 hk hlen hz hS hV hg
      go_enter Tryz.func95, Tryz.ntmps95
      go_wp2_with (with_reducible refine st_store ?_)
      refine StopOp.go rfl fun K hK => ?_
      refine wp_store1 (by kernel_rfl) (by rfl) (u := .slice aob 0 0) (by rfl) ⟨rfl, rfl⟩ hbc (by simp) ?_
      intro w1 hm1 hB1
      refine hK _ _ ?_
      clear hK K
      have hP1 := hP.keep0 hm1 (fun x hx hh => hdis (by have e : x = bc := (by simpa using hh); exact e ▸ hx))
      have hR1 := hR.mod hm1 (fun hh => hrL (by have e : r = bc := (by simpa using hh); simp [e]))
      have hrc1 := hrc.mod hm1 (fun hh => hrcL (by have e : rc = bc := (by simpa using hh); simp [e]))
      clear c0 c1 c3 d0
      have c0 := hrc1.cell' (i := 0) rfl
      have c1 := Blk.cell' hR1 (i := 0) rfl
      have c3 := Blk.cell' hR1 (i := 3) rfl
      go_wp2_with (go_at_call 96; (with_reducible refine (RD _ hP1).mono ?_); rintro e w2 ⟨v2, rfl, ho2, hn2, hP2, hm2⟩; obtain ⟨ao2, cap2, rfl, _, _⟩ := Ob.nxR (n := 0) ho2 rfl)
      go_ret
      have hm02 : Mod (bc :: p :: L) W w2 := (hm1.weak (by simp)).then hm2 (fun g hg => .inl (by simp at hg; simp [hg]))
      exact ⟨L, _, rfl, hP2, Blk.mod hB1 hm2 (by simpa using fun e => hdis (by simp [e])), hsuf' hm02 hdb, hsb, hm02, fun x hx => .inl hx⟩
    | true =>
      rw [show v.e 0 = 0 from if_pos hg, rd_sec hg hS] at RD
      rw [if_pos rfl]
      have hS' : S < v.md.m.dur.length := by rw [v.md_m]; exact hS
      have hX : ((v.m.read S).take M ++ b1 ++ (v.m.read S).drop T).length = v.md.m.sz := by
        rw [v.md_m, hz, List.length_append, List.length_append, List.length_drop, take_subR (by omega), hkl, hlen]; omega
      have hw0 := writeE_ok (m := v.md.m) hS' hX
      have hE : (if v.md.go = true then (v.md.wr S ((v.m.read S).take M ++ b1 ++ (v.m.read S).drop T), (0 : Int)) else (v.md.md, 60)) = (v.md.wr S ((v.m.read S).take M ++ b1 ++ (v.m.read S).drop T), v.md.e 0) := wr_e _ _ _
      rw [hE]
      clear hE
      obtain ⟨B, hB⟩ : ∃ B, B = v.m.read S := ⟨_, rfl⟩
      rw [← hB] at RD hlen hw0 hX ⊢
      have hvn : v.md.n ≤ v.n + 1 := md_n2 v
      have hvr : v.md.m.row.length ≤ 1000000 := by rw [v.md_m]; exact hr
      obtain ⟨V, hV⟩ : ∃ V, V = v.md := ⟨_, rfl⟩
      rw [← hV] at RD hw0 hX hvn hvr ⊢
      have hok : V.m.ok := by rw [hV, v.md_m]; exact hP.ok.m
      obtain ⟨X, hXe⟩ : ∃ X, X = B.take M ++ b1 ++ B.drop T := ⟨_, rfl⟩
      rw [← hXe] at hw0 hX ⊢
      have WR := fun w bw h hb hbp => pWrite_any p q V L (S : Nat) X bw w h hb hbp (by omega) hvr
      rw [hw0] at WR
      obtain ⟨V2, hV2⟩ : ∃ x, x = V.wr S X := ⟨_, rfl⟩
      obtain ⟨E, hE'⟩ : ∃ x, x = V.e 0 := ⟨_, rfl⟩
      rw [← hV2, ← hE'] at WR
      rw [← hV2, ← hE']
      have H2 := Lib.hid (And.intro hV (And.intro hV2 (And.intro hE' (And.intro hB (And.intro hlen (And.intro hXe hX))))))
      have y5 : (M : Int) ≤ T := by omega
      have y6 : (T : Int) ≤ z := by omega
      clear hb1 hb2 hk hlen hz hS hV hV2 hE' hg hX hXe hw0 hB hS' hvn hvr
      go_enter Tryz.func95, Tryz.ntmps95
      go_wp2_with (with_reducible refine st_store ?_)
      refine StopOp.go rfl fun K hK => ?_
      refine wp_store1 (by kernel_rfl) (by rfl) (u := .slice aob 0 0) (by rfl) ⟨rfl, rfl⟩ hbc (by simp) ?_
      intro w1 hm1 hB1
      refine hK _ _ ?_
      clear hK K
      have hP1 := hP.keep0 hm1 (fun x hx hh => hdis (by have e : x = bc := (by simpa using hh); exact e ▸ hx))
      have hR1 := hR.mod hm1 (fun hh => hrL (by have e : r = bc := (by simpa using hh); simp [e]))
      have hrc1 := hrc.mod hm1 (fun hh => hrcL (by have e : rc = bc := (by simpa using hh); simp [e]))
      clear c0 c1 c3 d0
      have c0 := hrc1.cell' (i := 0) rfl
      have c1 := Blk.cell' hR1 (i := 0) rfl
      have c3 := Blk.cell' hR1 (i := 3) rfl
      go_wp2_with (go_at_call 96; (with_reducible refine (RD _ hP1).mono ?_); rintro e w2 ⟨v2, rfl, ho2, hn2, hP2, hm2⟩; obtain ⟨ao2, cap2, rfl, hc2, hc22⟩ := Ob.nxR (n := z) ho2 H2.out.2.2.2.2.1; have y7 : (z : Int) ≤ cap2 := (by omega))
      have hm02 : Mod (bc :: p :: L) W w2 := (hm1.weak (by simp)).then hm2 (fun g hg => .inl (by simp at hg; simp [hg]))
      have hbc2 := Blk.mod hB1 hm2 (by simpa using fun e => hdis (by simp [e]))
      have hR2 := hR.mod hm02 hrL
      have hrc2 := hrc.mod hm02 hrcL
      have hs2 := Ob.bs ho2
      have hsx := hs2.prefR (k := M) H2.out.2.2.2.2.1.symm (by omega) (by omega)
      have hsy := hs2.sufR (p := T) H2.out.2.2.2.2.1.symm (by omega) hc2
      have hmL : ∀ x ∈ L, x ∉ blks (.slice ao2 z cap2) := fun x hx hh => by have := hn2 x hh; have := hP1.lt0 x (List.mem_cons_of_mem _ hx); omega
      clear c0 c1 c3
      by_cases hct : cap2 = T
      · skip
        obtain rfl : T = cap2 := hct.symm
        rw [if_pos rfl, Nat.sub_self, show z - T = 0 by omega] at hsy
        refine wp_region_T [⟨0, true, []⟩, ⟨1, true, []⟩, ⟨2, true, []⟩, ⟨3, true, []⟩, ⟨4, true, []⟩, ⟨5, true, []⟩, ⟨6, true, []⟩, ⟨7, false, []⟩, ⟨8, false, []⟩, ⟨9, true, []⟩] (by kernel_rfl) (by kernel_rfl) ?_
        have hmD := Mod.drew [] w2
        obtain ⟨x, hx⟩ : ∃ x, x = w2.drew := ⟨_, rfl⟩
        rw [← hx] at hmD ⊢
        clear hx
        iterate 7 (refine wpT_n rfl rfl (fun K hK => ?_); go_wp2_with fail)
        refine wpT_e0 rfl rfl (fun K hK => ?_)
        refine wp_bslice stRow [.slice ao2 M T, .slice aob k k, .slice ao2 0 0] rfl (by decide) (by rfl) (by simp [Value.cells]) ?_
        intro g w3 hg1 hg2 hm3 hB3
        simp only [put_some, List.set_cons_succ, List.set_cons_zero]
        refine hK _ _ ?_
        clear hK K
        have hm23 := hmD.ext hm3
        have hpm := hpre' (hm02.ext hm23) hdb
        have hRR : RowsR w3 (.slice (some ⟨g, 0, none⟩) 3 3) [((.slice ao2 M T : Value), B.take M), ((.slice aob k k : Value), b1), ((.slice ao2 0 0 : Value), B.drop T)] := by
          refine ⟨(Ow.of_blk (rest := []) hB3 (Nat.le_refl _) (by omega) rfl rfl : Ow w3 33 1 (.slice (some ⟨g, 0, none⟩) 3 3) 3 [.slice ao2 M T, .slice aob k k, .slice ao2 0 0]).sl, fun x hx => ?_⟩
          simp only [List.mem_cons, List.not_mem_nil, or_false] at hx
          rcases hx with rfl | rfl | rfl
          · exact hsx.ext hm23
          · exact hpm
          · exact hsy.ext hm23
        have CC := fun w h => concat_any [((.slice ao2 M T : Value), B.take M), ((.slice aob k k : Value), b1), ((.slice ao2 0 0 : Value), B.drop T)] (.slice (some ⟨g, 0, none⟩) 3 3) w h (by simp) (by simp [H2.out.2.2.2.2.1, hkl]; omega)
        rw [show ([((.slice ao2 M T : Value), B.take M), ((.slice aob k k : Value), b1), ((.slice ao2 0 0 : Value), B.drop T)].flatMap (·.2)) = X from by rw [H2.out.2.2.2.2.2.1]; simp] at CC
        refine wpT_call rfl rfl (fun K hK => ?_)
        go_wp2_with (go_at_call 97; refine (CC _ hRR).mono ?_; rintro e w4 ⟨v4, rfl, ho4, hn4, hm4⟩)
        obtain ⟨ao4, cap4, rfl, _, _⟩ := ho4.sl.form
        have hm24 := hm23.ext hm4
        have hR4 := hR2.ext hm24
        have hrc4 := hrc2.ext hm24
        have hP4 := hP2.ext hm24
        have c0 := hrc4.cell' (i := 0) rfl
        have c1 := Blk.cell' hR4 (i := 0) rfl
        refine wpT_n rfl rfl (fun K hK => ?_)
        go_wp2_with fail
        refine wpT_nil ?_
        go_wp2_with fail
        go_wp2_with (go_at_call 98; refine (WR _ _ hP4 (Ob.bs ho4) (fun x hx e => by have := hn4 x hx; have := hP2.lt0 p List.mem_cons_self; have := hm23.size; omega)).mono ?_; rintro e w5 ⟨rfl, hp5⟩)
        obtain ⟨L5, k1, k2, k3⟩ := hp5
        go_ret
        have hm05 : Mod (bc :: p :: L) W w5 := (hm02.ext hm24).then k2 (fun g hg => .inl (List.mem_cons_of_mem _ hg))
        have s0 := hm02.size
        have s2 := hm24.size
        exact ⟨L5, _, rfl, k1, (hbc2.ext hm24).mod k2 hdis, hsuf' hm05 hdb, hsb, hm05, fun x hx => (k3 x hx).imp id (fun h => by omega)⟩
      · skip
        rw [if_neg hct] at hsy
        refine wp_region_T [⟨0, true, []⟩, ⟨1, true, []⟩, ⟨2, true, []⟩, ⟨3, true, []⟩, ⟨4, true, []⟩, ⟨5, true, []⟩, ⟨6, true, []⟩, ⟨7, false, []⟩, ⟨8, false, []⟩, ⟨9, true, []⟩] (by kernel_rfl) (by kernel_rfl) ?_
        have hmD := Mod.drew [] w2
        obtain ⟨x, hx⟩ : ∃ x, x = w2.drew := ⟨_, rfl⟩
        rw [← hx] at hmD ⊢
        clear hx
        iterate 7 (refine wpT_n rfl rfl (fun K hK => ?_); go_wp2_with fail)
        refine wpT_e0 rfl rfl (fun K hK => ?_)
        refine wp_bslice stRow [.slice ao2 M cap2, .slice aob k k, .slice (Option.map (fun x => x.add T) ao2) (z - T) (cap2 - T)] rfl (by decide) (by rfl) (by simp [Value.cells]) ?_
        intro g w3 hg1 hg2 hm3 hB3
        simp only [put_some, List.set_cons_succ, List.set_cons_zero]
        refine hK _ _ ?_
        clear hK K
        have hm23 := hmD.ext hm3
        have hpm := hpre' (hm02.ext hm23) hdb
        have hRR : RowsR w3 (.slice (some ⟨g, 0, none⟩) 3 3) [((.slice ao2 M cap2 : Value), B.take M), ((.slice aob k k : Value), b1), ((.slice (Option.map (fun x => x.add T) ao2) (z - T) (cap2 - T) : Value), B.drop T)] := by
          refine ⟨(Ow.of_blk (rest := []) hB3 (Nat.le_refl _) (by omega) rfl rfl : Ow w3 33 1 (.slice (some ⟨g, 0, none⟩) 3 3) 3 [.slice ao2 M cap2, .slice aob k k, .slice (Option.map (fun x => x.add T) ao2) (z - T) (cap2 - T)]).sl, fun x hx => ?_⟩
          simp only [List.mem_cons, List.not_mem_nil, or_false] at hx
          rcases hx with rfl | rfl | rfl
          · exact hsx.ext hm23
          · exact hpm
          · exact hsy.ext hm23
        have CC := fun w h => concat_any [((.slice ao2 M cap2 : Value), B.take M), ((.slice aob k k : Value), b1), ((.slice (Option.map (fun x => x.add T) ao2) (z - T) (cap2 - T) : Value), B.drop T)] (.slice (some ⟨g, 0, none⟩) 3 3) w h (by simp) (by simp [H2.out.2.2.2.2.1, hkl]; omega)
        rw [show ([((.slice ao2 M cap2 : Value), B.take M), ((.slice aob k k : Value), b1), ((.slice (Option.map (fun x => x.add T) ao2) (z - T) (cap2 - T) : Value), B.drop T)].flatMap (·.2)) = X from by rw [H2.out.2.2.2.2.2.1]; simp] at CC
        refine wpT_call rfl rfl (fun K hK => ?_)
        go_wp2_with (go_at_call 97; refine (CC _ hRR).mono ?_; rintro e w4 ⟨v4, rfl, ho4, hn4, hm4⟩)
        obtain ⟨ao4, cap4, rfl, _, _⟩ := ho4.sl.form
        have hm24 := hm23.ext hm4
        have hR4 := hR2.ext hm24
        have hrc4 := hrc2.ext hm24
        have hP4 := hP2.ext hm24
        have c0 := hrc4.cell' (i := 0) rfl
        have c1 := Blk.cell' hR4 (i := 0) rfl
        refine wpT_n rfl rfl (fun K hK => ?_)
        go_wp2_with fail
        refine wpT_nil ?_
        go_wp2_with fail
        go_wp2_with (go_at_call 98; refine (WR _ _ hP4 (Ob.bs ho4) (fun x hx e => by have := hn4 x hx; have := hP2.lt0 p List.mem_cons_self; have := hm23.size; omega)).mono ?_; rintro e w5 ⟨rfl, hp5⟩)
        obtain ⟨L5, k1, k2, k3⟩ := hp5
        go_ret
        have hm05 : Mod (bc :: p :: L) W w5 := (hm02.ext hm24).then k2 (fun g hg => .inl (List.mem_cons_of_mem _ hg))
        have s0 := hm02.size
        have s2 := hm24.size
        exact ⟨L5, _, rfl, k1, (hbc2.ext hm24).mod k2 hdis, hsuf' hm05 hdb, hsb, hm05, fun x hx => (k3 x hx).imp id (fun h => by omega)⟩
  · have hkz : k = z := by omega
    have eC : wrC v S M T z b1 = if v.go = true then (v.wr S b1, 0) else (v.md, 60) := by unfold wrC; rw [if_neg (by omega)]
    rw [eC, wr_e]
    clear eC
    have hw0 := writeE_ok (m := v.m) hS (show b1.length = v.m.sz by rw [hkl, hkz, hz])
    have WR := fun w h hb => pWrite_any p q v L (S : Nat) b1 (.slice aob k k) w h hb (fun x hx e => hdb x (by cases aob <;> exact hx) (by simp [e])) (by omega) hr
    rw [hw0] at WR
    obtain ⟨V, hV⟩ : ∃ V, V = v.wr S b1 := ⟨_, rfl⟩
    obtain ⟨E, hE'⟩ : ∃ V, V = v.e 0 := ⟨_, rfl⟩
    rw [← hV, ← hE'] at WR
    rw [← hV, ← hE']
    have y4 : ¬ ((k : Int) < z) := by omega
    have y5 : decide (k < z) = false := decide_eq_false hpart
    clear hb1 hb2 hk hlen hz hS hw0 hV hE' hpart hkz
    go_enter Tryz.func95, Tryz.ntmps95
    go_wp2_with (with_reducible refine st_store ?_)
    refine StopOp.go rfl fun K hK => ?_
    refine wp_store1 (by kernel_rfl) (by rfl) (u := .slice aob 0 0) (by rfl) ⟨rfl, rfl⟩ hbc (by simp) ?_
    intro w1 hm1 hB1
    refine hK _ _ ?_
    clear hK K
    have hP1 := hP.keep0 hm1 (fun x hx hh => hdis (by have e : x = bc := (by simpa using hh); exact e ▸ hx))
    have hR1 := hR.mod hm1 (fun hh => hrL (by have e : r = bc := (by simpa using hh); simp [e]))
    have hrc1 := hrc.mod hm1 (fun hh => hrcL (by have e : rc = bc := (by simpa using hh); simp [e]))
    clear c0 c1 c3 d0
    have c0 := hrc1.cell' (i := 0) rfl
    have c1 := Blk.cell' hR1 (i := 0) rfl
    have c3 := Blk.cell' hR1 (i := 3) rfl
    have hp1 := hpre' hm1 (fun x hx hh => hdb x hx (by simp at hh; simp [hh]))
    go_wp2_with (go_at_call 98; (with_reducible refine (WR _ hP1 hp1).mono ?_); rintro e w2 ⟨rfl, hp2⟩)
    obtain ⟨L2, k1, k2, k3⟩ := hp2
    go_ret
    have hm02 : Mod (bc :: p :: L) W w2 := (hm1.weak (by simp)).then k2 (fun g hg => .inl (List.mem_cons_of_mem _ hg))
    have s1 := hm1.size
    exact ⟨L2, _, rfl, k1, Blk.mod hB1 k2 hdis, hsuf' hm02 hdb, hsb, hm02, fun x hx => (k3 x hx).imp id (fun h => by omega)⟩
set_option maxRecDepth 1000000 in
set_option maxHeartbeats 8000000 in
theorem wr1b_any (r p q f c z rc bc S M T k : Nat) (v : Pv) (L : List Nat) (b : List UInt8) (aob : Option Addr) (capb : Nat) (W : World) (hP : Pd W p q v L) (hR : Rgn W r p f c z) (hrc : Blk W rc 23 [.pointer (some ⟨r, 0, none⟩)]) (hbc : Blk W bc 33 [.slice aob b.length capb]) (hb : Bs W (.slice aob b.length capb) b)
    (hS : S < v.m.dur.length) (hz : v.m.sz = z) (hMT : M < T) (hTz : T ≤ z) (hk : k = T - M) (hbl : k ≤ b.length) (hbl2 : b.length ≤ 1000000) (hn : v.n + 2 ≤ 1000000) (hr : v.m.row.length ≤ 1000000) (hdis : bc ∉ p :: L) (hdb : ∀ x ∈ blks (.slice aob b.length capb), x ∉ bc :: p :: L) (hrL : r ∉ bc :: p :: L) (hrcL : rc ∉ bc :: p :: L) (hck : capb ≠ k) :
    Calls Tryz.prog 95 #[.int .i64 (S : Nat), .int .i64 (M : Nat), .int .i64 (T : Nat), .pointer (some ⟨bc, 0, none⟩), .pointer (some ⟨rc, 0, none⟩)] W (Wr1P W p q bc (.slice aob b.length capb) b k L (wrC v S M T z (b.take k))) := by
  obtain ⟨_, _, _, hcb, hcb2⟩ := hb.form
  rename_i hcv
  injection hcv with e1 e2 e3
  subst e1 e3
  clear e2
  have hz2 := hP.ok.m.s2
  have hz1 := hP.ok.m.s1
  rw [hz] at hz2 hz1
  have hlen : (v.m.read S).length = z := by rw [hP.ok.m.read hS, hz]
  have q1 : (T : Int) - (M : Int) = (k : Nat) := by omega
  have hpre := hb.prefR rfl (k := k) hbl (by omega)
  have hsuf := hb.sufR rfl (p := k) hbl hcb
  rw [if_neg hck] at hsuf
  have hsb : ∀ x ∈ blks (.slice (Option.map (fun x => x.add k) aob) (b.length - k) (capb - k)), x ∈ blks (.slice aob b.length capb) := fun x hx => by
    cases aob with
    | none => simp [blks] at hx
    | some ad =>
      have e : (ad.add k).block = ad.block := by unfold Addr.add; split <;> rfl
      have hx' : x ∈ [(ad.add k).block] := hx
      rw [e] at hx'
      exact hx'
  have y0 : (b.length : Int) ≤ 1000000 := by omega
  have y1 : (k : Int) ≤ b.length := by omega
  have y2 : (z : Int) ≤ 4096 := by omega
  have y3 : (b.length : Int) ≤ capb := by omega
  have hkl : (b.take k).length = k := by rw [List.length_take]; omega
  obtain ⟨b1, hb1⟩ : ∃ x, x = b.take k := ⟨_, rfl⟩
  obtain ⟨b2, hb2⟩ : ∃ x, x = b.drop k := ⟨_, rfl⟩
  rw [← hb1] at hpre hkl ⊢
  rw [← hb2] at hsuf
  unfold Wr1P
  rw [← hb2]
  have HH := Lib.hid (And.intro hb1 (And.intro hb2 (And.intro hk hbl)))
  have hpre' : ∀ {w' : World} {G : List Nat}, Mod G W w' → (∀ x ∈ blks (.slice aob b.length capb), x ∉ G) → Bs w' (.slice aob k capb) b1 := fun hm hG => Sl.mod hpre hm (fun x hx => hG x (by cases aob <;> exact hx))
  have hsuf' : ∀ {w' : World} {G : List Nat}, Mod G W w' → (∀ x ∈ blks (.slice aob b.length capb), x ∉ G) → Bs w' (.slice (Option.map (fun x => x.add k) aob) (b.length - k) (capb - k)) b2 := fun hm hG => Sl.mod hsuf hm (fun x hx => hG x (hsb x hx))
  have c0 := hrc.cell' (i := 0) rfl
  have c1 := Blk.cell' hR (i := 0) rfl
  have c3 := Blk.cell' hR (i := 3) rfl
  have d0 := hbc.cell' (i := 0) rfl
  by_cases hpart : k < z
  · have y4 : (k : Int) < z := by omega
    have eC : wrC v S M T z b1 = if v.go = true then if v.md.go = true then (v.md.wr S ((v.m.read S).take M ++ b1 ++ (v.m.read S).drop T), 0) else (v.md.md, 60) else (v.md, 60) := by unfold wrC; rw [if_pos (by omega)]
    rw [eC]
    clear eC
    have RD := fun w h => pRead_any p q v L (S : Nat) w h (by omega)
    rw [noneE_ok hS] at RD
    cases hg : v.go with
    | false =>
      rw [show v.e 0 = 60 from if_neg (by rw [hg]; decide), show v.rd (S : Nat) = [] from by unfold Pv.rd; rw [if_neg (by rw [hg]; decide)]] at RD
      rw [if_neg (by decide)]
      obtain ⟨V, hV⟩ : ∃ V, V = v.md := ⟨_, rfl⟩
      rw [← hV] at RD ⊢
      clear hb1 hb2 hk hlen hz hS hV hg
      go_enter Tryz.func95, Tryz.ntmps95
      go_wp2_with (with_reducible refine st_store ?_)
      refine StopOp.go rfl fun K hK => ?_
      refine wp_store1 (by kernel_rfl) (by rfl) (u := .slice (Option.map (fun x => x.add k) aob) (b.length - k) (capb - k)) (by rfl) ⟨rfl, rfl⟩ hbc (by simp) ?_
      intro w1 hm1 hB1
      refine hK _ _ ?_
      clear hK K
      have hP1 := hP.keep0 hm1 (fun x hx hh => hdis (by have e : x = bc := (by simpa using hh); exact e ▸ hx))
      have hR1 := hR.mod hm1 (fun hh => hrL (by have e : r = bc := (by simpa using hh); simp [e]))
      have hrc1 := hrc.mod hm1 (fun hh => hrcL (by have e : rc = bc := (by simpa using hh); simp [e]))
      clear c0 c1 c3 d0
      have c0 := hrc1.cell' (i := 0) rfl
      have c1 := Blk.cell' hR1 (i := 0) rfl
      have c3 := Blk.cell' hR1 (i := 3) rfl
      go_wp2_with (go_at_call 96; (with_reducible refine (RD _ hP1).mono ?_); rintro e w2 ⟨v2, rfl, ho2, hn2, hP2, hm2⟩; obtain ⟨ao2, cap2, rfl, _, _⟩ := Ob.nxR (n := 0) ho2 rfl)
      go_ret
      have hm02 : Mod (bc :: p :: L) W w2 := (hm1.weak (by simp)).then hm2 (fun g hg => .inl (by simp at hg; simp [hg]))
      exact ⟨L, _, rfl, hP2, Blk.mod hB1 hm2 (by simpa using fun e => hdis (by simp [e])), hsuf' hm02 hdb, hsb, hm02, fun x hx => .inl hx⟩
    | true =>
      rw [show v.e 0 = 0 from if_pos hg, rd_sec hg hS] at RD
      rw [if_pos rfl]
      have hS' : S < v.md.m.dur.length := by rw [v.md_m]; exact hS
      have hX : ((v.m.read S).take M ++ b1 ++ (v.m.read S).drop T).length = v.md.m.sz := by
        rw [v.md_m, hz, List.length_append, List.length_append, List.length_drop, take_subR (by omega), hkl, hlen]; omega
      have hw0 := writeE_ok (m := v.md.m) hS' hX
      have hE : (if v.md.go = true then (v.md.wr S ((v.m.read S).take M ++ b1 ++ (v.m.read S).drop T), (0 : Int)) else (v.md.md, 60)) = (v.md.wr S ((v.m.read S).take M ++ b1 ++ (v.m.read S).drop T), v.md.e 0) := wr_e _ _ _
      rw [hE]
      clear hE
      obtain ⟨B, hB⟩ : ∃ B, B = v.m.read S := ⟨_, rfl⟩
      rw [← hB] at RD hlen hw0 hX ⊢
      have hvn : v.md.n ≤ v.n + 1 := md_n2 v
      have hvr : v.md.m.row.length ≤ 1000000 := by rw [v.md_m]; exact hr
      obtain ⟨V, hV⟩ : ∃ V, V = v.md := ⟨_, rfl⟩
      rw [← hV] at RD hw0 hX hvn hvr ⊢
      have hok : V.m.ok := by rw [hV, v.md_m]; exact hP.ok.m
      obtain ⟨X, hXe⟩ : ∃ X, X = B.take M ++ b1 ++ B.drop T := ⟨_, rfl⟩
      rw [← hXe] at hw0 hX ⊢
      have WR := fun w bw h hb hbp => pWrite_any p q V L (S : Nat) X bw w h hb hbp (by omega) hvr
      rw [hw0] at WR
      obtain ⟨V2, hV2⟩ : ∃ x, x = V.wr S X := ⟨_, rfl⟩
      obtain ⟨E, hE'⟩ : ∃ x, x = V.e 0 := ⟨_, rfl⟩
      rw [← hV2, ← hE'] at WR
      rw [← hV2, ← hE']
      have H2 := Lib.hid (And.intro hV (And.intro hV2 (And.intro hE' (And.intro hB (And.intro hlen (And.intro hXe hX))))))
      have y5 : (M : Int) ≤ T := by omega
      have y6 : (T : Int) ≤ z := by omega
      clear hb1 hb2 hk hlen hz hS hV hV2 hE' hg hX hXe hw0 hB hS' hvn hvr
      go_enter Tryz.func95, Tryz.ntmps95
      go_wp2_with (with_reducible refine st_store ?_)
      refine StopOp.go rfl fun K hK => ?_
      refine wp_store1 (by kernel_rfl) (by rfl) (u := .slice (Option.map (fun x => x.add k) aob) (b.length - k) (capb - k)) (by rfl) ⟨rfl, rfl⟩ hbc (by simp) ?_
      intro w1 hm1 hB1
      refine hK _ _ ?_
      clear hK K
      have hP1 := hP.keep0 hm1 (fun x hx hh => hdis (by have e : x = bc := (by simpa using hh); exact e ▸ hx))
      have hR1 := hR.mod hm1 (fun hh => hrL (by have e : r = bc := (by simpa using hh); simp [e]))
      have hrc1 := hrc.mod hm1 (fun hh => hrcL (by have e : rc = bc := (by simpa using hh); simp [e]))
      clear c0 c1 c3 d0
      have c0 := hrc1.cell' (i := 0) rfl
      have c1 := Blk.cell' hR1 (i := 0) rfl
      have c3 := Blk.cell' hR1 (i := 3) rfl
      go_wp2_with (go_at_call 96; (with_reducible refine (RD _ hP1).mono ?_); rintro e w2 ⟨v2, rfl, ho2, hn2, hP2, hm2⟩; obtain ⟨ao2, cap2, rfl, hc2, hc22⟩ := Ob.nxR (n := z) ho2 H2.out.2.2.2.2.1; have y7 : (z : Int) ≤ cap2 := (by omega))
      have hm02 : Mod (bc :: p :: L) W w2 := (hm1.weak (by simp)).then hm2 (fun g hg => .inl (by simp at hg; simp [hg]))
      have hbc2 := Blk.mod hB1 hm2 (by simpa using fun e => hdis (by simp [e]))
      have hR2 := hR.mod hm02 hrL
      have hrc2 := hrc.mod hm02 hrcL
      have hs2 := Ob.bs ho2
      have hsx := hs2.prefR (k := M) H2.out.2.2.2.2.1.symm (by omega) (by omega)
      have hsy := hs2.sufR (p := T) H2.out.2.2.2.2.1.symm (by omega) hc2
      have hmL : ∀ x ∈ L, x ∉ blks (.slice ao2 z cap2) := fun x hx hh => by have := hn2 x hh; have := hP1.lt0 x (List.mem_cons_of_mem _ hx); omega
      clear c0 c1 c3
      by_cases hct : cap2 = T
      · skip
        obtain rfl : T = cap2 := hct.symm
        rw [if_pos rfl, Nat.sub_self, show z - T = 0 by omega] at hsy
        refine wp_region_T [⟨0, true, []⟩, ⟨1, true, []⟩, ⟨2, true, []⟩, ⟨3, true, []⟩, ⟨4, true, []⟩, ⟨5, true, []⟩, ⟨6, true, []⟩, ⟨7, false, []⟩, ⟨8, false, []⟩, ⟨9, true, []⟩] (by kernel_rfl) (by kernel_rfl) ?_
        have hmD := Mod.drew [] w2
        obtain ⟨x, hx⟩ : ∃ x, x = w2.drew := ⟨_, rfl⟩
        rw [← hx] at hmD ⊢
        clear hx
        iterate 7 (refine wpT_n rfl rfl (fun K hK => ?_); go_wp2_with fail)
        refine wpT_e0 rfl rfl (fun K hK => ?_)
        refine wp_bslice stRow [.slice ao2 M T, .slice aob k capb, .slice ao2 0 0] rfl (by decide) (by rfl) (by simp [Value.cells]) ?_
        intro g w3 hg1 hg2 hm3 hB3
        simp only [put_some, List.set_cons_succ, List.set_cons_zero]
        refine hK _ _ ?_
        clear hK K
        have hm23 := hmD.ext hm3
        have hpm := hpre' (hm02.ext hm23) hdb
        have hRR : RowsR w3 (.slice (some ⟨g, 0, none⟩) 3 3) [((.slice ao2 M T : Value), B.take M), ((.slice aob k capb : Value), b1), ((.slice ao2 0 0 : Value), B.drop T)] := by
          refine ⟨(Ow.of_blk (rest := []) hB3 (Nat.le_refl _) (by omega) rfl rfl : Ow w3 33 1 (.slice (some ⟨g, 0, none⟩) 3 3) 3 [.slice ao2 M T, .slice aob k capb, .slice ao2 0 0]).sl, fun x hx => ?_⟩
          simp only [List.mem_cons, List.not_mem_nil, or_false] at hx
          rcases hx with rfl | rfl | rfl
          · exact hsx.ext hm23
          · exact hpm
          · exact hsy.ext hm23
        have CC := fun w h => concat_any [((.slice ao2 M T : Value), B.take M), ((.slice aob k capb : Value), b1), ((.slice ao2 0 0 : Value), B.drop T)] (.slice (some ⟨g, 0, none⟩) 3 3) w h (by simp) (by simp [H2.out.2.2.2.2.1, hkl]; omega)
        rw [show ([((.slice ao2 M T : Value), B.take M), ((.slice aob k capb : Value), b1), ((.slice ao2 0 0 : Value), B.drop T)].flatMap (·.2)) = X from by rw [H2.out.2.2.2.2.2.1]; simp] at CC
        refine wpT_call rfl rfl (fun K hK => ?_)
        go_wp2_with (go_at_call 97; refine (CC _ hRR).mono ?_; rintro e w4 ⟨v4, rfl, ho4, hn4, hm4⟩)
        obtain ⟨ao4, cap4, rfl, _, _⟩ := ho4.sl.form
        have hm24 := hm23.ext hm4
        have hR4 := hR2.ext hm24
        have hrc4 := hrc2.ext hm24
        have hP4 := hP2.ext hm24
        have c0 := hrc4.cell' (i := 0) rfl
        have c1 := Blk.cell' hR4 (i := 0) rfl
        refine wpT_n rfl rfl (fun K hK => ?_)
        go_wp2_with fail
        refine wpT_nil ?_
        go_wp2_with fail
        go_wp2_with (go_at_call 98; refine (WR _ _ hP4 (Ob.bs ho4) (fun x hx e => by have := hn4 x hx; have := hP2.lt0 p List.mem_cons_self; have := hm23.size; omega)).mono ?_; rintro e w5 ⟨rfl, hp5⟩)
        obtain ⟨L5, k1, k2, k3⟩ := hp5
        go_ret
        have hm05 : Mod (bc :: p :: L) W w5 := (hm02.ext hm24).then k2 (fun g hg => .inl (List.mem_cons_of_mem _ hg))
        have s0 := hm02.size
        have s2 := hm24.size
        exact ⟨L5, _, rfl, k1, (hbc2.ext hm24).mod k2 hdis, hsuf' hm05 hdb, hsb, hm05, fun x hx => (k3 x hx).imp id (fun h => by omega)⟩
      · skip
        rw [if_neg hct] at hsy
        refine wp_region_T [⟨0, true, []⟩, ⟨1, true, []⟩, ⟨2, true, []⟩, ⟨3, true, []⟩, ⟨4, true, []⟩, ⟨5, true, []⟩, ⟨6, true, []⟩, ⟨7, false, []⟩, ⟨8, false, []⟩, ⟨9, true, []⟩] (by kernel_rfl) (by kernel_rfl) ?_
        have hmD := Mod.drew [] w2
        obtain ⟨x, hx⟩ : ∃ x, x = w2.drew := ⟨_, rfl⟩
        rw [← hx] at hmD ⊢
        clear hx
        iterate 7 (refine wpT_n rfl rfl (fun K hK => ?_); go_wp2_with fail)
        refine wpT_e0 rfl rfl (fun K hK => ?_)
        refine wp_bslice stRow [.slice ao2 M cap2, .slice aob k capb, .slice (Option.map (fun x => x.add T) ao2) (z - T) (cap2 - T)] rfl (by decide) (by rfl) (by simp [Value.cells]) ?_
        intro g w3 hg1 hg2 hm3 hB3
        simp only [put_some, List.set_cons_succ, List.set_cons_zero]
        refine hK _ _ ?_
        clear hK K
        have hm23 := hmD.ext hm3
        have hpm := hpre' (hm02.ext hm23) hdb
        have hRR : RowsR w3 (.slice (some ⟨g, 0, none⟩) 3 3) [((.slice ao2 M cap2 : Value), B.take M), ((.slice aob k capb : Value), b1), ((.slice (Option.map (fun x => x.add T) ao2) (z - T) (cap2 - T) : Value), B.drop T)] := by
          refine ⟨(Ow.of_blk (rest := []) hB3 (Nat.le_refl _) (by omega) rfl rfl : Ow w3 33 1 (.slice (some ⟨g, 0, none⟩) 3 3) 3 [.slice ao2 M cap2, .slice aob k capb, .slice (Option.map (fun x => x.add T) ao2) (z - T) (cap2 - T)]).sl, fun x hx => ?_⟩
          simp only [List.mem_cons, List.not_mem_nil, or_false] at hx
          rcases hx with rfl | rfl | rfl
          · exact hsx.ext hm23
          · exact hpm
          · exact hsy.ext hm23
        have CC := fun w h => concat_any [((.slice ao2 M cap2 : Value), B.take M), ((.slice aob k capb : Value), b1), ((.slice (Option.map (fun x => x.add T) ao2) (z - T) (cap2 - T) : Value), B.drop T)] (.slice (some ⟨g, 0, none⟩) 3 3) w h (by simp) (by simp [H2.out.2.2.2.2.1, hkl]; omega)
        rw [show ([((.slice ao2 M cap2 : Value), B.take M), ((.slice aob k capb : Value), b1), ((.slice (Option.map (fun x => x.add T) ao2) (z - T) (cap2 - T) : Value), B.drop T)].flatMap (·.2)) = X from by rw [H2.out.2.2.2.2.2.1]; simp] at CC
        refine wpT_call rfl rfl (fun K hK => ?_)
        go_wp2_with (go_at_call 97; refine (CC _ hRR).mono ?_; rintro e w4 ⟨v4, rfl, ho4, hn4, hm4⟩)
        obtain ⟨ao4, cap4, rfl, _, _⟩ := ho4.sl.form
        have hm24 := hm23.ext hm4
        have hR4 := hR2.ext hm24
        have hrc4 := hrc2.ext hm24
        have hP4 := hP2.ext hm24
        have c0 := hrc4.cell' (i := 0) rfl
        have c1 := Blk.cell' hR4 (i := 0) rfl
        refine wpT_n rfl rfl (fun K hK => ?_)
        go_wp2_with fail
        refine wpT_nil ?_
        go_wp2_with fail
        go_wp2_with (go_at_call 98; refine (WR _ _ hP4 (Ob.bs ho4) (fun x hx e => by have := hn4 x hx; have := hP2.lt0 p List.mem_cons_self; have := hm23.size; omega)).mono ?_; rintro e w5 ⟨rfl, hp5⟩)
        obtain ⟨L5, k1, k2, k3⟩ := hp5
        go_ret
        have hm05 : Mod (bc :: p :: L) W w5 := (hm02.ext hm24).then k2 (fun g hg => .inl (List.mem_cons_of_mem _ hg))
        have s0 := hm02.size
        have s2 := hm24.size
        exact ⟨L5, _, rfl, k1, (hbc2.ext hm24).mod k2 hdis, hsuf' hm05 hdb, hsb, hm05, fun x hx => (k3 x hx).imp id (fun h => by omega)⟩
  · have hkz : k = z := by omega
    have eC : wrC v S M T z b1 = if v.go = true then (v.wr S b1, 0) else (v.md, 60) := by unfold wrC; rw [if_neg (by omega)]
    rw [eC, wr_e]
    clear eC
    have hw0 := writeE_ok (m := v.m) hS (show b1.length = v.m.sz by rw [hkl, hkz, hz])
    have WR := fun w h hb => pWrite_any p q v L (S : Nat) b1 (.slice aob k capb) w h hb (fun x hx e => hdb x (by cases aob <;> exact hx) (by simp [e])) (by omega) hr
    rw [hw0] at WR
    obtain ⟨V, hV⟩ : ∃ V, V = v.wr S b1 := ⟨_, rfl⟩
    obtain ⟨E, hE'⟩ : ∃ V, V = v.e 0 := ⟨_, rfl⟩
    rw [← hV, ← hE'] at WR
    rw [← hV, ← hE']
    have y4 : ¬ ((k : Int) < z) := by omega
    have y5 : decide (k < z) = false := decide_eq_false hpart
    clear hb1 hb2 hk hlen hz hS hw0 hV hE' hpart hkz
    go_enter Tryz.func95, Tryz.ntmps95
    go_wp2_with (with_reducible refine st_store ?_)
    refine StopOp.go rfl fun K hK => ?_
    refine wp_store1 (by kernel_rfl) (by rfl) (u := .slice (Option.map (fun x => x.add k) aob) (b.length - k) (capb - k)) (by rfl) ⟨rfl, rfl⟩ hbc (by simp) ?_
    intro w1 hm1 hB1
    refine hK _ _ ?_
    clear hK K
    have hP1 := hP.keep0 hm1 (fun x hx hh => hdis (by have e : x = bc := (by simpa using hh); exact e ▸ hx))
    have hR1 := hR.mod hm1 (fun hh => hrL (by have e : r = bc := (by simpa using hh); simp [e]))
    have hrc1 := hrc.mod hm1 (fun hh => hrcL (by have e : rc = bc := (by simpa using hh); simp [e]))
    clear c0 c1 c3 d0
    have c0 := hrc1.cell' (i := 0) rfl
    have c1 := Blk.cell' hR1 (i := 0) rfl
    have c3 := Blk.cell' hR1 (i := 3) rfl
    have hp1 := hpre' hm1 (fun x hx hh => hdb x hx (by simp at hh; simp [hh]))
    go_wp2_with (go_at_call 98; (with_reducible refine (WR _ hP1 hp1).mono ?_); rintro e w2 ⟨rfl, hp2⟩)
    obtain ⟨L2, k1, k2, k3⟩ := hp2
    go_ret
    have hm02 : Mod (bc :: p :: L) W w2 := (hm1.weak (by simp)).then k2 (fun g hg => .inl (List.mem_cons_of_mem _ hg))
    have s1 := hm1.size
    exact ⟨L2, _, rfl, k1, Blk.mod hB1 k2 hdis, hsuf' hm02 hdb, hsb, hm02, fun x hx => (k3 x hx).imp id (fun h => by omega)⟩
end Go.Proofs.YtfepggdljhiemaaGreatDoor

/-! Regions: Write. -/
namespace Go.Proofs.YtfepggdljhiemaaGreatDoor
open Go.RowKit Gw

theorem wrM_sz (m : Dm) (a : Int) (l : List UInt8) : (wrM m a l).sz = m.sz ∧ (wrM m a l).dur.length = m.dur.length ∧ (wrM m a l).row.length ≤ m.row.length + 1 := by
  unfold wrM
  split
  · exact ⟨rfl, rfl, by unfold Dm.write; simp⟩
  · exact ⟨rfl, rfl, by omega⟩
theorem wr_sz (v : Pv) (a : Int) (l : List UInt8) : (v.wr a l).m.sz = v.m.sz ∧ (v.wr a l).m.dur.length = v.m.dur.length ∧ (v.wr a l).m.row.length ≤ v.m.row.length + 1 ∧ (v.wr a l).n ≤ v.n + 1 := by
  have h := md_n2 v
  have e := v.md_m
  unfold Pv.wr
  split
  · obtain ⟨h1, h2, h3⟩ := wrM_sz v.m a l
    exact ⟨h1, h2, h3, h⟩
  · rw [e]
    exact ⟨rfl, rfl, by omega, h⟩
theorem wrC_sz (v : Pv) (S M T z : Nat) (x : List UInt8) : (wrC v S M T z x).1.m.sz = v.m.sz ∧ (wrC v S M T z x).1.m.dur.length = v.m.dur.length ∧ (wrC v S M T z x).1.m.row.length ≤ v.m.row.length + 1 ∧ (wrC v S M T z x).1.n ≤ v.n + 2 := by
  have h := md_n2 v
  have e := v.md_m
  have h' := md_n2 v.md
  have e' := v.md.md_m
  unfold wrC
  split
  · split
    · split
      · obtain ⟨h1, h2, h3, h4⟩ := wr_sz v.md S ((v.m.read S).take M ++ x ++ (v.m.read S).drop T)
        rw [e] at h1 h2 h3
        exact ⟨h1, h2, h3, by dsimp only; omega⟩
      · dsimp only
        rw [e', e]
        exact ⟨rfl, rfl, by omega, by omega⟩
    · dsimp only
      rw [e]
      exact ⟨rfl, rfl, by omega, by omega⟩
  · split
    · obtain ⟨h1, h2, h3, h4⟩ := wr_sz v S x
      exact ⟨h1, h2, h3, by dsimp only; omega⟩
    · dsimp only
      rw [e]
      exact ⟨rfl, rfl, by omega, by omega⟩
theorem wr1_any (r p q f c z rc bc S M T k : Nat) (v : Pv) (L : List Nat) (b : List UInt8) (bv0 : Value) (W : World) (hP : Pd W p q v L) (hR : Rgn W r p f c z) (hrc : Blk W rc 23 [.pointer (some ⟨r, 0, none⟩)]) (hbc : Blk W bc 33 [bv0]) (hb : Bs W bv0 b)
    (hS : S < v.m.dur.length) (hz : v.m.sz = z) (hMT : M < T) (hTz : T ≤ z) (hk : k = T - M) (hbl : k ≤ b.length) (hbl2 : b.length ≤ 1000000) (hn : v.n + 2 ≤ 1000000) (hr : v.m.row.length ≤ 1000000) (hdis : bc ∉ p :: L) (hdb : ∀ x ∈ blks bv0, x ∉ bc :: p :: L) (hrL : r ∉ bc :: p :: L) (hrcL : rc ∉ bc :: p :: L) :
    Calls Tryz.prog 95 #[.int .i64 (S : Nat), .int .i64 (M : Nat), .int .i64 (T : Nat), .pointer (some ⟨bc, 0, none⟩), .pointer (some ⟨rc, 0, none⟩)] W (Wr1P W p q bc bv0 b k L (wrC v S M T z (b.take k))) := by
  obtain ⟨ao, cap, rfl, _, _⟩ := hb.form
  by_cases h : k = cap
  · exact wr1a_any r p q f c z rc bc S M T k v L b ao cap W hP hR hrc hbc hb hS hz hMT hTz hk hbl hbl2 hn hr hdis hdb hrL hrcL h
  · exact wr1b_any r p q f c z rc bc S M T k v L b ao cap W hP hR hrc hbc hb hS hz hMT hTz hk hbl hbl2 hn hr hdis hdb hrL hrcL (fun e => h e.symm)
/-- what stands while Write goes -/
def WrJ (w : World) (r p q f c z rc bc : Nat) (B0 : List Nat) (L : List Nat) (e n0 r0 : Nat) (R0 : Pv × Int) (a : Nat) (W : World) : Prop :=
  ∃ v b bv' L', Pd W p q v L' ∧ Rgn W r p f c z ∧ Blk W rc 23 [.pointer (some ⟨r, 0, none⟩)] ∧ Blk W bc 33 [bv'] ∧ Bs W bv' b ∧ (∀ x ∈ blks bv', x ∈ B0) ∧ v.m.sz = z ∧ f + c ≤ v.m.dur.length ∧ v.n ≤ n0 + 2 * a ∧ v.m.row.length ≤ r0 + a ∧ b.length = e - a ∧ a ≤ e ∧ wrG f z v a e b = R0 ∧ Mod (p :: L) w W ∧ (∀ x ∈ L', x ∈ L ∨ w.heap.size ≤ x) ∧ bc ∉ L' ∧ rc ∉ L'
def WrX (w : World) (p q : Nat) (L : List Nat) (R0 : Pv × Int) (E : Int) (W : World) : Prop := E = R0.2 ∧ PdP w p q R0.1 L W
/-- what Write answers -/
def wrA (f c z : Nat) (v : Pv) (a : Int) (b : List UInt8) : Pv × Int := if hold (c * z) a b.length = true then wrG f z v a.toNat (a.toNat + b.length) b else (v, 2)
theorem wrG_ok {f z : Nat} {v : Pv} {a e : Nat} {b : List UInt8} (h : a < e) (hz : 0 < z) (h0 : (wrC v (f + a / z) (a % z) (toC z a e) z (b.take (toC z a e - a % z))).2 = 0) : wrG f z v a e b = wrG f z (wrC v (f + a / z) (a % z) (toC z a e) z (b.take (toC z a e - a % z))).1 (nxt z a e) e (b.drop (toC z a e - a % z)) := by
  rw [wrG, dif_pos ⟨h, hz⟩, if_pos h0]
theorem wrG_no {f z : Nat} {v : Pv} {a e : Nat} {b : List UInt8} (h : a < e) (hz : 0 < z) (h0 : (wrC v (f + a / z) (a % z) (toC z a e) z (b.take (toC z a e - a % z))).2 ≠ 0) : wrG f z v a e b = wrC v (f + a / z) (a % z) (toC z a e) z (b.take (toC z a e - a % z)) := by
  rw [wrG, dif_pos ⟨h, hz⟩, if_neg h0]
theorem wrG_end {f z : Nat} {v : Pv} {a : Nat} {b : List UInt8} : wrG f z v a a b = (v, 0) := by
  rw [wrG, dif_neg (by omega)]
set_option maxHeartbeats 4000000 in
theorem wrJ_step (w : World) (r p q f c z rc bc : Nat) (B0 : List Nat) (L : List Nat) (e n0 r0 : Nat) (R0 : Pv × Int) (hL : ∀ k ∈ p :: L, k < w.heap.size) (hrc : w.heap.size ≤ rc) (hbc : w.heap.size ≤ bc) (hrbc : rc ≠ bc) (hr : r < w.heap.size) (hrp : r ∉ p :: L) (hB : ∀ x ∈ B0, x < w.heap.size ∧ x ∉ p :: L) (he : e ≤ c * z) (hn0 : n0 + 2 * (c * z) ≤ 1000000) (hr0 : r0 + c * z ≤ 1000000) (hz : 0 < z)
    (a : Nat) (W : World) (hJ : WrJ w r p q f c z rc bc B0 L e n0 r0 R0 a W) (ha : a < e) :
    Calls Tryz.prog 95 #[.int .i64 ((f + a / z : Nat) : Int), .int .i64 ((a % z : Nat) : Int), .int .i64 ((toC z a e : Nat) : Int), .pointer (some ⟨bc, 0, none⟩), .pointer (some ⟨rc, 0, none⟩)] W fun e' W' => ∃ E, e' = .returned (.int .i64 E) ∧ (E = 0 → WrJ w r p q f c z rc bc B0 L e n0 r0 R0 (nxt z a e) W') ∧ (E ≠ 0 → WrX w p q L R0 E W') := by
  obtain ⟨v, b, bv', L', hP, hR, hrcB, hbcB, hb, hbl, hsz, hfc, hvn, hvr, hble, hae, hwr, hm, hL', hbL, hrL⟩ := hJ
  have hac : a / z < c := (Nat.div_lt_iff_lt_mul hz).2 (by omega)
  have h1 := toC_gt ha hz
  have h2 := toC_le z a e
  have h3 := nxt_gt ha hz
  have h4 := nxt_le (z := z) hae
  have h5 : nxt z a e = a + (toC z a e - a % z) := rfl
  have hp := hL p List.mem_cons_self
  have hpL : ∀ x, x < w.heap.size → x ∉ p :: L → x ∉ p :: L' := fun x hx hx2 hh => by
    rcases List.mem_cons.1 hh with h | h
    · exact hx2 (by simp [h])
    · rcases hL' x h with h | h
      · exact hx2 (by simp [h])
      · omega
  have hdis : bc ∉ p :: L' := fun hh => (List.mem_cons.1 hh).elim (fun e => by omega) hbL
  refine (wr1_any r p q f c z rc bc (f + a / z) (a % z) (toC z a e) (toC z a e - a % z) v L' b bv' W hP hR hrcB hbcB hb (by omega) hsz h1 h2 rfl (by omega) (by omega) (by omega) (by omega) hdis
    (fun x hx hh => ?_) (fun hh => ?_) (fun hh => ?_)).mono fun e' W' hh => ?_
  · obtain ⟨g1, g2⟩ := hB x (hbl x hx)
    rcases List.mem_cons.1 hh with h | h
    · omega
    · exact hpL x g1 g2 h
  · rcases List.mem_cons.1 hh with h | h
    · omega
    · exact hpL r hr hrp h
  · rcases List.mem_cons.1 hh with h | h
    · exact hrbc h
    · exact (List.mem_cons.1 h).elim (fun e => by omega) hrL
  · obtain ⟨L2, bv2, rfl, hP2, hbc2, hb2, hbb, hm2, hL2⟩ := hh
    obtain ⟨g1, g2, g3, g4⟩ := wrC_sz v (f + a / z) (a % z) (toC z a e) z (b.take (toC z a e - a % z))
    have hmW : Mod (p :: L) w W' := hm.then hm2 (fun g hg => by
      rcases List.mem_cons.1 hg with h | h
      · exact .inr (by omega)
      · rcases List.mem_cons.1 h with h | h
        · exact .inl (by simp [h])
        · exact (hL' g h).imp (fun h => List.mem_cons_of_mem _ h) id)
    have hs := hm.size
    have hLL : ∀ x ∈ L2, x ∈ L ∨ w.heap.size ≤ x := fun x hx => (hL2 x hx).elim (hL' x) (fun h => .inr (by omega))
    have hrn : r ∉ bc :: p :: L' := fun hh => (List.mem_cons.1 hh).elim (fun e => by omega) (hpL r hr hrp)
    have hrcn : rc ∉ bc :: p :: L' := fun hh => (List.mem_cons.1 hh).elim hrbc (fun h => (List.mem_cons.1 h).elim (fun e => by omega) hrL)
    refine ⟨_, rfl, fun h0 => ?_, fun h0 => ⟨by rw [← hwr, wrG_no ha hz h0], ⟨L2, by rw [← hwr, wrG_no ha hz h0]; exact hP2, hmW, hLL⟩⟩⟩
    refine ⟨_, _, bv2, L2, hP2, hR.mod hm2 hrn, hrcB.mod hm2 hrcn, hbc2, hb2, fun x hx => hbl x (hbb x hx), by rw [g1]; exact hsz, by rw [g2]; exact hfc, by omega, by omega, by rw [List.length_drop]; omega, h4, by rw [← wrG_ok ha hz h0]; exact hwr, hmW, hLL, fun hh => ?_, fun hh => ?_⟩
    · rcases hL2 _ hh with h | h
      · exact hbL h
      · have := Blk.lt hbcB; omega
    · rcases hL2 _ hh with h | h
      · exact hrL h
      · have := Blk.lt hrcB; omega
def GWrP (w : World) (p q : Nat) (L : List Nat) (R : Pv × Int) (e : Ending) (w' : World) : Prop := e = .returned (.int .i64 R.2) ∧ PdP w p q R.1 L w'
set_option maxRecDepth 1000000 in
set_option maxHeartbeats 8000000 in
theorem gWrite_any (r p q f c z : Nat) (v : Pv) (L : List Nat) (a : Int) (b : List UInt8) (bw : Value) (w : World) (hP : Pd w p q v L) (hR : Rgn w r p f c z) (hb : Bs w bw b) (hz : v.m.sz = z) (hfc : f + c ≤ v.m.dur.length) (hn : v.n + 2 * (c * z) ≤ 1000000) (hrow : v.m.row.length + c * z ≤ 1000000) (ha : i64 a) (hrL : r ∉ p :: L) (hbB : ∀ x ∈ blks bw, x < w.heap.size ∧ x ∉ p :: L) :
    Calls Tryz.prog 39 #[.pointer (some ⟨r, 0, none⟩), .int .i64 a, bw] w (GWrP w p q L (wrA f c z v a b)) := by
  obtain ⟨aob, capb, rfl, hcb, hcb2⟩ := hb.form
  have hs1 := hP.ok.m.s1
  have hs2 := hP.ok.m.s2
  have hn2 := hP.ok.m.n2
  rw [hz] at hs1 hs2
  have MA := fun w h => gmade_yes r p f c z w h
  have HO := fun w h => gholds_any r p f c z a b.length w h (by omega) ha ⟨by omega, by omega⟩
  obtain ⟨hh, hhe⟩ : ∃ x, x = hold (c * z) a b.length := ⟨_, rfl⟩
  rw [← hhe] at HO
  unfold wrA
  rw [← hhe]
  cases hh with
  | false =>
    rw [if_neg (by decide)]
    clear hhe
    go_enter Tryz.func39, Tryz.ntmps39
    go_wp2_with (with_reducible refine st_box ?_)
    refine StopOp.go rfl fun K hK => ?_
    refine wp_box (v := .pointer (some ⟨r, 0, none⟩)) (by rfl) ?_
    intro t w1 ht1 ht2 hm1 hT
    simp only [put_some, List.set_cons_succ, List.set_cons_zero]
    refine hK _ _ ?_
    clear hK K
    go_wp2_with (with_reducible refine st_box ?_)
    refine StopOp.go rfl fun K hK => ?_
    refine wp_box (v := .slice aob b.length capb) (by rfl) ?_
    intro u w2 hu1 hu2 hm2 hU
    simp only [put_some, List.set_cons_succ, List.set_cons_zero]
    refine hK _ _ ?_
    clear hK K
    have hT1 : Blk w1 t 23 [.pointer (some ⟨r, 0, none⟩)] := hT
    have hU2 : Blk w2 u 33 [.slice aob b.length capb] := hU
    have hT2 := hT1.ext hm2
    have hm02 := hm1.ext hm2
    have hR2 := hR.ext hm02
    have c0 := hT2.cell' (i := 0) rfl
    go_wp2_with (go_at_call 83; (with_reducible refine (MA _ hR2).mono ?_); rintro e w3 ⟨rfl, rfl⟩)
    refine wp_region_T [⟨0, true, []⟩, ⟨1, true, []⟩, ⟨2, true, []⟩, ⟨3, true, []⟩, ⟨4, true, []⟩, ⟨5, true, []⟩, ⟨6, false, []⟩, ⟨7, true, []⟩, ⟨8, true, []⟩] (by kernel_rfl) (by kernel_rfl) ?_
    have hmD := Mod.drew [] w2
    obtain ⟨x, hx⟩ : ∃ x, x = w2.drew := ⟨_, rfl⟩
    rw [← hx] at hmD ⊢
    clear hx c0
    have hT3 := hT2.ext hmD
    have hU3 := hU2.ext hmD
    have c0 := hT3.cell' (i := 0) rfl
    have c5 := hU3.cell' (i := 0) rfl
    iterate 6 (refine wpT_n rfl rfl (fun K hK => ?_); go_wp2_with fail)
    refine wpT_call rfl rfl (fun K hK => ?_)
    go_wp2_with (go_at_call 93; refine (HO _ (hR2.ext hmD)).mono ?_; rintro e w4 ⟨rfl, hm4⟩)
    iterate 2 (refine wpT_n rfl rfl (fun K hK => ?_); go_wp2_with fail)
    refine wpT_nil ?_
    go_wp2_with fail
    go_ret
    have hm04 := (hm02.ext hmD).ext hm4
    exact ⟨rfl, L, hP.ext hm04, hm04.weak (by simp), fun x hx => .inl hx⟩
  | true =>
    rw [if_pos rfl]
    obtain ⟨g1, g2, g3, g4⟩ := of_decide_eq_true hhe.symm
    obtain ⟨a', rfl⟩ := Int.eq_ofNat_of_zero_le g1
    obtain ⟨n', hn'⟩ : ∃ n, n = b.length := ⟨_, rfl⟩
    rw [← hn'] at HO g2 g4 hcb ⊢
    rw [← hn'] at hb
    rw [← hn'] at hbB
    have hle : a' + n' ≤ c * z := by omega
    rw [Int.toNat_natCast]
    obtain ⟨R0, hR0⟩ : ∃ R, R = wrG f z v a' (a' + n') b := ⟨_, rfl⟩
    rw [← hR0]
    have hcz : c * z ≤ 1000000 := by omega
    have H0 := Lib.hid (And.intro hR0 (And.intro hle (And.intro hz (And.intro hfc (And.intro hn (And.intro hcz (And.intro hrow hn')))))))
    have y1 : (a' : Int) ≤ 1000000 := by omega
    have y2 : (n' : Int) ≤ 1000000 := by omega
    have y3 : (n' : Int) ≤ capb := by omega
    clear hhe g1 g2 g3 g4 hR0 hle hz hfc hn hcz ha hn' hrow
    go_enter Tryz.func39, Tryz.ntmps39
    go_wp2_with (with_reducible refine st_box ?_)
    refine StopOp.go rfl fun K hK => ?_
    refine wp_box (v := .pointer (some ⟨r, 0, none⟩)) (by rfl) ?_
    intro t w1 ht1 ht2 hm1 hT
    simp only [put_some, List.set_cons_succ, List.set_cons_zero]
    refine hK _ _ ?_
    clear hK K
    go_wp2_with (with_reducible refine st_box ?_)
    refine StopOp.go rfl fun K hK => ?_
    refine wp_box (v := .slice aob n' capb) (by rfl) ?_
    intro u w2 hu1 hu2 hm2 hU
    simp only [put_some, List.set_cons_succ, List.set_cons_zero]
    refine hK _ _ ?_
    clear hK K
    have hT1 : Blk w1 t 23 [.pointer (some ⟨r, 0, none⟩)] := hT
    have hU2 : Blk w2 u 33 [.slice aob n' capb] := hU
    have hT2 := hT1.ext hm2
    have hm02 := hm1.ext hm2
    have hR2 := hR.ext hm02
    have c0 := hT2.cell' (i := 0) rfl
    go_wp2_with (go_at_call 83; (with_reducible refine (MA _ hR2).mono ?_); rintro e w3 ⟨rfl, rfl⟩)
    refine wp_region_T [⟨0, true, []⟩, ⟨1, true, []⟩, ⟨2, true, []⟩, ⟨3, true, []⟩, ⟨4, true, []⟩, ⟨5, true, []⟩, ⟨6, false, []⟩, ⟨7, true, []⟩, ⟨8, true, []⟩] (by kernel_rfl) (by kernel_rfl) ?_
    have hmD := Mod.drew [] w2
    obtain ⟨x, hx⟩ : ∃ x, x = w2.drew := ⟨_, rfl⟩
    rw [← hx] at hmD ⊢
    clear hx c0
    have hT3 := hT2.ext hmD
    have hU3 := hU2.ext hmD
    have c0 := hT3.cell' (i := 0) rfl
    have c5 := hU3.cell' (i := 0) rfl
    iterate 6 (refine wpT_n rfl rfl (fun K hK => ?_); go_wp2_with fail)
    refine wpT_call rfl rfl (fun K hK => ?_)
    go_wp2_with (go_at_call 93; refine (HO _ (hR2.ext hmD)).mono ?_; rintro e w4 ⟨rfl, hm4⟩)
    clear c0 c5
    iterate 2 (refine wpT_n rfl rfl (fun K hK => ?_); go_wp2_with fail)
    refine wpT_nil ?_
    go_wp2_with fail
    refine wp_region_T [⟨0, true, []⟩, ⟨1, true, []⟩, ⟨2, true, []⟩, ⟨3, true, []⟩, ⟨4, true, []⟩, ⟨5, true, []⟩, ⟨6, true, []⟩, ⟨7, false, []⟩, ⟨8, true, []⟩] (by kernel_rfl) (by kernel_rfl) ?_
    have hmE := hm4.ext (Mod.drew [] w4)
    obtain ⟨y, hy⟩ : ∃ y, y = w4.drew := ⟨_, rfl⟩
    rw [← hy] at hmE ⊢
    clear hy
    have hT5 := hT3.ext hmE
    have hU5 := hU3.ext hmE
    have hm05 := (hm02.ext hmD).ext hmE
    have c0 := hT5.cell' (i := 0) rfl
    have c5 := hU5.cell' (i := 0) rfl
    have s1 := hm1.size
    have s2 := hm2.size
    have htlt := hT1.lt
    have hJ0 : WrJ w r p q f c z t u (blks (.slice aob n' capb)) L (a' + n') v.n v.m.row.length R0 a' y := ⟨v, b, .slice aob n' capb, L, hP.ext hm05, hR.ext hm05, hT5, hU5, hb.ext hm05, fun _ h => h, H0.out.2.2.1, H0.out.2.2.2.1, by omega, by omega, by rw [← H0.out.2.2.2.2.2.2.2]; omega, by omega, H0.out.1.symm, hm05.weak (by simp), fun _ h => .inl h, fun h => by have := hP.lt0 u (List.mem_cons_of_mem _ h); omega, fun h => by have := hP.lt0 t (List.mem_cons_of_mem _ h); omega⟩
    have EA := fun w' h0 => eachW_any r p f c z (some ⟨u, 0, none⟩) (some ⟨t, 0, none⟩) a' n' (WrJ w r p q f c z t u (blks (.slice aob n' capb)) L (a' + n') v.n v.m.row.length R0) (WrX w p q L R0) w' (by omega) hs2 (by have := H0.out.2.2.2.1; omega) (by omega) h0 (fun a W hJ => by obtain ⟨_, _, _, _, _, h, _⟩ := hJ; exact h)
      (fun a W hJ _ hlt => wrJ_step w r p q f c z t u (blks (.slice aob n' capb)) L (a' + n') v.n v.m.row.length R0 hP.lt0 ht1 (by omega) (by omega) hR.lt hrL hbB H0.out.2.1 H0.out.2.2.2.2.1 H0.out.2.2.2.2.2.2.1 (by omega) a W hJ hlt)
    clear hT1 hm1 hm2 MA HO
    iterate 7 (refine wpT_n rfl rfl (fun K hK => ?_); go_wp2_with fail)
    refine wpT_call rfl rfl (fun K hK => ?_)
    go_wp2_with (go_at_call 94; refine (EA _ hJ0).mono ?_; rintro e w6 ⟨E, rfl, hE0, hE1⟩)
    refine wpT_n rfl rfl (fun K hK => ?_)
    go_wp2_with fail
    refine wpT_nil ?_
    go_wp2_with fail
    go_ret
    by_cases hE : E = 0
    · subst hE
      obtain ⟨v', b', bv', L', hP', _, _, _, _, _, _, _, _, _, _, _, hwr', hm', hL', _, _⟩ := hE0 rfl
      rw [wrG_end] at hwr'
      rw [← hwr']
      exact ⟨rfl, L', hP', hm', hL'⟩
    · obtain ⟨rfl, hX⟩ := hE1 hE
      exact ⟨rfl, hX⟩
end Go.Proofs.YtfepggdljhiemaaGreatDoor
