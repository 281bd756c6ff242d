import Derived.Test.YtkedbphdflhhlaaDkE
import Derived.Test.YtkedbphdflhhlaaDkJ
/-! DiskMade. -/
set_option linter.unusedVariables false
set_option linter.unusedSimpArgs false
set_option maxRecDepth 100000
namespace Go.Proofs.Ytkedbphdflhhlaa
open Go.RowKit Gw

def newO (s z : Int) : Option Dm := if mayD s z = true then some (mkD s.toNat z.toNat) else none
theorem dnewG (s z : Int) (M : Option Dm) (w : World) (hM : M = newO s z) : Calls Try.prog 35 #[.int .i64 s, .int .i64 z] w fun e w' => ∃ a L, e = .returned (.tuple #[.pointer a, .int .i64 (oE M)]) ∧ Ld w' (.pointer a) M L ∧ Mod [] w w' ∧ (a = none ↔ M = none) := by
  subst hM
  unfold newO
  cases h : mayD s z with
  | true =>
    obtain ⟨h1, _, h2, _⟩ := mayD_parts h
    obtain ⟨s', rfl⟩ := Int.eq_ofNat_of_zero_le (show 0 ≤ s by omega)
    obtain ⟨z', rfl⟩ := Int.eq_ofNat_of_zero_le (show 0 ≤ z by omega)
    refine (dnew_yes s' z' w h).mono fun e w' ⟨p, L, he, h1, h2, h3⟩ => ⟨some ⟨p, 0, none⟩, L, ?_, ?_, h3, by simp⟩
    · rw [he]; rfl
    · exact ⟨p, rfl, h1, mkD_ok h⟩
  | false => exact (dnew_no s z w h).mono fun e w' ⟨he, hw⟩ => ⟨none, [], he, ⟨.inl rfl, by simp [blks]⟩, hw ▸ Mod.refl _ _, by simp⟩
def inV (x : Nat × Nat × List UInt8) : Value := .slice (some ⟨x.1, 0, none⟩) x.2.2.length x.2.1
def inR (Q : List (Nat × Nat × List UInt8)) : List (Value × List UInt8) := Q.map fun x => (inV x, x.2.2)
/-- lent rows of one's own -/
structure Ins (W w : World) (v : Value) (Q : List (Nat × Nat × List UInt8)) (j : Nat) : Prop where
  ow : Ow w 23 1 v Q.length (Q.map inV)
  lt : ∀ i (hi : i < Q.length), j ≤ i → Lt w Q[i].1 Q[i].2.1 Q[i].2.2
  nw : ∀ x ∈ Q, W.heap.size ≤ x.1 ∧ x.1 < w.heap.size ∧ x.1 ∉ blks v
  nv : ∀ k ∈ blks v, W.heap.size ≤ k
  dj : ∀ i j (hi : i < Q.length) (hj : j < Q.length), i ≠ j → Q[i].1 ≠ Q[j].1
section
variable {W w w' w1 w2 w3 : World} {v v' : Value} {Q : List (Nat × Nat × List UInt8)} {j : Nat}
theorem Ins.ext (h : Ins W w v Q j) (hm : Mod [] w w') : Ins W w' v Q j :=
  ⟨h.ow.ext hm, fun i hi hj => (h.lt i hi hj).ext hm, fun x hx => ⟨(h.nw x hx).1, Nat.lt_of_lt_of_le (h.nw x hx).2.1 hm.size, (h.nw x hx).2.2⟩, h.nv, h.dj⟩
theorem Ins.rows (h : Ins W w v Q 0) : RowsR w v (inR Q) := by
  refine ⟨?_, fun p hp => ?_⟩
  · have := h.ow.sl
    unfold inR
    rw [List.length_map, List.map_map]
    exact this
  · obtain ⟨x, hx, rfl⟩ := List.mem_map.1 hp
    obtain ⟨i, hi, rfl⟩ := List.getElem_of_mem hx
    exact (h.lt i hi (Nat.zero_le _)).bs
theorem Ins.snoc {g cap : Nat} {l : List UInt8} (h : Ins W w v Q 0) (hW : W.heap.size ≤ w.heap.size) (hg : w.heap.size ≤ g) (hm1 : Mod [] w w1) (hlt : Lt w1 g cap l) (hm2 : Mod [] w1 w2) (hO : Ow w3 23 1 v' (Q.length + 1) (Q.map inV ++ [inV (g, cap, l)])) (hm3 : Mod (blks v) w2 w3)
    (hb : ∀ k ∈ blks v', k ∈ blks v ∨ w2.heap.size ≤ k) : Ins W w3 v' (Q ++ [(g, cap, l)]) 0 := by
  have h2 := h.ext (hm1.ext hm2)
  have hlt2 := hlt.ext hm2
  have s1 := hm1.size
  have s2 := hm2.size
  have s3 := hm3.size
  have hg2 : g < w1.heap.size := by obtain ⟨_, hb, _⟩ := hlt; exact hb.lt
  have hgv : ∀ x cap l, Lt w2 x cap l → x ∉ blks v := fun x cap l hl => by
    obtain ⟨_, hb, _⟩ := hl
    exact Ow.ne h2.ow hb (by decide)
  refine ⟨by simpa using hO, fun i hi _ => ?_, fun x hx => ?_, fun k hk => (hb k hk).elim (h.nv k) (fun h => by omega), fun i j hi hj hij => ?_⟩
  · rw [List.getElem_append]
    split
    · rename_i hi'
      have := h2.lt i hi' (Nat.zero_le _)
      exact this.mod hm3 (hgv _ _ _ this)
    · have e : i - Q.length = 0 := by simp at hi; omega
      simp only [e]
      exact hlt2.mod hm3 (hgv _ _ _ hlt2)
  · rcases List.mem_append.1 hx with hx | hx
    · obtain ⟨a1, a2, a3⟩ := h.nw x hx
      exact ⟨a1, by omega, fun hh => (hb _ hh).elim a3 (fun h => by omega)⟩
    · have : x = (g, cap, l) := by simpa using hx
      subst this
      exact ⟨by dsimp only; omega, by dsimp only; omega, fun hh => (hb _ hh).elim (hgv _ _ _ hlt2) (fun h => by dsimp only at h; omega)⟩
  · have key : ∀ i (hi : i < Q.length), Q[i].1 ≠ g := fun i hi he => by have := (h.nw _ (List.getElem_mem hi)).2.1; omega
    rw [List.getElem_append, List.getElem_append]
    have hi2 := hi
    have hj2 := hj
    simp at hi2 hj2
    split
    · split
      · exact h.dj _ _ _ _ hij
      · have e : j - Q.length = 0 := by omega
        simp only [e]
        exact key _ _
    · split
      · have e : i - Q.length = 0 := by omega
        simp only [e]
        exact (key _ _).symm
      · omega
/-- the first of them is written over -/
theorem Ins.over (h : Ins W w v Q j) (hj : j < Q.length) (hm : Mod [Q[j].1] w w') : Ins W w' v Q (j + 1) := by
  refine ⟨h.ow.mod hm fun b hb hh => ?_, fun i hi hij => (h.lt i hi (by omega)).mod hm ?_, fun x hx => ⟨(h.nw x hx).1, Nat.lt_of_lt_of_le (h.nw x hx).2.1 hm.size, (h.nw x hx).2.2⟩, h.nv, h.dj⟩
  · have : b = Q[j].1 := by simpa using hh
    subst this
    exact (h.nw _ (List.getElem_mem hj)).2.2 hb
  · simpa using h.dj i j hi hj (by omega)
end
theorem inR_snd (Q : List (Nat × Nat × List UInt8)) : (inR Q).map (·.2) = Q.map (·.2.2) := by unfold inR; rw [List.map_map]; rfl
set_option maxRecDepth 1000000 in
set_option maxHeartbeats 8000000 in
theorem diskMade_core (s z : Int) (iv : Value) (I : List (Value × List UInt8)) (W : World) (hI : RowsR W iv I) (hIl : ∀ p ∈ I, p.2.length ≤ 1048576) :
    Calls Try.prog 14 #[.int .i64 s, .int .i64 z, iv] W fun e w' => e = .returned (.bool true) ∧ Mod [] W w' := by
  obtain ⟨aoi, capi, rfl, hci, hci2⟩ := hI.1.form
  have AW := fun w => dkawake_any w
  obtain ⟨M, hM⟩ : ∃ M, M = newO s z := ⟨_, rfl⟩
  have DN := fun w => dnewG s z M w hM
  have HM := Lib.hid hM
  clear hM
  obtain ⟨E, hE⟩ : ∃ E, E = oE M := ⟨_, rfl⟩
  rw [← hE] at DN
  have HE := Lib.hid hE
  clear hE
  have nneq := nil_neq
  have bn1 := fun w => (bool_neq w).1
  have bn2 := fun w => (bool_neq w).2
  go_enter Try.func14, Try.ntmps14
  go_upto_region 4 with (first
                | (go_at_call 34; (with_reducible refine (AW _).mono ?_); rintro e w1 ⟨rfl, hm1⟩)
                | (go_at_call 35; (with_reducible refine (DN _).mono ?_); rintro e w2 ⟨a, L2, rfl, hD2, hm2, ha⟩))
  have hM2 := hm1.ext hm2
  have HA := Lib.hid ha
  clear AW DN hm1 hm2 ha
  go_cut [44] (fun u wx => u = .bool false ∧ w2 = wx)
  case first =>
    cases hmay : mayD s z with
    | true =>
      have MY := fun w => rmay_any s z true w hmay
      have hMM : M = some (mkD s.toNat z.toNat) := by rw [HM.out]; unfold newO; rw [if_pos hmay]
      obtain ⟨ad, rfl⟩ := Option.ne_none_iff_exists'.1 (fun hh => by have := HA.out.1 hh; rw [hMM] at this; cases this)
      have ho : E = 0 := by rw [HE.out, hMM]; rfl
      have x1 : (E == 0) = true := by rw [ho]; rfl
      have x2 : (E != 0) = false := by rw [ho]; rfl
      clear hmay hMM ho hD2
      go_wp2_with (go_at_call 59; (with_reducible refine (MY _).mono ?_); rintro e w3 ⟨rfl, rfl⟩)
      go_meet
      exact ⟨rfl, rfl⟩
    | false =>
      have MY := fun w => rmay_any s z false w hmay
      have hMM : M = none := by rw [HM.out]; unfold newO; rw [hmay, if_neg (by decide)]
      obtain rfl : a = none := HA.out.2 hMM
      have ho : E = 2 := by rw [HE.out, hMM]; rfl
      have x1 : (E == 0) = false := by rw [ho]; rfl
      have x2 : (E != 0) = true := by rw [ho]; rfl
      have x3 : (E != 2) = false := by rw [ho]; rfl
      clear hmay hMM ho hD2
      go_wp2_with (go_at_call 59; (with_reducible refine (MY _).mono ?_); rintro e w3 ⟨rfl, rfl⟩)
      go_meet
      exact ⟨rfl, rfl⟩
  case rest =>
  obtain ⟨rfl, rfl⟩ := hcut
  go_upto_region 6 with fail
  go_cut [63] (fun u wx => u = .bool false ∧ w2 = wx)
  case first =>
    cases hmay : mayD s z with
    | true =>
      have hMM : M = some (mkD s.toNat z.toNat) := by rw [HM.out]; unfold newO; rw [if_pos hmay]
      obtain ⟨h1, _, h2, _⟩ := mayD_parts hmay
      obtain ⟨ad, rfl⟩ := Option.ne_none_iff_exists'.1 (fun hh => by have := HA.out.1 hh; rw [hMM] at this; cases this)
      have S1 := fun w L h => dSec_any (.pointer (some ad)) M L w h
      have S2 := fun w L h => dSz_any (.pointer (some ad)) M L w h
      have S3 := fun w L h => dWt_any (.pointer (some ad)) M L w h
      have e1 : ((oSecs M : Nat) : Int) = s := by rw [hMM]; simp [oSecs, mkD]; omega
      have e2 : ((oSz M : Nat) : Int) = z := by rw [hMM]; simp [oSz, mkD]; omega
      have e3 : ((oRows M : Nat) : Int) = 0 := by rw [hMM]; simp [oRows, mkD]
      rw [e1] at S1
      rw [e2] at S2
      rw [e3] at S3
      clear hmay hMM e1 e2 e3 h1 h2
      go_wp2_with (first
                    | (go_at_call 65; (with_reducible refine (S1 _ _ hD2).mono ?_); rintro e w3 ⟨rfl, rfl⟩)
                    | (go_at_call 66; (with_reducible refine (S2 _ _ hD2).mono ?_); rintro e w3 ⟨rfl, rfl⟩)
                    | (go_at_call 55; (with_reducible refine (S3 _ _ hD2).mono ?_); rintro e w3 ⟨rfl, rfl⟩))
      go_meet
      exact ⟨rfl, rfl⟩
    | false =>
      have hMM : M = none := by rw [HM.out]; unfold newO; rw [hmay, if_neg (by decide)]
      obtain rfl : a = none := HA.out.2 hMM
      clear hmay hMM
      go_wp2_with fail
      go_meet
      exact ⟨rfl, rfl⟩
  case rest =>
  obtain ⟨rfl, rfl⟩ := hcut
  clear HM HA hD2
  by_cases hn : 300 < I.length
  · have y0 : (300 : Int) < I.length := by omega
    go_wp2_with fail
    go_ret
    exact ⟨rfl, hM2⟩
  have y0 : (I.length : Int) ≤ 300 := by omega
  have hin : Ins W w2 (.slice none 0 0) [] 0 := ⟨Ow.nil _ _ _, fun i hi => by simp at hi, by simp, by simp [blks], fun i j hi => by simp at hi⟩
  go_wp2_with fail
  go_loopw [9, 10] (fun u i wr => ∃ (j : Nat) (Q : List (Nat × Nat × List UInt8)), j ≤ I.length ∧ i = .int .i64 j ∧ Ins W wr u Q 0 ∧ Q.map (·.2.2) = (I.map (·.2)).take j ∧ Mod [] W wr) (fun _ i _ => I.length - (intOf i).toNat)
  case atStart => exact ⟨0, [], by omega, rfl, hin, rfl, hM2⟩
  case round =>
    obtain ⟨j, Q, hj, rfl, hin, hQ, hMr⟩ := hrel
    clear hM2
    obtain ⟨aov, capv, rfl, hcv, _⟩ := hin.ow.sl.form
    have hQl : Q.length = j := by have := congrArg List.length hQ; simp at this; omega
    have HQ := Lib.hid hQ
    have HQL := Lib.hid hQl
    clear hQ hQl
    by_cases hlt : j < I.length
    · have y1 : (j : Int) < I.length := by omega
      obtain ⟨b, o, rfl, _, c1, hb1⟩ := (hI.ext hMr).at hlt
      have hl := hIl _ (List.getElem_mem hlt)
      obtain ⟨l, hll⟩ : ∃ u, u = I[j].2 := ⟨_, rfl⟩
      obtain ⟨u, hu⟩ : ∃ u, u = I[j].1 := ⟨_, rfl⟩
      rw [← hll] at hl hb1
      rw [← hu] at c1 hb1
      have HL := Lib.hid hll
      clear hll hu
      obtain ⟨ao1, cap1, rfl, _, _⟩ := hb1.form
      go_wp2_with (first
                    | (with_reducible refine st_bslice ?_)
                    | (go_at_call 30; refine (lent_any l _ _ hb1 (by omega)).mono ?_; rintro e w4 ⟨g, cap, rfl, hg, hlt4, hm4⟩))
      refine StopOp.go rfl fun K hK => ?_
      refine wp_bslice stDR [.slice (some ⟨g, 0, none⟩) l.length cap] rfl (by decide) (by rfl) (by simp [Value.cells]) ?_
      intro q w5 hq1 hq2 hm5 hBq
      simp only [put_some, List.set_cons_succ, List.set_cons_zero]
      refine hK _ _ ?_
      clear hK K
      have hS : Sl w5 1 (.slice (some ⟨q, 0, none⟩) 1 1) 1 [.slice (some ⟨g, 0, none⟩) l.length cap] := (Ow.of_blk (rest := []) hBq (Nat.le_refl _) (by omega) rfl rfl : Ow w5 23 1 (.slice (some ⟨q, 0, none⟩) 1 1) 1 [.slice (some ⟨g, 0, none⟩) l.length cap]).sl
      have how5 := (hin.ow.ext hm4).ext hm5
      go_wp2_with (with_reducible refine st_append ?_)
      refine StopOp.go rfl fun K hK => ?_
      refine wp_append_ow stDR (by rfl) (by rfl) how5 hS (by simp [Value.oneCell']) (by have := HQL.out; omega) (by have := HQL.out; omega) ?_
      intro v6 w6 how6 hm6 hb6
      simp only [put_some, List.set_cons_succ, List.set_cons_zero]
      refine hK _ _ ?_
      clear hK K
      go_wp2_with fail
      have hs0 := hMr.size
      have hin6 := hin.snoc hs0 hg hm4 hlt4 hm5 how6 hm6 (fun k hk => hb6 k hk)
      have hM6 : Mod [] W w6 := ((hMr.ext hm4).ext hm5).fresh hm6 hin.nv
      go_roundw
      case rel => exact ⟨j + 1, _, by omega, by go_num, hin6, by rw [List.map_append, HQ.out, List.map_cons, List.map_nil, HL.out]; exact take_map_succ I j hlt, hM6⟩
      case measure => simp [intOf]; omega
    · obtain rfl : j = I.length := by omega
      have hQI : (inR Q).map (·.2) = I.map (·.2) := by rw [inR_snd, HQ.out, List.take_of_length_le (by simp)]
      have hrq := hin.rows
      have DO := dof_any (inR Q) _ wr hrq
      unfold OfD at DO
      have RO := fun w h => rof_any I (.slice aoi I.length capi) w h
      unfold OfR at RO
      rw [hQI] at DO
      obtain ⟨M, hM⟩ : ∃ M, M = mkO (I.map (·.2)) := ⟨_, rfl⟩
      rw [← hM] at DO RO
      obtain ⟨E2, hE2⟩ : ∃ E, E = oE M := ⟨_, rfl⟩
      rw [← hE2] at DO RO
      have HE2 := Lib.hid hE2
      clear hE2
      have HQI := Lib.hid hQI
      clear hM hQI
      go_upto_region 17 with (first
                    | (go_at_call 67; (with_reducible refine (DO).mono ?_); rintro e w4 ⟨a4, L4, rfl, hD4, hn4, hm4, ha4⟩; have hI4 := (hI.ext hMr).ext hm4)
                    | (go_at_call 68; (with_reducible refine (RO _ hI4).mono ?_); rintro e w5 ⟨a5, K5, rfl, hR5, hn5, hm5⟩))
      have HA := Lib.hid ha4
      have hin5 := (hin.ext hm4).ext hm5
      have hM5 := (hMr.ext hm4).ext hm5
      have hI5 := hI4.ext hm5
      have hD5 := hD4.ext hm5
      have hrq5 := hin5.rows
      have hl4 : ∀ x ∈ Q, x.1 ∉ L4 ∧ x.1 ∉ K5 := fun x hx => ⟨fun hh => by have := (hin.nw x hx).2.1; have := hn4 _ hh; omega, fun hh => by have := (hin.nw x hx).2.1; have := hn5 _ hh; have := hm4.size; omega⟩
      clear ha4 hin hI4 hD4 hn4 hn5 hm4 hm5 hrq DO RO hMr
      go_cut [106] (fun u wx => u = .bool false ∧ Mod [] w5 wx)
      case first =>
        have SR := sameRows_yes (inR Q) I _ _ w5 hrq5 hI5 HQI.out
        cases hMM : M with
        | none =>
          obtain rfl : a4 = none := HA.out.2 hMM
          have ho : E2 = 2 := by rw [HE2.out, hMM]; rfl
          have x1 : (E2 == 0) = false := by rw [ho]; rfl
          clear hMM ho hD5 hR5
          go_wp2_with (go_at_call 56; (refine SR.mono ?_); rintro e w6 ⟨rfl, hm6⟩)
          go_meet
          exact ⟨rfl, hm6⟩
        | some m =>
          obtain ⟨ad, rfl⟩ := Option.ne_none_iff_exists'.1 (fun hh => by have := HA.out.1 hh; rw [hMM] at this; cases this)
          have ho : E2 = 0 := by rw [HE2.out, hMM]; rfl
          have x1 : (E2 == 0) = true := by rw [ho]; rfl
          clear hMM ho hD5 hR5
          go_wp2_with (go_at_call 56; (refine SR.mono ?_); rintro e w6 ⟨rfl, hm6⟩)
          go_meet
          exact ⟨rfl, hm6⟩
      case rest =>
      obtain ⟨rfl, hm6⟩ := hcut
      have hin6 := hin5.ext hm6
      have hM6 := hM5.ext hm6
      have hD6 := hD5.ext hm6
      have hR6 := hR5.ext hm6
      have hQl' : ∀ i (hi : i < Q.length), Q[i].2.2.length ≤ 1048576 := fun i hi => by
        have h1 : Q[i].2.2 ∈ (inR Q).map (·.2) := by rw [inR_snd]; exact List.mem_map.2 ⟨_, List.getElem_mem hi, rfl⟩
        rw [HQI.out] at h1
        obtain ⟨p, hp, he⟩ := List.mem_map.1 h1
        rw [← he]
        exact hIl p hp
      clear hin5 hM5 hD5 hR5 hI5 hrq5 hm6 HA
      go_wp2_with fail
      go_loopw [15] (fun i wr => ∃ (j : Nat), j ≤ Q.length ∧ i = .int .i64 j ∧ Ins W wr (.slice aov Q.length capv) Q j ∧ Ld wr (.pointer a4) M L4 ∧ Lr wr (.pointer a5) M K5 ∧ Mod [] W wr) (fun i _ => Q.length - (intOf i).toNat)
      case atStart => exact ⟨0, by omega, rfl, ⟨hin6.ow, hin6.lt, hin6.nw, hin6.nv, hin6.dj⟩, hD6, hR6, hM6⟩
      case round =>
        obtain ⟨k, hk, rfl, hin, hD, hR, hMr⟩ := hrel
        clear hin6 hD6 hR6 hM6
        by_cases hkl : k < Q.length
        · have y2 : (k : Int) < Q.length := by omega
          have hsl := hin.ow.sl
          obtain ⟨b, o, rfl, ck⟩ := sl_at' hsl (i := k) (by simpa using hkl)
          rw [List.getElem_map] at ck
          have hlk := hin.lt k hkl (Nat.le_refl _)
          have hQk := hQl' k hkl
          have hout := hl4 _ (List.getElem_mem hkl)
          have hov := fun w' hm => hin.over (w' := w') hkl hm
          have hnk := (hin.nw _ (List.getElem_mem hkl)).1
          obtain ⟨x, hx⟩ : ∃ x, x = Q[k] := ⟨_, rfl⟩
          rw [← hx] at ck hlk hQk hout hov hnk
          clear hx
          obtain ⟨g, cap, l⟩ := x
          dsimp only [inV] at ck hlk hQk hout hov hnk
          have OV := over_any g cap l wr hlk (by omega)
          go_wp2_with (go_at_call 32; (refine OV.mono ?_); rintro e w7 ⟨rfl, hm7⟩)
          go_roundw
          case rel => exact ⟨k + 1, by omega, by go_num, hov w7 hm7, hD.mod hm7 (fun b hb hh => hout.1 (by have e : b = g := (by simpa using hh); exact e ▸ hb)), hR.mod hm7 (fun b hb hh => hout.2 (by have e : b = g := (by simpa using hh); exact e ▸ hb)), hMr.fresh hm7 (by simpa using hnk)⟩
          case measure => simp [intOf]; omega
        · obtain rfl : k = Q.length := by omega
          have ID := fun w L h => dI_any (.pointer a4) M L w h
          have IR := fun w L h => rI_any (.pointer a5) M L w h
          unfold ImgPost at ID IR
          go_wp2_with (first
                        | (go_at_call 54; (with_reducible refine (ID _ _ hD).mono ?_); rintro e w8 ⟨v8, dq8, rfl, hR8, hq8, hm8⟩; have hr8 := hR.ext hm8)
                        | (go_at_call 64; (with_reducible refine (IR _ _ hr8).mono ?_); rintro e w9 ⟨v9, dq9, rfl, hR9, hq9, hm9⟩)
                        | (go_at_call 56; refine (sameRows_yes dq8 dq9 _ _ _ (hR8.ext hm9).r hR9.r (hq8.trans hq9.symm)).mono ?_; rintro e w10 ⟨rfl, hm10⟩))
          go_ret
          exact ⟨rfl, ((hMr.ext hm8).ext hm9).ext hm10⟩
end Go.Proofs.Ytkedbphdflhhlaa
