import Derived.Test.YtminfegoldgjpaaGreatDoorSyG
import Derived.Test.YtminfegoldgjpaaGreatDoorSyH
import Derived.Test.YtminfegoldgjpaaGreatDoorSyI
import Derived.Test.YtminfegoldgjpaaGreatDoorSyJ
/-! Slots: a step of any kind; a script; SlotsPlays. -/
set_option linter.unusedVariables false
set_option linter.unusedSimpArgs false
set_option maxRecDepth 100000
namespace Go.Proofs.YtminfegoldgjpaaGreatDoor
open Go.RowKit Gw

theorem OkSop.ext {w w' : World} {o : Sop} (h : OkSop w o) (hm : Mod [] w w') : OkSop w' o :=
  ⟨h.fs.far hm (by simp), fun h0 b hb => Nat.lt_of_lt_of_le (h.old h0 b hb) hm.size, h.d, h.l, h.x, h.cov, h.n, h.f⟩
/-- a script -/
def Sops (w : World) (v : Value) (os : List Sop) : Prop := Sl w 6 v os.length (os.flatMap Sop.cells) ∧ ∀ o ∈ os, OkSop w o
theorem slen6 : ∀ os : List Sop, (os.flatMap Sop.cells).length = os.length * 6
  | [] => rfl
  | o :: os => by
    rw [List.flatMap_cons, List.length_append, slen6 os, List.length_cons]
    show 6 + os.length * 6 = _
    omega
theorem sflat_at6 : ∀ (os : List Sop) (i j : Nat) (hi : i < os.length) (hj : j < 6), (os.flatMap Sop.cells)[i * 6 + j]? = (os[i].cells)[j]?
  | o :: os, 0, j, _, hj => by
    rw [List.flatMap_cons, Nat.zero_mul, Nat.zero_add, List.getElem?_append_left (show j < o.cells.length from hj)]
    rfl
  | o :: os, i + 1, j, hi, hj => by
    have := sflat_at6 os i j (by simpa using hi) hj
    rw [List.flatMap_cons, List.getElem?_append_right (by show 6 ≤ _; omega)]
    simp only [List.getElem_cons_succ]
    rw [← this]
    congr 1
    show (i + 1) * 6 + j - 6 = _
    omega
theorem Sops.elem {w : World} {ao : Option Addr} {n cap : Nat} {os : List Sop} (h : Sl w 6 (.slice ao n cap) os.length (os.flatMap Sop.cells)) {i : Nat} (hi : i < os.length) :
    ∃ b o, ao = some ⟨b, o, none⟩ ∧ w.rangeAt b (o + i * 6) os[i].cells := by
  obtain ⟨b, o, c, hv, _, _, hc⟩ := h.at (fun h0 => by
    have := sflat_at6 os i 0 hi (by omega)
    rw [h0] at this
    simp [Sop.cells] at this)
  injection hv with e1
  refine ⟨b, o, e1, fun j u hu => ?_⟩
  have hj : j < 6 := by have := (List.getElem?_eq_some_iff.1 hu).1; simpa [Sop.cells] using this
  have := hc (i * 6 + j) u (by rw [sflat_at6 os i j hi hj]; exact hu)
  rwa [← Nat.add_assoc] at this
theorem sdoes_any {W w : World} {x p q P Q s r a b h k f0 f1 c : Nat} {v : Pv} {L M : List Nat} (o : Sop) (ho : OkSop W o) (B : Bw W w p q P Q v v L M (osB x p P s r a b h k f0 f1 c)) (hT : TabC W) (hz : v.m.sz = 64) (hd : v.m.dur.length = 10) (hn : v.n ≤ 900000) (hr : v.m.row.length ≤ 900000) (hc : 2 ≤ c) (hc4 : c ≤ 4) (h0 : f0 + c ≤ 10) (h1 : f1 + c ≤ 10) :
    Calls Tryz.prog 17 #[.pointer (some ⟨x, 0, none⟩), o.val] w (DoesX W p q P Q (osB x p P s r a b h k f0 f1 c) v.n v.m.row.length) := by
  have g1 := pick_ge o.d 7
  have g2 := pick_lt o.d 7 (by omega)
  have key : ∀ {V : Pv} {w' : World} {e : Ending}, DoesP W p q P Q (osB x p P s r a b h k f0 f1 c) V e w' → V.m.sz = 64 → V.m.dur.length = 10 → V.n ≤ v.n + 2100 → V.m.row.length ≤ v.m.row.length + 1100 → DoesX W p q P Q (osB x p P s r a b h k f0 f1 c) v.n v.m.row.length e w' := fun ⟨L2, M2, e1, e2⟩ k1 k2 k3 k4 => ⟨_, L2, M2, e1, e2, k1, k2, k3, k4⟩
  obtain e | e | e | e | e | e | e : pick o.d 7 = 0 ∨ pick o.d 7 = 1 ∨ pick o.d 7 = 2 ∨ pick o.d 7 = 3 ∨ pick o.d 7 = 4 ∨ pick o.d 7 = 5 ∨ pick o.d 7 = 6 := by omega
  · have hs := saveG_sz f0 f1 c 64 v (bodS c o) o.cov
    exact (does0_any W w x p q P Q s r a b h k f0 f1 c v L M o ho e B hT hz hd hn hr hc hc4 h0 h1).mono fun _ _ hh => key hh (hs.sz.trans hz) (hs.dur.trans hd) (by have := hs.n; omega) (by have := hs.row; omega)
  · have hs := loadG_sz f0 f1 c 64 v
    exact (does1_any W w x p q P Q s r a b h k f0 f1 c v L M o ho e B hT hz hd hn hr hc hc4 h0 h1).mono fun _ _ hh => key hh (by rw [hs.m]; exact hz) (by rw [hs.m]; exact hd) (by have := hs.n; omega) (by rw [hs.m]; omega)
  · obtain ⟨s1, s2⟩ := arm_sz v (pick o.n 30)
    exact (does2_any W w x p q P Q s r a b h k f0 f1 c v L M o ho e B hT hz hd hn hr hc hc4 h0 h1).mono fun _ _ hh => key hh (by rw [s1]; exact hz) (by rw [s1]; exact hd) (by omega) (by rw [s1]; omega)
  · obtain ⟨s1, s2, s3, s4⟩ := re_sz v o.F
    exact (does3_any W w x p q P Q s r a b h k f0 f1 c v L M o ho e B hT hz hd hn hr hc hc4 h0 h1).mono fun _ _ hh => key hh (by rw [s1]; exact hz) (by rw [s2]; exact hd) (by omega) (by rw [s3]; simp)
  · obtain ⟨s1, s2, s3, s4⟩ := wr_sz v (pick o.n 10) (filS o.x 64)
    exact (does4_any W w x p q P Q s r a b h k f0 f1 c v L M o ho e B hT hz hd hn hr hc hc4 h0 h1).mono fun _ _ hh => key hh (s1.trans hz) (s2.trans hd) (by omega) (by omega)
  · exact does5_any W w x p q P Q s r a b h k f0 f1 c v L M o ho e B hT hz hd hn hr hc hc4 h0 h1
  · obtain ⟨s1, s2, s3, s4⟩ := wr_sz v (pick o.n 10) (hdrS o)
    exact (does6_any W w x p q P Q s r a b h k f0 f1 c v L M o ho e B hT hz hd hn hr hc hc4 h0 h1).mono fun _ _ hh => key hh (s1.trans hz) (s2.trans hd) (by omega) (by omega)
theorem okN_room {i : Nat} (h : i < 8) : okN i = true → 2 ≤ (spN i).1.2 ∧ (spN i).1.2 ≤ 4 ∧ (spN i).1.1 + (spN i).1.2 ≤ 10 ∧ (spN i).2.1 + (spN i).1.2 ≤ 10 := by
  obtain h | h | h | h | h | h | h | h : i = 0 ∨ i = 1 ∨ i = 2 ∨ i = 3 ∨ i = 4 ∨ i = 5 ∨ i = 6 ∨ i = 7 := by omega
  all_goals subst h; decide
set_option maxRecDepth 1000000 in
set_option maxHeartbeats 20000000 in
theorem slotsPlays_core (k_ : Int) (sv : Value) (os : List Sop) (W : World) (wk : i64 k_) (hs : Sops W sv os) (hT : TabC W) :
    Calls Tryz.prog 4 #[.int .i64 k_, sv] W fun e w' => e = .returned (.bool true) ∧ Mod [] W w' := by
  obtain ⟨hs1, hs2⟩ := hs
  obtain ⟨aos, caps, rfl, hcs, hcs2⟩ := hs1.form
  have AW := fun w h => slawake_any w h
  obtain ⟨i, hi⟩ : ∃ i : Nat, pick k_ 8 = i := ⟨_, (Int.toNat_of_nonneg (pick_ge k_ 8)).symm⟩
  have hi8 : i < 8 := by have := pick_lt k_ 8 (by omega); omega
  have MD := fun w => smade_any k_ i w wk hi
  cases hok : okN i with
  | false =>
    have MD0 : ∀ w, Calls Tryz.prog 7 #[.int .i64 k_] w (fun e w' => e = .returned (.tuple #[.pointer none, .bool true]) ∧ Mod [] w w') := fun w => (MD w).mono fun e w' hh => by
      rcases hh with ⟨_, h⟩ | ⟨h, _⟩
      · exact h
      · rw [hok] at h; cases h
    clear MD hi hi8 hok
    go_enter Tryz.func4, Tryz.ntmps4
    go_wp2_with (first
                  | (go_at_call 6; (with_reducible refine (AW _ hT).mono ?_); rintro e w1 ⟨rfl, hm1⟩)
                  | (go_at_call 7; (with_reducible refine (MD0 _).mono ?_); rintro e w2 ⟨rfl, hm2⟩))
    go_ret
    exact ⟨rfl, hm1.ext hm2⟩
  | true =>
  obtain ⟨c1, c2, c3, c4⟩ := okN_room hi8 hok
  have MD1 : ∀ w, Calls Tryz.prog 7 #[.int .i64 k_] w (fun e w' => ∃ x p q P Q s r a b h k L M, e = .returned (.tuple #[.pointer (some ⟨x, 0, none⟩), .bool true]) ∧ Bw w w' p q P Q dvS dvS L M (osB x p P s r a b h k (spN i).1.1 (spN i).2.1 (spN i).1.2)) := fun w => (MD w).mono fun e w' hh => by
    rcases hh with ⟨h, _⟩ | ⟨_, h⟩
    · rw [hok] at h; cases h
    · exact h
  clear MD hok
  obtain ⟨f0, hf0⟩ : ∃ f, f = (spN i).1.1 := ⟨_, rfl⟩
  obtain ⟨f1, hf1⟩ : ∃ f, f = (spN i).2.1 := ⟨_, rfl⟩
  obtain ⟨cc, hcc⟩ : ∃ f, f = (spN i).1.2 := ⟨_, rfl⟩
  rw [← hf0, ← hcc] at c3
  rw [← hf1, ← hcc] at c4
  rw [← hcc] at c1 c2
  rw [← hf0, ← hf1, ← hcc] at MD1
  clear hf0 hf1 hcc hi hi8
  have hv1 : dvS.m.sz = 64 := rfl
  have hv2 : dvS.m.dur.length = 10 := rfl
  have hv3 : dvS.n = 0 := rfl
  have hv4 : dvS.m.row.length = 0 := rfl
  obtain ⟨v0, hv0⟩ : ∃ v, v = dvS := ⟨_, rfl⟩
  rw [← hv0] at MD1 hv1 hv2 hv3 hv4
  clear hv0
  obtain ⟨J, hJ⟩ : ∃ N, N = min os.length 40 := ⟨_, rfl⟩
  have HN := Lib.hid hJ
  clear hJ
  have HV := Lib.hid (And.intro hv1 (And.intro hv2 (And.intro hv3 hv4)))
  clear hv1 hv2 hv3 hv4
  go_enter Tryz.func4, Tryz.ntmps4
  go_upto_region 6 with (first
                | (go_at_call 6; (with_reducible refine (AW _ hT).mono ?_); rintro e w1 ⟨rfl, hm1⟩)
                | (go_at_call 7; (with_reducible refine (MD1 _).mono ?_); rintro e w2 ⟨x, p, q, P, Q, s, r, a, b, h, k, L0, M0, rfl, B2⟩))
  have hT1 := hT.ext hm1
  have hs1' := Sl.ext hs1 hm1
  clear hs1 hT
  go_wp2_with fail
  go_loopw [7] (fun iv wr => ∃ (j : Nat) (v : Pv) (L M : List Nat), iv = .int .i64 j ∧ j ≤ J ∧ Bw w1 wr p q P Q v v L M (osB x p P s r a b h k f0 f1 cc) ∧ v.m.sz = 64 ∧ v.m.dur.length = 10 ∧ v.n ≤ 2100 * j ∧ v.m.row.length ≤ 1100 * j) (fun iv _ => J - (intOf iv).toNat)
  case atStart => exact ⟨0, v0, L0, M0, rfl, Nat.zero_le _, B2, HV.out.1, HV.out.2.1, by have := HV.out.2.2.1; omega, by have := HV.out.2.2.2; omega⟩
  case round =>
    clear B2
    obtain ⟨j, v, L, M, rfl, hj, B, hvz, hvd, hvn, hvr⟩ := hrel
    have hJ2 : J ≤ 40 := by have := HN.out; omega
    obtain ⟨c, hc⟩ : ∃ c, c = decide (j < J) := ⟨_, rfl⟩
    have HC := Lib.hid hc
    clear hc
    go_upto_region 7 with fail
    go_cut [29] (fun u wx => u = .bool c ∧ wr = wx)
    case first =>
      by_cases h1 : j < os.length
      · have y1 : (j : Int) < os.length := by omega
        by_cases h2 : j < 40
        · have y2 : (j : Int) < 40 := by omega
          go_wp2_with fail
          go_meet
          exact ⟨by rw [HC.out, decide_eq_true (show j < J by have := HN.out; omega)]; try (simp; omega), rfl⟩
        · have y2 : (40 : Int) ≤ j := by omega
          go_wp2_with fail
          go_meet
          exact ⟨by rw [HC.out, decide_eq_false (show ¬ j < J by have := HN.out; omega)]; try (simp; omega), rfl⟩
      · have y1 : (os.length : Int) ≤ j := by omega
        go_wp2_with fail
        go_meet
        exact ⟨by rw [HC.out, decide_eq_false (show ¬ j < J by have := HN.out; omega)]; try (simp; omega), rfl⟩
    case rest =>
    obtain ⟨rfl, rfl⟩ := hcut
    cases c with
    | true =>
      have hlt : j < J := of_decide_eq_true HC.out.symm
      have hjo : j < os.length := by have := HN.out; omega
      have y1 : (j : Int) < os.length := by omega
      clear HC
      obtain ⟨bb, oo, rfl, hcr⟩ := Sops.elem (Sl.ext hs1' B.m) hjo
      have hop := (hs2 _ (List.getElem_mem hjo)).ext hm1
      obtain ⟨op, hop'⟩ : ∃ op, op = os[j] := ⟨_, rfl⟩
      rw [← hop'] at hcr hop
      clear hop'
      have PL := fun w hB => sdoes_any (w := w) op hop (hB : Bw w1 w p q P Q v v L M (osB x p P s r a b h k f0 f1 cc)) hT1 hvz hvd (by omega) (by omega) c1 c2 c3 c4
      unfold DoesX at PL
      obtain ⟨gd, gl, gx, gc, gn, gfv, gF⟩ := op
      obtain ⟨aof, capf, hfv, _, _⟩ := hop.fs.form
      dsimp only at hfv
      subst hfv
      unfold Sop.val at PL
      dsimp only at PL
      unfold Sop.cells at hcr
      dsimp only at hcr
      have q0 := hcr 0 _ rfl
      have q1 := hcr 1 _ rfl
      have q2 := hcr 2 _ rfl
      have q3 := hcr 3 _ rfl
      have q4 := hcr 4 _ rfl
      have q5 := hcr 5 _ rfl
      rw [Nat.add_zero] at q0
      clear hcr hop
      go_wp2_with (first
                    | (go_at_call 17; (with_reducible refine (PL _ B).mono ?_); rintro e w5 ⟨v5, L5, M5, rfl, B5, hz5, hd5, hn5, hr5⟩; have ST := salike_any w1 w5 x p q P Q s r v5 L5 M5 _ B5 List.mem_cons_self)
                    | (go_at_call 18; (with_reducible refine (ST).mono ?_); rintro e w6 ⟨rfl, hm6⟩))
      go_roundw
      case rel => exact ⟨j + 1, v5, L5, M5, by go_num, by omega, B5.ext hm6, hz5, hd5, by omega, by omega⟩
      case measure => simp [intOf]; omega
    | false =>
      clear HC
      go_wp2_with fail
      go_ret
      exact ⟨rfl, hm1.ext B.m⟩
end Go.Proofs.YtminfegoldgjpaaGreatDoor
