import Derived.Test.YtkedbphdflhhlaaDkL
import Derived.Test.YtkedbphdflhhlaaGDk
import Derived.Test.YtkedbphdflhhlaaDkK
/-! Disks: Of, of both. -/
set_option linter.unusedVariables false
set_option linter.unusedSimpArgs false
set_option maxRecDepth 100000
namespace Go.Proofs.Ytkedbphdflhhlaa
open Go.RowKit Gw

theorem of1_any (l : List UInt8) (v : Value) (q n : Nat) (b : Bool) (w : World) (hv : Bs w v l) (hq : Blk w q 3 [.int .i64 (n : Nat)]) (hb : b = decide (l.length ≠ n)) :
    Calls Try.prog 98 #[v, .pointer (some ⟨q, 0, none⟩)] w fun e w' => e = .returned (.bool b) ∧ w = w' := by
  obtain ⟨ao, cap, rfl, _, _⟩ := hv.form
  have q0 := hq.cell' (i := 0) rfl
  by_cases h : l.length = n
  · have e1 : b = false := by rw [hb, decide_eq_false (by omega)]
    subst e1
    subst h
    clear hb
    go_enter Try.func98, Try.ntmps98
    go_wp2_with fail
    go_ret
    exact ⟨rfl, rfl⟩
  · have e1 : b = true := by rw [hb, decide_eq_true (by omega)]
    subst e1
    have e2 : ((l.length : Int) != (n : Int)) = true := by rw [bne_iff_ne]; omega
    clear hb
    go_enter Try.func98, Try.ntmps98
    go_wp2_with fail
    go_ret
    exact ⟨rfl, rfl⟩
theorem RowsR.at {w : World} {ao : Option Addr} {n cap : Nat} {L : List (Value × List UInt8)} (h : RowsR w (.slice ao n cap) L) {i : Nat} (hi : i < L.length) : ∃ b o, ao = some ⟨b, o, none⟩ ∧ n = L.length ∧ w.cell? ⟨b, o + i, none⟩ = some L[i].1 ∧ Bs w L[i].1 L[i].2 := by
  obtain ⟨ao', cap', hv, _, _⟩ := h.1.form
  injection hv with e1 e2 e3
  subst e2
  obtain ⟨b, o, e, hc⟩ := sl_at' h.1 (i := i) (by simpa using hi)
  rw [List.getElem_map] at hc
  exact ⟨b, o, e, rfl, hc, h.2 _ (List.getElem_mem hi)⟩
def offK (n : Nat) (L : List (Value × List UInt8)) : Nat := L.findIdx fun p => decide (p.2.length ≠ n)
theorem offK_le (n : Nat) (L : List (Value × List UInt8)) : offK n L ≤ L.length := List.findIdx_le_length
theorem offK_lt {n j : Nat} {L : List (Value × List UInt8)} (h : j < offK n L) : (L[j]'(Nat.lt_of_lt_of_le h (offK_le n L))).2.length = n := by
  have := List.not_of_lt_findIdx h
  simpa using this
theorem offK_at {n : Nat} {L : List (Value × List UInt8)} (h : offK n L < L.length) : (L[offK n L]'h).2.length ≠ n := by
  have := List.findIdx_getElem (w := h)
  exact of_decide_eq_true this
set_option maxHeartbeats 2000000 in
theorem idx_any (L : List (Value × List UInt8)) (v : Value) (q n : Nat) (w : World) (h : RowsR w v L) (hq : Blk w q 3 [.int .i64 (n : Nat)]) :
    Calls Try.prog 123 #[v, .func (.func 98) #[] #[.pointer (some ⟨q, 0, none⟩)]] w fun e w' => e = .returned (.int .i64 (if offK n L < L.length then (offK n L : Nat) else -1)) ∧ Mod [] w w' := by
  have h1 : ∀ j (hj : j < L.length), j < offK n L → L[j].2.length = n := fun j _ hj => offK_lt hj
  have h2 : ∀ j (hj : j < L.length), j = offK n L → L[j].2.length ≠ n := fun j hj he => by subst he; exact offK_at hj
  have h0 := offK_le n L
  obtain ⟨K, hK⟩ : ∃ K, K = offK n L := ⟨_, rfl⟩
  simp only [← hK] at h1 h2 h0 ⊢
  clear hK
  obtain ⟨R, hR⟩ : ∃ R : Int, R = if K < L.length then (K : Int) else -1 := ⟨_, rfl⟩
  rw [← hR]
  have HR := Lib.hid hR
  clear hR
  obtain ⟨ao, cap, rfl, hc1, hc2⟩ := h.1.form
  go_enter Try.func123, Try.ntmps123
  go_wp2_with fail
  go_loopw [8] (fun i wr => ∃ j : Nat, j ≤ K ∧ i = .int .i64 j ∧ Mod [] w wr) (fun i _ => K - (intOf i).toNat)
  case atStart => exact ⟨0, Nat.zero_le _, rfl, Mod.refl _ _⟩
  case round =>
    obtain ⟨j, hj, rfl, hmr⟩ := hrel
    by_cases hlt : j < L.length
    · have y0 : (j : Int) < L.length := by omega
      have hr := h.ext hmr
      have hqr := hq.ext hmr
      obtain ⟨b, o, rfl, _, c1, hb1⟩ := hr.at hlt
      by_cases hjK : j < K
      · have hx := h1 j hlt hjK
        obtain ⟨u, hu⟩ : ∃ u, u = L[j].1 := ⟨_, rfl⟩
        obtain ⟨l, hl⟩ : ∃ u, u = L[j].2 := ⟨_, rfl⟩
        rw [← hu, ← hl] at hb1
        rw [← hu] at c1
        rw [← hl] at hx
        clear hu hl
        have OF := fun w hb hq => of1_any l u q n false w hb hq (decide_eq_false (by omega)).symm
        clear hx
        obtain ⟨ao1, cap1, rfl, _, _⟩ := hb1.form
        go_wp2_with (go_at_call 98; (with_reducible refine (OF _ hb1 hqr).mono ?_); rintro e w2 ⟨rfl, rfl⟩)
        go_roundw
        case rel => exact ⟨j + 1, by omega, by go_num, hmr⟩
        case measure => simp [intOf]; omega
      · obtain rfl : K = j := by omega
        have hx := h2 K hlt rfl
        obtain ⟨u, hu⟩ : ∃ u, u = L[K].1 := ⟨_, rfl⟩
        obtain ⟨l, hl⟩ : ∃ u, u = L[K].2 := ⟨_, rfl⟩
        rw [← hu, ← hl] at hb1
        rw [← hu] at c1
        rw [← hl] at hx
        clear hu hl
        have OF := fun w hb hq => of1_any l u q n true w hb hq (decide_eq_true hx).symm
        clear hx
        obtain ⟨ao1, cap1, rfl, _, _⟩ := hb1.form
        go_wp2_with (go_at_call 98; (with_reducible refine (OF _ hb1 hqr).mono ?_); rintro e w2 ⟨rfl, rfl⟩)
        go_ret
        exact ⟨by rw [HR.out, if_pos hlt]; rfl, hmr⟩
    · have hKL : K = L.length := by omega
      obtain rfl : j = L.length := by omega
      go_wp2_with fail
      go_ret
      exact ⟨by rw [HR.out, if_neg (by omega)]; rfl, hmr⟩
theorem cont_any (L : List (Value × List UInt8)) (v : Value) (q n : Nat) (b : Bool) (w : World) (h : RowsR w v L) (hq : Blk w q 3 [.int .i64 (n : Nat)]) (hb : b = decide (offK n L < L.length)) :
    Calls Try.prog 97 #[v, .func (.func 98) #[] #[.pointer (some ⟨q, 0, none⟩)]] w fun e w' => e = .returned (.bool b) ∧ Mod [] w w' := by
  have I := fun w h hq => idx_any L v q n w h hq
  obtain ⟨K, hK⟩ : ∃ K, K = offK n L := ⟨_, rfl⟩
  rw [← hK] at hb
  simp only [← hK] at I
  clear hK
  obtain ⟨ao, cap, rfl, hc1, hc2⟩ := h.1.form
  by_cases hlt : K < L.length
  · simp only [if_pos hlt] at I
    rw [decide_eq_true hlt] at hb
    subst hb
    have y0 : (0 : Int) ≤ K := by omega
    clear hlt
    go_enter Try.func97, Try.ntmps97
    go_wp2_with (go_at_call 123; (with_reducible refine (I _ h hq).mono ?_); rintro e w2 ⟨rfl, hm⟩)
    go_ret
    exact ⟨rfl, hm⟩
  · simp only [if_neg hlt] at I
    rw [decide_eq_false hlt] at hb
    subst hb
    clear hlt
    go_enter Try.func97, Try.ntmps97
    go_wp2_with (go_at_call 123; (with_reducible refine (I _ h hq).mono ?_); rintro e w2 ⟨rfl, hm⟩)
    go_ret
    exact ⟨rfl, hm⟩
end Go.Proofs.Ytkedbphdflhhlaa
