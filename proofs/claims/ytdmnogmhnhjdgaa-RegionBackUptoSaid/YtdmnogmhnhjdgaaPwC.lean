import Derived.Test.YtdmnogmhnhjdgaaPwB
import Derived.Test.YtdmnogmhnhjdgaaGDk
import Derived.Test.YtdmnogmhnhjdgaaRowE
import Derived.Deep.DeepCutAuto
/-! Devices: New, Restart; PowerNil. -/
set_option linter.unusedVariables false
set_option linter.unusedSimpArgs false
set_option maxRecDepth 100000
namespace Go.Proofs.Ytdmnogmhnhjdgaa
open Go.RowKit Gw

theorem pnew_no (u : Value) (w : World) (h : NoDk w u) : Calls Try.prog 13 #[u] w fun e w' => e = .returned (.tuple #[.pointer none, .int .i64 1]) ∧ w = w' := by
  have SE := fun w h => dSectors_no u w h
  go_enter Try.func13, Try.ntmps13
  go_wp2_with (go_at_call 57; (with_reducible refine (SE _ h).mono ?_); rintro e w1 ⟨rfl, rfl⟩)
  go_ret2
  exact ⟨rfl, rfl⟩
theorem pnew_yes (q : Nat) (m : Dm) (L : List Nat) (w : World) (h : Dk w q m L) (hok : m.ok) : Calls Try.prog 13 #[.pointer (some ⟨q, 0, none⟩)] w fun e w' => ∃ p, e = .returned (.tuple #[.pointer (some ⟨p, 0, none⟩), .int .i64 0]) ∧ Pd w' p q ⟨m, false, -1, 0⟩ L ∧ w.heap.size ≤ p ∧ Mod [] w w' := by
  have SE := fun w h => dSectors_any q m L w h hok.s1
  have hn := hok.n1
  obtain ⟨n, hnn⟩ : ∃ n, n = m.dur.length := ⟨_, rfl⟩
  rw [← hnn] at SE hn
  have e0 : ((n : Int) == 0) = false := by rw [beq_eq_false_iff_ne]; omega
  clear hnn hn
  go_enter Try.func13, Try.ntmps13
  go_wp2_with (first
                | (with_reducible refine st_box ?_)
                | (go_at_call 57; (with_reducible refine (SE _ h).mono ?_); rintro e w1 ⟨rfl, rfl⟩))
  refine StopOp.go rfl fun K hK => ?_
  refine wp_box (v := .agg #[.pointer (some ⟨q, 0, none⟩), .bool false, .int .i64 (-1), .int .i64 0]) (by rfl) ?_
  intro p w2 hp1 hp2 hm2 hB2
  simp only [put_some, List.set_cons_succ, List.set_cons_zero]
  refine hK _ _ ?_
  clear hK K
  go_wp2_with fail
  go_ret2
  exact ⟨p, rfl, ⟨hB2, h.ext hm2, ⟨hok, by dsimp only; omega, by dsimp only; omega⟩, fun hh => by have := h.lt p hh; omega⟩, hp1, hm2⟩
set_option maxHeartbeats 2000000 in
theorem pRestart_any (p q : Nat) (v : Pv) (L : List Nat) (F : List (Int × Int)) (fv : Value) (w : World) (h : Pd w p q v L) (hr : v.m.row.length ≤ 1000000) (hF : Fs w fv F) (hFL : F ≠ [] → ∀ b ∈ blks fv, b ∉ L) :
    Calls Try.prog 23 #[.pointer (some ⟨p, 0, none⟩), fv] w fun e w' => e = .returned (.int .i64 0) ∧ PdP w p q (v.re F) L w' := by
  obtain ⟨ao, cap, rfl, _, _⟩ := hF.form
  have CR := dcrash_any q v.m L F (.slice ao F.length cap) w h.d h.ok.m (by omega) hF hFL
  have hb := h.b
  have hp := h.pl
  have hok := h.ok
  obtain ⟨m, off, ar, n⟩ := v
  unfold Pv.cells at hb
  dsimp only at hb CR hok
  have c0 := hb.cell' (i := 0) rfl
  have hs0 := hb.lt
  clear h
  go_enter Try.func23, Try.ntmps23
  go_wp2_with (first
                | (with_reducible refine st_store ?_)
                | (go_at_call 58; refine (pnone_yes p q _ _ _ _ hb).mono ?_; rintro e wn ⟨rfl, rfl⟩)
                | (go_at_call 25; (with_reducible refine (CR).mono ?_); rintro e w2 ⟨rfl, hp2⟩; obtain ⟨L2, hD2, hm2, hL2⟩ := hp2; have hb2 := hb.mod hm2 hp))
  refine StopOp.go rfl fun K hK => ?_
  refine wp_store1 (by kernel_rfl) (by rfl) (u := .bool false) (by rfl) ⟨rfl, rfl⟩ hb2 (by simp) ?_
  intro w3 hm3 hb3
  refine hK _ _ ?_
  clear hK K
  go_wp2_with (with_reducible refine st_store ?_)
  refine StopOp.go rfl fun K hK => ?_
  refine wp_store1 (by kernel_rfl) (by rfl) (u := .int .i64 (-1)) (by rfl) ⟨rfl, rfl⟩ hb3 (by simp) ?_
  intro w4 hm4 hb4
  refine hK _ _ ?_
  clear hK K
  go_wp2_with (with_reducible refine st_store ?_)
  refine StopOp.go rfl fun K hK => ?_
  refine wp_store1 (by kernel_rfl) (by rfl) (u := .int .i64 0) (by rfl) ⟨rfl, rfl⟩ hb4 (by simp) ?_
  intro w5 hm5 hb5
  refine hK _ _ ?_
  clear hK K
  go_wp2_with fail
  go_ret
  have hmp := (hm3.trans hm4).trans hm5
  have hpL : ∀ b ∈ L2, b ∉ [p] := fun b hbL hh => by
    have e : b = p := by simpa using hh
    rw [e] at hbL
    exact (hL2 p hbL).elim hp (fun h => by omega)
  refine ⟨rfl, L2, ⟨hb5, hD2.mod hmp hpL, ⟨hok.m.settle _, by dsimp only [Pv.re]; omega, by dsimp only [Pv.re]; omega⟩, fun hh => hpL p hh (by simp)⟩, (hm2.weak (fun g hg => .inl (List.mem_cons_of_mem _ hg))).then hmp (fun g hg => .inl (by have : g = p := (by simpa using hg); rw [this]; exact List.mem_cons_self)), hL2⟩
set_option maxHeartbeats 2000000 in
theorem pwnone_any (v bw fv : Value) (at_ : Int) (w : World) (h : NoPw w v) : Calls Try.prog 29 #[v, .int .i64 at_, bw, fv] w fun e w' => e = .returned (.bool true) ∧ w = w' := by
  have key : ∀ a, v = .pointer a → Calls Try.prog 29 #[v, .int .i64 at_, bw, fv] w fun e w' => e = .returned (.bool true) ∧ w = w' := by
    rintro a rfl
    have RD := fun w h => pRead_no (.pointer a) at_ w h
    have WR := fun w h => pWrite_no (.pointer a) at_ bw w h
    have SY := fun w h => pSync_no (.pointer a) w h
    have AR := fun w h => pArm_no (.pointer a) at_ w h
    have RE := fun w h => pRestart_no (.pointer a) fv w h
    have SE := fun w h => pSectors_no (.pointer a) w h
    have SI := fun w h => pSize_no (.pointer a) w h
    have WA := fun w h => pWaiting_no (.pointer a) w h
    have IM := fun w h => pImage_no (.pointer a) w h
    have DO := fun w h => pDown_no (.pointer a) w h
    have CO := fun w h => pCount_no (.pointer a) w h
    have CP := fun w h => pCopy_no (.pointer a) w h
    go_enter Try.func29, Try.ntmps29
    go_wp2_with (first
                  | (go_at_call 55; (with_reducible refine (RD _ h).mono ?_); rintro e w1 ⟨rfl, rfl⟩)
                  | (go_at_call 53; (with_reducible refine (WR _ h).mono ?_); rintro e w1 ⟨rfl, rfl⟩)
                  | (go_at_call 54; (with_reducible refine (SY _ h).mono ?_); rintro e w1 ⟨rfl, rfl⟩)
                  | (go_at_call 14; (with_reducible refine (AR _ h).mono ?_); rintro e w1 ⟨rfl, rfl⟩)
                  | (go_at_call 23; (with_reducible refine (RE _ h).mono ?_); rintro e w1 ⟨rfl, rfl⟩)
                  | (go_at_call 69; (with_reducible refine (SE _ h).mono ?_); rintro e w1 ⟨rfl, rfl⟩)
                  | (go_at_call 60; (with_reducible refine (SI _ h).mono ?_); rintro e w1 ⟨rfl, rfl⟩)
                  | (go_at_call 21; (with_reducible refine (WA _ h).mono ?_); rintro e w1 ⟨rfl, rfl⟩)
                  | (go_at_call 27; (with_reducible refine (IM _ h).mono ?_); rintro e w1 ⟨rfl, rfl⟩)
                  | (go_at_call 17; (with_reducible refine (DO _ h).mono ?_); rintro e w1 ⟨rfl, rfl⟩)
                  | (go_at_call 20; (with_reducible refine (CO _ h).mono ?_); rintro e w1 ⟨rfl, rfl⟩)
                  | (go_at_call 70; (with_reducible refine (CP _ h).mono ?_); rintro e w1 ⟨rfl, rfl⟩))
    go_ret
    exact ⟨rfl, rfl⟩
  rcases h with h' | ⟨p, h', _⟩
  · exact key _ h'
  · exact key _ h'
end Go.Proofs.Ytdmnogmhnhjdgaa
