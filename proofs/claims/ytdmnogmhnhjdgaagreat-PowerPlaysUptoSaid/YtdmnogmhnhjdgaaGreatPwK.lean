import Derived.Test.YtdmnogmhnhjdgaaGreatPwJ
import Derived.Test.YtdmnogmhnhjdgaaGreatPwH
/-! Devices: two at a time, fresh; a step of any kind. -/
set_option linter.unusedVariables false
set_option linter.unusedSimpArgs false
set_option maxRecDepth 100000
namespace Go.Proofs.YtdmnogmhnhjdgaaGreat
open Go.RowKit Gw

theorem zero_two : (Tryz.prog.info? 28).map (·.zero) = some (some (.agg #[.pointer none, .pointer none, .pointer none])) := by kernel_rfl
def FreshP (w : World) (e : Ending) (w' : World) : Prop :=
  ∃ p q p' q' L M m, e = .returned (.tuple #[.agg #[.pointer (some ⟨p, 0, none⟩), .pointer (some ⟨q, 0, none⟩), .pointer (some ⟨p', 0, none⟩)], .bool true]) ∧ Pq w w' p q p' q' ⟨m, false, -1, 0⟩ ⟨m, false, -1, 0⟩ L M ∧ m.row.length = 0
set_option maxRecDepth 1000000 in
set_option maxHeartbeats 4000000 in
theorem fresh_any (s z : Int) (w : World) (ws : i64 s) (wz : i64 z) : Calls Tryz.prog 6 #[.int .i64 s, .int .i64 z] w (FreshP w) := by
  have P8 := fun w => pick_any s 8 w ws.1 ws.2 (by omega) (by omega)
  have P2 := fun w => pick_any z 2 w wz.1 wz.2 (by omega) (by omega)
  have g8 := pick_ge s 8
  have l8 := pick_lt s 8 (by omega)
  have g2 := pick_ge z 2
  have l2 := pick_lt z 2 (by omega)
  obtain ⟨k8, hk8⟩ : ∃ k, k = (pick s 8).toNat := ⟨_, rfl⟩
  obtain ⟨Z, hZ⟩ : ∃ Z, Z = pick z 2 := ⟨_, rfl⟩
  rw [show pick s 8 = (k8 : Int) by omega] at P8 l8
  rw [← hZ] at P2 g2 l2
  clear hk8 hZ g8
  have key : ∀ ZZ : Nat, (ZZ = 64 ∨ ZZ = 128) → ((ZZ : Nat) : Int) = wrap64 (64 * 2 ^ Z.toNat) → Calls Tryz.prog 6 #[.int .i64 s, .int .i64 z] w (FreshP w) := by
    intro ZZ hZZ hsh
    have hmay := may_small (1 + k8) (by omega) (by omega) ZZ hZZ
    have N0 := fun w => dnew_yes (1 + k8) ZZ w hmay
    have R0 := fun w => rnew_yes (1 + k8) ZZ w hmay
    unfold NewD at N0
    unfold NewR OwnR at R0
    have hok0 : (Dm.mk ZZ (List.replicate (1 + k8) (zeros ZZ)) []).ok := by
      refine ⟨?_, ?_, ?_, ?_, ?_, ?_⟩ <;> simp [zeros] <;> omega
    obtain ⟨m0, hm0⟩ : ∃ m : Dm, m = ⟨ZZ, List.replicate (1 + k8) (zeros ZZ), []⟩ := ⟨_, rfl⟩
    have hrow0 : m0.row.length = 0 := by rw [hm0]; rfl
    rw [← hm0] at N0 R0 hok0
    clear hm0
    obtain ⟨SS, hSS⟩ : ∃ S : Nat, S = 1 + k8 := ⟨_, rfl⟩
    rw [← hSS] at N0 R0
    rw [hsh, show ((SS : Nat) : Int) = 1 + (k8 : Int) by omega] at N0 R0
    clear hSS
    have PN := fun w q L h => pnew_yes q m0 L w h hok0
    have QN := fun w q L h => qnew_any q m0 L w h hok0
    have HROW := Lib.hid hrow0
    clear hrow0 hsh
    go_enter Tryz.func6, Tryz.ntmps6
    go_wp2_with (with_reducible refine st_alloc ?_)
    refine StopOp.go rfl fun K hK => ?_
    refine wp_alloc zero_two ?_
    intro t w1 ht1 ht2 hm1 hT1
    simp only [put_some, List.set_cons_succ, List.set_cons_zero]
    refine hK _ _ ?_
    clear hK K
    have hT1' : Blk w1 t 28 [.pointer none, .pointer none, .pointer none] := hT1
    clear hT1
    go_wp2_with (first
                  | (with_reducible refine st_store ?_)
                  | (go_at_call 26; (with_reducible refine (P8 _).mono ?_); rintro e w2 ⟨rfl, rfl⟩)
                  | (go_at_call 26; (with_reducible refine (P2 _).mono ?_); rintro e w2 ⟨rfl, rfl⟩)
                  | (go_at_call 20; refine (N0 _).mono ?_; rintro e w2 ⟨q, L2, rfl, hD2, hL2, hm2⟩)
                  | (go_at_call 21; refine (PN _ _ _ hD2).mono ?_; rintro e w3 ⟨p, rfl, hP3, hp3, hm3⟩)
                  | (go_at_call 27; refine (R0 _).mono ?_; rintro e w4 ⟨q', L4, rfl, ⟨hR4, hL4⟩, hm4⟩)
                  | (go_at_call 28; refine (QN _ _ _ hR4).mono ?_; rintro e w5 ⟨p', rfl, hQ5, hp5, hm5⟩))
    have hT5 := (((hT1'.ext hm2).ext hm3).ext hm4).ext hm5
    have hP5 := (hP3.ext hm4).ext hm5
    refine StopOp.go rfl fun K hK => ?_
    refine wp_store (u := .agg #[.pointer (some ⟨p, 0, none⟩), .pointer (some ⟨q, 0, none⟩), .pointer (some ⟨p', 0, none⟩)]) (by rfl) (by rfl) (by kernel_rfl) hT5 (by simp [Value.cells]) (by simp [Value.cells, Value.oneCell']) ?_
    intro w6 hm6 hB6
    refine hK _ _ ?_
    clear hK K
    have hT6 : Blk w6 t 28 [.pointer (some ⟨p, 0, none⟩), .pointer (some ⟨q, 0, none⟩), .pointer (some ⟨p', 0, none⟩)] := hB6
    have t0 := hT6.cell' (i := 0) rfl
    have t1 := hT6.cell' (i := 1) rfl
    have t2 := hT6.cell' (i := 2) rfl
    go_wp2_with fail
    have s1 := hm1.size
    have s2 := hm2.size
    have s3 := hm3.size
    have s4 := hm4.size
    have hPl : ∀ k ∈ p :: L2, w1.heap.size ≤ k ∧ k < w3.heap.size := fun k hk => ⟨(List.mem_cons.1 hk).elim (fun e => by omega) (fun h => by have := hL2 k h; omega), hP3.lt k hk⟩
    have hQl : ∀ k ∈ p' :: L4, w3.heap.size ≤ k := fun k hk => (List.mem_cons.1 hk).elim (fun e => by omega) (fun h => hL4 k h)
    have hm05 : Mod [] w w5 := (((hm1.ext hm2).ext hm3).ext hm4).ext hm5
    refine bodyPost_ret (v := .tuple #[.agg #[.pointer (some ⟨p, 0, none⟩), .pointer (some ⟨q, 0, none⟩), .pointer (some ⟨p', 0, none⟩)], .bool true]) (by simp [results, Tryz.results6, go_sem, t0, t1, t2]) rfl ⟨p, q, p', q', L2, L4, m0, rfl, ⟨hP5.keep hm6 (fun k hk hh => ?_), hQ5.keep hm6 (fun k hk hh => ?_), fun k hk hh => ?_, hm05.fresh hm6 (by simpa using ht1), fun k hk => ?_, fun k hk => ?_⟩, HROW.out⟩
    · have e : k = t := by simpa using hh
      have := hPl k hk; omega
    · have e : k = t := by simpa using hh
      have := hQl k hk; omega
    · have := hPl k hk
      have := hQl k hh
      omega
    · have := hPl k hk; omega
    · have := hQl k hk; omega
  obtain rfl | rfl : Z = 0 ∨ Z = 1 := by omega
  · exact key 64 (.inl rfl) (by simp [wrap64])
  · exact key 128 (.inr rfl) (by simp [wrap64])
theorem step_any (W w : World) (p q p' q' : Nat) (uv : Option Addr) (v : Pv) (L M : List Nat) (o : Pop) (hP : Pq W w p q p' q' v v L M) (ho : OkPop W o) (hn : v.n ≤ 1000000) (hr : v.m.row.length ≤ 1000000) (h7 : o.k ≠ 7) (h8 : o.k ≠ 8) :
    Calls Tryz.prog 8 #[.agg #[.pointer (some ⟨p, 0, none⟩), .pointer uv, .pointer (some ⟨p', 0, none⟩)], .agg o.cells.toArray] w (StepP W w p q p' q' (stepV v o) L M) := by
  by_cases h1 : o.k = 1
  · exact step1_any W w p q p' q' uv v L M o hP ho hn hr h1
  by_cases h2 : o.k = 2
  · exact step2_any W w p q p' q' uv v L M o hP ho hn hr h2
  by_cases h3 : o.k = 3
  · exact step3_any W w p q p' q' uv v L M o hP ho hn hr h3
  by_cases h4 : o.k = 4
  · exact step4_any W w p q p' q' uv v L M o hP ho hn hr h4
  by_cases h5 : o.k = 5
  · exact step5_any W w p q p' q' uv v L M o hP ho hn hr h5
  · exact stepN_any W w p q p' q' uv v L M o hP ho hn hr (by omega)
theorem md_n (v : Pv) : v.md.n ≤ v.n + 1 := by
  unfold Pv.md
  split
  · omega
  · split <;> simp
theorem wrM_rows (m : Dm) (a : Int) (l : List UInt8) : (wrM m a l).row.length ≤ m.row.length + 1 := by
  unfold wrM
  split
  · simp [Dm.write]
  · omega
theorem stepV_n (v : Pv) (o : Pop) : (stepV v o).n ≤ v.n + 1 ∧ (stepV v o).m.row.length ≤ v.m.row.length + 1 := by
  have h1 := md_n v
  have h2 := v.md_m
  unfold stepV
  split
  · unfold Pv.wr
    split
    · exact ⟨h1, wrM_rows _ _ _⟩
    · exact ⟨h1, by rw [h2]; omega⟩
  split
  · exact ⟨h1, by rw [h2]; omega⟩
  split
  · unfold Pv.sy
    split
    · exact ⟨h1, by show v.m.sync.row.length ≤ _; simp [Dm.sync, Dm.settle]⟩
    · exact ⟨h1, by rw [h2]; omega⟩
  split
  · unfold Pv.arm
    split
    · exact ⟨by omega, by omega⟩
    · exact ⟨by show v.n ≤ _; omega, by show v.m.row.length ≤ _; omega⟩
  split
  · exact ⟨by show 0 ≤ _; omega, by show (v.m.crash o.F).row.length ≤ _; simp [Dm.crash, Dm.settle]⟩
  split
  · exact ⟨by show v.n ≤ _; omega, wrM_rows _ _ _⟩
  split
  · exact ⟨by show v.n ≤ _; omega, by show v.m.sync.row.length ≤ _; simp [Dm.sync, Dm.settle]⟩
  · exact ⟨by omega, by omega⟩
end Go.Proofs.YtdmnogmhnhjdgaaGreat
