import Derived.Test.YtdmnogmhnhjdgaaRgG
import Derived.Test.YtdmnogmhnhjdgaaApartB
import Derived.Test.YtdmnogmhnhjdgaaGPw
/-! Regions: the law's devices; awake. -/
set_option linter.unusedVariables false
set_option linter.unusedSimpArgs false
set_option maxRecDepth 100000
namespace Go.Proofs.Ytdmnogmhnhjdgaa
open Go.RowKit Gw

theorem may_s (s : Nat) (h1 : 1 ≤ s) (h2 : s ≤ 9) (z : Nat) (hz : z = 64 ∨ z = 128) : mayD s z = true := by
  have hs : s = 1 ∨ s = 2 ∨ s = 3 ∨ s = 4 ∨ s = 5 ∨ s = 6 ∨ s = 7 ∨ s = 8 ∨ s = 9 := by omega
  rcases hs with rfl | rfl | rfl | rfl | rfl | rfl | rfl | rfl | rfl <;> rcases hz with rfl | rfl <;> decide
/-- a disk just made -/
def dev0 (n z : Nat) : Dm := ⟨z, List.replicate n (zeros z), []⟩
theorem dev0_ok (n z : Nat) (h1 : 1 ≤ n) (h2 : n ≤ 9) (hz : z = 64 ∨ z = 128) : (dev0 n z).ok := by
  refine ⟨?_, ?_, ?_, ?_, ?_, ?_⟩ <;> simp [dev0, zeros] <;> omega
/-- two devices, the program's and the document's, over fresh disks -/
def DevP (n z : Nat) (w : World) (e : Ending) (w' : World) : Prop :=
  ∃ p q p' q' L M, e = .returned (.tuple #[.pointer (some ⟨p, 0, none⟩), .pointer (some ⟨p', 0, none⟩), .bool true]) ∧ Pd w' p q ⟨dev0 n z, false, -1, 0⟩ L ∧ Pr w' p' q' ⟨dev0 n z, false, -1, 0⟩ M ∧ (∀ k ∈ p :: L, k ∉ p' :: M) ∧ Mod [] w w' ∧ (∀ k ∈ p :: L, w.heap.size ≤ k) ∧ (∀ k ∈ p' :: M, w.heap.size ≤ k)
def szZ (z : Int) : Nat := if pick z 2 = 0 then 64 else 128
def nS (s : Int) : Nat := 1 + (pick s 9).toNat
theorem szZ_or (z : Int) : szZ z = 64 ∨ szZ z = 128 := by unfold szZ; split <;> simp
theorem nS_le (s : Int) : 1 ≤ nS s ∧ nS s ≤ 9 := by have := pick_lt s 9 (by omega); unfold nS; omega
set_option maxRecDepth 1000000 in
set_option maxHeartbeats 4000000 in
theorem device_any (s z : Int) (w : World) (ws : i64 s) (wz : i64 z) : Calls Try.prog 30 #[.int .i64 s, .int .i64 z] w (DevP (nS s) (szZ z) w) := by
  have P9 := fun w => pick_any s 9 w ws.1 ws.2 (by omega) (by omega)
  have P2 := fun w => pick_any z 2 w wz.1 wz.2 (by omega) (by omega)
  have g9 := pick_ge s 9
  have l9 := pick_lt s 9 (by omega)
  have g2 := pick_ge z 2
  have l2 := pick_lt z 2 (by omega)
  have hN1 := nS_le s
  have hZ1 := szZ_or z
  obtain ⟨N, hN⟩ : ∃ N, N = nS s := ⟨_, rfl⟩
  obtain ⟨ZZ, hZZ⟩ : ∃ N, N = szZ z := ⟨_, rfl⟩
  have hNN : (N : Int) = 1 + pick s 9 := by rw [hN]; unfold nS; omega
  have hsh : ((ZZ : Nat) : Int) = wrap64 (64 * 2 ^ (pick z 2).toNat) := by
    rw [hZZ]
    unfold szZ
    obtain h | h : pick z 2 = 0 ∨ pick z 2 = 1 := by omega
    · rw [h]; simp [wrap64]
    · rw [h]; simp [wrap64]
  rw [← hN] at hN1 ⊢
  rw [← hZZ] at hZ1 ⊢
  obtain ⟨K9, hK9⟩ : ∃ Z, Z = pick s 9 := ⟨_, rfl⟩
  obtain ⟨Z, hZ⟩ : ∃ Z, Z = pick z 2 := ⟨_, rfl⟩
  rw [← hK9] at P9 g9 l9 hNN
  rw [← hZ] at P2 g2 l2 hsh
  clear hK9 hZ hN hZZ
  have hmay := may_s N hN1.1 hN1.2 ZZ hZ1
  have N0 := fun w => dnew_yes N ZZ w hmay
  have R0 := fun w => rnew_yes N ZZ w hmay
  unfold NewD at N0
  unfold NewR OwnR at R0
  have hok0 := dev0_ok N ZZ hN1.1 hN1.2 hZ1
  unfold DevP
  have hd : dev0 N ZZ = ⟨ZZ, List.replicate N (zeros ZZ), []⟩ := rfl
  obtain ⟨m0, hm0⟩ : ∃ m : Dm, m = ⟨ZZ, List.replicate N (zeros ZZ), []⟩ := ⟨_, rfl⟩
  rw [hd, ← hm0]
  rw [hd, ← hm0] at hok0
  rw [← hm0] at N0 R0
  clear hm0 hd
  rw [hsh, hNN] at N0 R0
  clear hsh hNN hN1 hZ1 hmay
  have PN := fun w q L h => pnew_yes q m0 L w h hok0
  have QN := fun w q L h => qnew_any q m0 L w h hok0
  go_enter Try.func30, Try.ntmps30
  go_wp2_with (first
                | (go_at_call 11; (with_reducible refine (P9 _).mono ?_); rintro e w2 ⟨rfl, rfl⟩)
                | (go_at_call 11; (with_reducible refine (P2 _).mono ?_); rintro e w2 ⟨rfl, rfl⟩)
                | (go_at_call 12; refine (N0 _).mono ?_; rintro e w2 ⟨q, L2, rfl, hD2, hL2, hm2⟩)
                | (go_at_call 13; refine (PN _ _ _ hD2).mono ?_; rintro e w3 ⟨p, rfl, hP3, hp3, hm3⟩)
                | (go_at_call 71; refine (R0 _).mono ?_; rintro e w4 ⟨q', L4, rfl, ⟨hR4, hL4⟩, hm4⟩)
                | (go_at_call 72; refine (QN _ _ _ hR4).mono ?_; rintro e w5 ⟨p', rfl, hQ5, hp5, hm5⟩))
  refine bodyPost_ret (v := .tuple #[.pointer (some ⟨p, 0, none⟩), .pointer (some ⟨p', 0, none⟩), .bool true]) (by simp [results, Try.results30, go_sem]) rfl ?_
  have hP5 := (hP3.ext hm4).ext hm5
  have s2 := hm2.size
  have s3 := hm3.size
  have s4 := hm4.size
  have hPl : ∀ k ∈ p :: L2, w.heap.size ≤ k ∧ k < w3.heap.size := fun k hk => ⟨(List.mem_cons.1 hk).elim (fun e => by omega) (fun h => by have := hL2 k h; omega), hP3.lt0 k hk⟩
  have hQl : ∀ k ∈ p' :: L4, w3.heap.size ≤ k := fun k hk => (List.mem_cons.1 hk).elim (fun e => by omega) (fun h => hL4 k h)
  refine ⟨p, q, p', q', L2, L4, rfl, hP5, hQ5, fun k hk hh => ?_, ((hm2.ext hm3).ext hm4).ext hm5, fun k hk => (hPl k hk).1, fun k hk => ?_⟩
  · have := hPl k hk
    have := hQl k hh
    omega
  · have := hQl k hk; omega
end Go.Proofs.Ytdmnogmhnhjdgaa
