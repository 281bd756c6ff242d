import Derived.Test.YtdmnogmhnhjdgaaGreatFlS
import Derived.Test.YtdmnogmhnhjdgaaGreatPwK
/-! Devices: two images lie apart; both devices tell the same. -/
set_option linter.unusedVariables false
set_option linter.unusedSimpArgs false
set_option maxRecDepth 100000
namespace Go.Proofs.YtdmnogmhnhjdgaaGreat
open Go.RowKit Gw

theorem Fam.both {w : World} {base : Nat} {A B : List (Value × List UInt8)} (hA : Fam w base A) (hB : Fam w base B) (h : ∀ p ∈ A, ∀ q ∈ B, ∀ b ∈ blks p.1, b ∉ blks q.1) : Fam w base (A ++ B) := ⟨fun p hp => (List.mem_append.1 hp).elim (hA.ob p) (hB.ob p), List.pairwise_append.2 ⟨hA.dj, hB.dj, h⟩⟩
theorem rc_two (va vb : Value) : rc (fun a => if a = 0 then va else vb) 2 = [va, vb] := rfl
set_option maxRecDepth 1000000 in
set_option maxHeartbeats 8000000 in
theorem apartRows_any (A B : List (Value × List UInt8)) (va vb : Value) (base g : Nat) (w : World) (hA : RowsO w base va A) (hB : RowsO w base vb B) (hg : Blk w g 38 [va, vb]) (hd : ∀ b ∈ blks va, b ∉ blks vb)
    (hAB : ∀ p ∈ A, ∀ q ∈ B, ∀ b ∈ blks p.1, b ∉ blks q.1) (hl1 : A.length ≤ 70000) (hl2 : B.length ≤ 70000) (hA2 : ∀ p ∈ A, p.2.length ≤ 1000000) (hB2 : ∀ p ∈ B, p.2.length ≤ 1000000) :
    Calls Tryz.prog 60 #[.slice (some ⟨g, 0, none⟩) 2 2] w fun e w' => e = .returned (.bool true) ∧ ∃ X, Mod X w w' ∧ ∀ b ∈ X, b ∈ blks va ∨ b ∈ blks vb ∨ ∃ p ∈ A ++ B, b ∈ blks p.1 := by
  have hF : ∀ w', Mod [] w w' → Fam w' base (A ++ B) := fun w' hm => (Fam.both hA.fam hB.fam hAB).ext hm
  have AP := fun w lv h1 h2 => apart_fam (A ++ B) base (A ++ B).length lv w rfl h1 h2 (by rw [List.length_append]; omega) (fun p hp => (List.mem_append.1 hp).elim (fun h => by have := hA2 p h; omega) (fun h => by have := hB2 p h; omega))
  have hd2 : Dj 2 (fun a => if a = 0 then va else vb) := fun a b ha hb hab k hk hk2 => by
    obtain rfl | rfl : a = 0 ∨ a = 1 := by omega
    · obtain rfl : b = 1 := by omega
      exact hd k hk hk2
    · obtain rfl : b = 0 := by omega
      exact hd k hk2 hk
  have FR : ∀ w', Ow w' 32 1 va A.length (A.map (·.1)) → Ow w' 32 1 vb B.length (B.map (·.1)) → Blk w' g 38 [va, vb] → Calls Tryz.prog 85 #[.slice (some ⟨g, 0, none⟩) 2 2] w' fun e w2 => e = .returned (.bool true) ∧ Mod (LB (fun a => if a = 0 then va else vb) 2) w' w2 := fun w' h1 h2 h3 =>
    flatRows_any (fun a => if a = 0 then va else vb) (fun a => if a = 0 then A.map (·.1) else B.map (·.1)) (fun a => if a = 0 then A.length else B.length) 2 _ w' (by rw [rc_two]; exact Ow.of_blk (rest := []) (by rw [List.append_nil]; exact h3) (Nat.le_refl _) (by omega) rfl rfl)
      (fun a ha => by
        obtain rfl | rfl : a = 0 ∨ a = 1 := by omega
        · exact h1
        · exact h2) hd2 (by omega) (fun a ha => by
        obtain rfl | rfl : a = 0 ∨ a = 1 := by omega
        · show A.length ≤ _; omega
        · show B.length ≤ _; omega)
  obtain ⟨aoa, capa, rfl, _, _⟩ := hA.ow.sl.form
  obtain ⟨aob, capb, rfl, _, _⟩ := hB.ow.sl.form
  have y1 : (A.length : Int) ≤ 70000 := by omega
  have y2 : (B.length : Int) ≤ 70000 := by omega
  have hone : ∀ L : List (Value × List UInt8), (∀ p ∈ L, Bs w p.1 p.2) → ∀ u ∈ L.map (·.1), u.oneCell' = true := fun L hL u hu => by
    obtain ⟨p, hp, rfl⟩ := List.mem_map.1 hu
    obtain ⟨_, _, e, _⟩ := (hL p hp).form
    rw [e]
    rfl
  have hoA := hone A hA.r.2
  have hoB := hone B hB.r.2
  go_enter Tryz.func60, Tryz.ntmps60
  go_wp2_with fail
  go_loopw [3, 4] (fun lv kv wr => Mod [] w wr ∧ ((kv = .int .i64 0 ∧ lv = .slice none 0 0) ∨ (kv = .int .i64 1 ∧ Ow wr 32 1 lv A.length (A.map (·.1)) ∧ New w lv) ∨ (kv = .int .i64 2 ∧ Ow wr 32 1 lv (A.length + B.length) (A.map (·.1) ++ B.map (·.1)) ∧ New w lv))) (fun _ kv _ => 2 - (intOf kv).toNat)
  case atStart => exact ⟨Mod.refl _ _, .inl ⟨rfl, rfl⟩⟩
  case round =>
    obtain ⟨hM, hk⟩ := hrel
    have hgr := hg.ext hM
    rcases hk with ⟨rfl, rfl⟩ | ⟨rfl, hlv, hnw⟩ | ⟨rfl, hlv, hnw⟩
    · have c0 := hgr.cell' (i := 0) rfl
      go_wp2_with (with_reducible refine st_append ?_)
      refine StopOp.go rfl fun K hK => ?_
      refine wp_append_ow stRow (by rfl) (by rfl) (Ow.nil wr _ 1) (hA.ow.sl.ext hM) hoA (by omega) (by omega) ?_
      intro v5 w5 ho5 hm5 hb5
      simp only [put_some, List.set_cons_succ, List.set_cons_zero]
      refine hK _ _ ?_
      clear hK K
      rw [List.nil_append, Nat.zero_add] at ho5
      obtain ⟨ao5, cap5, rfl, _, _⟩ := ho5.sl.form
      go_wp2_with fail
      go_roundw
      case rel => exact ⟨hM.ext (hm5.weak (by simp [blks])), .inr (.inl ⟨rfl, ho5, fun k hk => (hb5 k hk).elim (fun h => by simp [blks] at h) (fun h => Nat.le_trans hM.size h)⟩)⟩
      case measure => simp [intOf]
    · have c1 := hgr.cell' (i := 1) rfl
      obtain ⟨ao4, cap4, rfl, _, _⟩ := hlv.sl.form
      go_wp2_with (with_reducible refine st_append ?_)
      refine StopOp.go rfl fun K hK => ?_
      refine wp_append_ow stRow (by rfl) (by rfl) hlv (hB.ow.sl.ext hM) hoB (by omega) (by omega) ?_
      intro v5 w5 ho5 hm5 hb5
      simp only [put_some, List.set_cons_succ, List.set_cons_zero]
      refine hK _ _ ?_
      clear hK K
      obtain ⟨ao5, cap5, rfl, _, _⟩ := ho5.sl.form
      go_wp2_with fail
      go_roundw
      case rel => exact ⟨hM.fresh hm5 hnw, .inr (.inr ⟨rfl, ho5, fun k hk => (hb5 k hk).elim (hnw k) (fun h => Nat.le_trans hM.size h)⟩)⟩
      case measure => simp [intOf]
    · obtain ⟨ao4, cap4, rfl, _, _⟩ := hlv.sl.form
      have hl : Sl wr 1 (.slice ao4 (A.length + B.length) cap4) (A ++ B).length ((A ++ B).map (·.1)) := by
        rw [List.length_append, List.map_append]
        exact hlv.sl
      have hfm := hF wr hM
      go_wp2_with (first
                    | (go_at_call 36; (with_reducible refine (AP _ _ hl hfm).mono ?_); rintro e w6 ⟨rfl, X, hm6, hX⟩; have hro : ∀ v, ∀ (m : Nat) (xs : List Value), Ow wr 32 1 v m xs → Ow w6 32 1 v m xs := (fun v m xs ho => Ow.mod ho hm6 (fun b hb hh => by obtain ⟨p, hp, hb2⟩ := hX b hh; exact ow_apart (hfm.ob p hp).1 ho ne_rows b hb2 hb)); have h1 := hro _ _ _ (hA.ow.ext hM); have h2 := hro _ _ _ (hB.ow.ext hM); have h3 : Blk w6 g 38 _ := hgr.mod hm6 (fun hh => by obtain ⟨p, hp, hb2⟩ := hX g hh; exact Ow.ne (hfm.ob p hp).1 hgr ne_b2 hb2))
                    | (go_at_call 85; (with_reducible refine (FR _ h1 h2 h3).mono ?_); rintro e w7 ⟨rfl, hm7⟩))
      go_ret
      refine ⟨rfl, X ++ LB _ 2, ((hM.weak (by simp)).trans (hm6.weak (fun b hb => .inl (List.mem_append_left _ hb)))).trans (hm7.weak (fun b hb => .inl (List.mem_append_right _ hb))), fun b hb => ?_⟩
      rcases List.mem_append.1 hb with h | h
      · exact .inr (.inr (hX b h))
      · obtain ⟨a, ha, hb2⟩ := of_LB h
        obtain rfl | rfl : a = 0 ∨ a = 1 := by omega
        · exact .inl hb2
        · exact .inr (.inl hb2)
end Go.Proofs.YtdmnogmhnhjdgaaGreat
