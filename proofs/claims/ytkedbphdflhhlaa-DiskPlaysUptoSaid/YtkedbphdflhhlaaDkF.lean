import Derived.Test.YtkedbphdflhhlaaDkR
/-! Disks: how many bytes of a write become durable: what Sync and Crash say. -/
set_option linter.unusedVariables false
set_option linter.unusedSimpArgs false
set_option maxRecDepth 100000
namespace Go.Proofs.Ytkedbphdflhhlaa
open Go.RowKit Gw

/-- fates: their kind, and where they tear -/
def fcells (F : List (Int × Int)) : List Value := F.flatMap fun x => [.int .i64 x.1, .int .i64 x.2]
theorem fcells_at : ∀ (F : List (Int × Int)) (j : Nat) (h : j < F.length), (fcells F)[j * 2]? = some (.int .i64 F[j].1) ∧ (fcells F)[j * 2 + 1]? = some (.int .i64 F[j].2)
  | x :: l, 0, h => ⟨rfl, rfl⟩
  | x :: l, j + 1, h => by
    have := fcells_at l j (by simpa using h)
    simp only [List.getElem_cons_succ]
    have e1 : (j + 1) * 2 = j * 2 + 2 := by omega
    rw [e1]
    unfold fcells at this ⊢
    rw [List.flatMap_cons]
    exact this
theorem fcells_len (F : List (Int × Int)) : (fcells F).length = F.length * 2 := by
  induction F with
  | nil => rfl
  | cons x l ih => unfold fcells at ih ⊢; rw [List.flatMap_cons, List.length_append, ih]; simp; omega
/-- a slice of fates -/
def Fs (w : World) (v : Value) (F : List (Int × Int)) : Prop := Sl w 2 v F.length (fcells F)
theorem Fs.far {w w' : World} {v : Value} {F : List (Int × Int)} {L : List Nat} (h : Fs w v F) (hm : Mod L w w') (hL : F ≠ [] → ∀ b ∈ blks v, b ∉ L) : Fs w' v F :=
  Sl.keep h fun b hb hx => hm.block b (Sl.lt h hx b hb) (hL (by rintro rfl; exact hx rfl) b hb)
def fateK (sz : Nat) (F : List (Int × Int)) (i : Nat) : Int := match F[i]? with
  | some x => if x.1 = 1 then sz else if x.1 = 2 then x.2 else 0
  | none => 0
theorem zero_fate : (Try.prog.info? 54).map (·.zero) = some (some (.agg #[.int .i64 0, .int .i64 0])) := by kernel_rfl
theorem sync1_any (i : Int) (q p sz : Nat) (D R : Value) (M : Nat) (w : World) (hq : Blk w q 57 [.pointer (some ⟨p, 0, none⟩)]) (hB : Blk w p 110 [.int .i64 (sz : Nat), D, R, .map (some M)]) :
    Calls Try.prog 81 #[.int .i64 i, .pointer (some ⟨q, 0, none⟩)] w fun e w' => e = .returned (.int .i64 (sz : Nat)) ∧ w = w' := by
  have c0 := hB.cell' (i := 0) rfl
  have d0 := hq.cell' (i := 0) rfl
  clear hB hq
  go_enter Try.func81, Try.ntmps81
  go_wp2
  go_ret
  exact ⟨rfl, rfl⟩
set_option maxHeartbeats 1000000 in
theorem crash1_any (i : Nat) (F : List (Int × Int)) (fv : Value) (t q p sz : Nat) (D R : Value) (M : Nat) (w : World) (ht : Blk w t 65 [fv]) (hq : Blk w q 57 [.pointer (some ⟨p, 0, none⟩)]) (hF : Fs w fv F)
    (hB : Blk w p 110 [.int .i64 (sz : Nat), D, R, .map (some M)]) :
    Calls Try.prog 82 #[.int .i64 (i : Nat), .pointer (some ⟨t, 0, none⟩), .pointer (some ⟨q, 0, none⟩)] w fun e w' => e = .returned (.int .i64 (fateK sz F i)) ∧ Mod [] w w' := by
  obtain ⟨ao, cap, rfl, hc1, hc2⟩ := hF.form
  have t0 := ht.cell' (i := 0) rfl
  by_cases hi : i < F.length
  · obtain ⟨b, o, c, hv, _, _, hcell⟩ := hF.at (by intro h; have := congrArg List.length h; rw [fcells_len] at this; simp only [List.length_nil] at this; omega)
    injection hv with e1 e2 e3
    subst e1 e3
    have f0 := hcell _ _ (fcells_at F i hi).1
    have f1 := hcell _ _ (fcells_at F i hi).2
    rw [← Nat.add_assoc] at f1
    have hk : fateK sz F i = if F[i].1 = 1 then (sz : Int) else if F[i].1 = 2 then F[i].2 else 0 := by unfold fateK; rw [List.getElem?_eq_getElem hi]
    rw [hk]
    obtain ⟨k, hkk⟩ : ∃ k, k = F[i].1 := ⟨_, rfl⟩
    obtain ⟨a, haa⟩ : ∃ k, k = F[i].2 := ⟨_, rfl⟩
    rw [← hkk] at f0 ⊢
    rw [← haa] at f1 ⊢
    have y1 : (i : Int) < F.length := by omega
    have y2 : (0 : Int) ≤ i := by omega
    have hBq := hq
    obtain ⟨G, hG⟩ : ∃ G : Int, G = if k = 1 then (sz : Int) else if k = 2 then a else 0 := ⟨_, rfl⟩
    rw [← hG]
    have HG := Lib.hid hG
    clear hkk haa hk hcell hG
    go_enter Try.func82, Try.ntmps82
    go_wp2_with (with_reducible refine st_alloc ?_)
    refine StopOp.go rfl fun K hK => ?_
    refine wp_alloc zero_fate ?_
    intro g w1 hg1 hg2 hm1 hB1
    simp only [put_some, List.set_cons_succ, List.set_cons_zero]
    refine hK _ _ ?_
    clear hK K
    go_wp2_with (with_reducible refine st_store ?_)
    refine StopOp.go rfl fun K hK => ?_
    refine wp_store (u := .agg #[.int .i64 k, .int .i64 a]) (by rfl) (by rfl) (by kernel_rfl) hB1 (by simp [Value.cells]) (by simp [Value.cells, Value.oneCell']) ?_
    intro w2 hm2 hB2
    refine hK _ _ ?_
    clear hK K
    have hX : Blk w2 g 54 [.int .i64 k, .int .i64 a] := hB2
    have hM2 : Mod [] w w2 := hm1.fresh hm2 (by simpa using hg1)
    have x0 := hX.cell' (i := 0) rfl
    have x1 := hX.cell' (i := 1) rfl
    have q0 := (hq.ext hM2).cell' (i := 0) rfl
    have b0 := (hB.ext hM2).cell' (i := 0) rfl
    clear hB1 hB2 hm1 hm2 hX hBq hB hq ht hF
    by_cases k1 : k = 1
    · subst k1
      obtain rfl : G = sz := by rw [HG.out, if_pos rfl]
      go_wp2_with fail
      go_ret
      exact ⟨rfl, hM2⟩
    · have e1 : (k == 1) = false := by simpa using k1
      by_cases k2 : k = 2
      · subst k2
        obtain rfl : G = a := by rw [HG.out, if_neg k1, if_pos rfl]
        go_wp2_with fail
        go_ret
        exact ⟨rfl, hM2⟩
      · have e2 : (k == 2) = false := by simpa using k2
        obtain rfl : G = 0 := by rw [HG.out, if_neg k1, if_neg k2]
        clear k1 k2
        go_wp2_with fail
        go_ret
        exact ⟨rfl, hM2⟩
  · have hk : fateK sz F i = 0 := by unfold fateK; rw [List.getElem?_eq_none (by omega)]
    rw [hk]
    have y1 : (F.length : Int) ≤ i := by omega
    have y2 : F.length ≤ i := by omega
    clear hk
    go_enter Try.func82, Try.ntmps82
    go_wp2
    go_ret
    exact ⟨rfl, Mod.refl _ _⟩
end Go.Proofs.Ytkedbphdflhhlaa
