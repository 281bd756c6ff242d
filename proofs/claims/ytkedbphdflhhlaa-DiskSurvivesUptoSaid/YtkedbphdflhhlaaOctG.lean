import Derived.Test.YtkedbphdflhhlaaOctF
set_option linter.unusedVariables false
set_option linter.unusedSimpArgs false
set_option maxRecDepth 100000
namespace Go.Proofs.Ytkedbphdflhhlaa
open Go.RowKit Gw

theorem same_yes (la lb : List UInt8) (va vb : Value) (w : World) (ha : Bs w va la) (hb : Bs w vb lb) (h : la = lb) :
    Calls Try.prog 27 #[va, vb] w fun e w' => e = .returned (.bool true) ∧ Mod [] w w' :=
  (same_any la lb va vb w ha hb).mono fun e w' ⟨he, hm⟩ => ⟨by rw [he, decide_eq_true h], hm⟩
theorem rtwo_val (r q : Nat) (l : List UInt8) (err : Int) (m : Nat) (l' : List UInt8) (err' : Int) (w : World) (h : Rd w r q l err) (hm : got l err 2 = m) (hl : tkRest l err 2 = l') (he : tkErr l err 2 = err') :
    Calls Try.prog 43 #[.pointer (some ⟨r, 0, none⟩)] w fun e w' => e = .returned (.int .u16 m) ∧ Rd w' r q l' err' ∧ Mod [q] w w' :=
  (rtwo_any r q l err w h).mono fun e w' ⟨h1, h2, h3⟩ => ⟨by rw [h1, hm], by rw [← hl, ← he]; exact h2, h3⟩

theorem Wr.new {w : World} {g : Nat} (h : Blk w g 25 [.slice none 0 0]) : Wr w g [] := ⟨_, h, (Ob.nil w).bs⟩
theorem zero_writer : (Try.prog.info? 25).map (·.zero) = some (some (.agg #[.slice none 0 0])) := by kernel_rfl

set_option maxHeartbeats 1000000 in
theorem awake_any (w : World) : Calls Try.prog 19 #[] w fun e w' => e = .returned (.bool true) ∧ Mod [] w w' := by
  go_enter Try.func19, Try.ntmps19
  go_wp2_with (with_reducible refine st_alloc ?_)
  refine StopOp.go rfl fun K hK => ?_
  refine wp_alloc zero_writer ?_
  intro g w1 hg1 hg2 hm1 hB1
  simp only [put_some, List.set_cons_succ, List.set_cons_zero]
  refine hK _ _ ?_
  clear hK K
  go_wp2_with (first | (with_reducible refine st_bslice ?_) | (go_at_call 15; refine (two_any g [] 258 _ (Wr.new hB1) (by omega) (by omega) (by simp)).mono ?_; rintro e w2 ⟨rfl, hw2, hm2⟩))
  refine StopOp.go rfl fun K hK => ?_
  refine wp_bslice stB [.int .u8 1, .int .u8 2, .int .u8 3] rfl (by decide) (by rfl) (by simp [Value.cells]) ?_
  intro b w3 hb1 hb2 hm3 hB3
  simp only [put_some, List.set_cons_succ, List.set_cons_zero]
  refine hK _ _ ?_
  clear hK K
  have hb3 : Bs w3 (.slice (some ⟨b, 0, none⟩) 3 3) [1, 2, 3] := Bs.of_blk (l := [1, 2, 3]) (rest := []) hB3 (by simp) (by omega)
  have hw3 := hw2.ext hm3
  have s1 := hm1.size
  have s2 := hm2.size
  have s3 := hm3.size
  go_wp2_with (first | (with_reducible refine st_bslice ?_) | (go_at_call 23; refine (of_any [1, 2, 3] _ _ hb3 (by simp)).mono ?_; rintro e w4 ⟨r, q, rfl, hr4, hq4, hqr, hrd4, hm4⟩) | (go_at_call 18; refine (out_any g _ _ (hw3.ext hm4) (by rw [List.nil_append, low_length]; omega)).mono ?_; rintro e w5 ⟨v5, rfl, ho5, hn5, hm5⟩))
  refine StopOp.go rfl fun K hK => ?_
  refine wp_bslice stB [.int .u8 2, .int .u8 1] rfl (by decide) (by rfl) (by simp [Value.cells]) ?_
  intro c w6 hc1 hc2 hm6 hB6
  simp only [put_some, List.set_cons_succ, List.set_cons_zero]
  refine hK _ _ ?_
  clear hK K
  have hb6 : Bs w6 (.slice (some ⟨c, 0, none⟩) 2 2) [2, 1] := Bs.of_blk (l := [2, 1]) (rest := []) hB6 (by simp) (by omega)
  have ho6 := ho5.bs.ext hm6
  have hrd6 := (hrd4.ext hm5).ext hm6
  go_wp2_with (first
                | (go_at_call 27; refine (same_yes _ _ _ _ _ ho6 hb6 (by decide)).mono ?_; rintro e w7 ⟨rfl, hm7⟩)
                | (go_at_call 43; refine (rtwo_val r q [1, 2, 3] 0 513 [3] 0 _ (hrd6.ext hm7) (by decide) (by decide) (by decide)).mono ?_; rintro e w8 ⟨rfl, hrd8, hm8⟩)
                | (go_at_call 26; refine (left_any r q [3] 0 _ hrd8).mono ?_; rintro e w9 ⟨rfl, rfl⟩)
                | (go_at_call 48; refine (err_any r q [3] 0 _ hrd8).mono ?_; rintro e w9 ⟨rfl, rfl⟩))
  go_ret
  refine ⟨rfl, ?_⟩
  have m4 : Mod [] w w4 := ((hm1.fresh hm2 (by simpa using hg1)).ext hm3).ext hm4
  exact (((m4.ext hm5).ext hm6).ext hm7).fresh hm8 (by simp; omega)
end Go.Proofs.Ytkedbphdflhhlaa
