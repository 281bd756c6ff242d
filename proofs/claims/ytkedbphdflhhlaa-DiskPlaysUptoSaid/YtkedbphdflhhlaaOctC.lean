import Derived.Test.YtkedbphdflhhlaaOctB
set_option linter.unusedVariables false
set_option linter.unusedSimpArgs false
set_option maxRecDepth 100000
namespace Go.Proofs.Ytkedbphdflhhlaa
open Go.RowKit Gw

/-- new memory: none of its blocks was there -/
def New (w : World) (v : Value) : Prop := ∀ k ∈ blks v, w.heap.size ≤ k
/-- a slice of bytes of the call's own -/
def Ob (w : World) (v : Value) (l : List UInt8) : Prop := Ow w 5 1 v l.length (bv l)
theorem Ob.bs {w : World} {v : Value} {l : List UInt8} (h : Ob w v l) : Bs w v l := Ow.sl h
theorem Ob.ext {w w' : World} {v : Value} {l : List UInt8} (h : Ob w v l) (hm : Mod [] w w') : Ob w' v l := Ow.ext h hm
theorem Ob.nil (w : World) : Ob w (.slice none 0 0) [] := Ow.nil w _ _
theorem New.mono {w w' : World} {v : Value} (h : New w' v) (hm : w.heap.size ≤ w'.heap.size) : New w v := fun k hk => Nat.le_trans hm (h k hk)

set_option maxHeartbeats 400000 in
theorem clone_any (l : List UInt8) (v : Value) (w : World) (hv : Bs w v l) (hl : l.length ≤ 140737488355328) :
    Calls Try.prog 70 #[v] w fun e w' => ∃ v', e = .returned v' ∧ Ob w' v' l ∧ New w v' ∧ Mod [] w w' := by
  obtain ⟨ao, cap, rfl, hnc, hcap⟩ := hv.form
  rcases ao with _ | ad
  · have h0 : cap = 0 := by
      obtain ⟨ao2, cap2, hv2, _, _, _, hn, _⟩ := hv
      injection hv2 with e1 e2 e3
      exact e3 ▸ hn e1.symm
    subst h0
    obtain rfl : l = [] := List.eq_nil_of_length_eq_zero (by omega)
    go_enter Try.func70, Try.ntmps70
    go_wp2_with fail
    go_ret
    exact ⟨_, rfl, Ob.nil w, (by simp [New, blks]), Mod.refl _ _⟩
  · go_enter Try.func70, Try.ntmps70
    go_wp2_with (with_reducible first | refine st_bslice ?_ | refine st_append ?_)
    refine StopOp.go rfl fun K hK => ?_
    refine wp_bslice stB [] rfl (by decide) (by rfl) (by simp) ?_
    intro g w1 hg1 hg2 hm1 hB1
    simp only [put_some, List.set_cons_succ, List.set_cons_zero]
    refine hK _ _ ?_
    clear hK K
    go_wp2_with (with_reducible first | refine st_bslice ?_ | refine st_append ?_)
    refine StopOp.go rfl fun K hK => ?_
    have ho : Ow w1 5 1 (.slice (some ⟨g, 0, none⟩) 0 0) 0 [] := Ow.of_blk (rest := []) hB1 (Nat.le_refl _) (by omega) rfl rfl
    refine wp_append_ow stB (by rfl) (by rfl) ho (hv.ext hm1) (bv_one l) (by omega) (by omega) ?_
    intro v' w2 ho2 hm2 hn2
    simp only [put_some, List.set_cons_succ, List.set_cons_zero]
    refine hK _ _ ?_
    clear hK K
    go_wp2_with fail
    go_ret
    refine ⟨_, rfl, by simpa [Ob] using ho2, fun k hk => ?_, hm1.fresh hm2 (by simpa [blks] using hg1)⟩
    rcases hn2 k hk with h | h
    · have : k = g := by simpa [blks] using h
      omega
    · have := hm1.size; omega

set_option maxHeartbeats 400000 in
theorem out_any (g : Nat) (l : List UInt8) (w : World) (hw : Wr w g l) (hl : l.length ≤ 140737488355328) :
    Calls Try.prog 18 #[.pointer (some ⟨g, 0, none⟩)] w fun e w' => ∃ v', e = .returned v' ∧ Ob w' v' l ∧ New w v' ∧ Mod [] w w' := by
  obtain ⟨v, hB, hv⟩ := hw
  have hc0 := hB.cell' (i := 0) rfl
  go_enter Try.func18, Try.ntmps18
  go_wp2_with (go_at_call 70; refine (clone_any l _ _ hv hl).mono ?_; rintro e w1 ⟨v', rfl, h1, h2, h3⟩)
  go_ret
  exact ⟨_, rfl, h1, h2, h3⟩

set_option maxHeartbeats 400000 in
theorem len_any (g : Nat) (l : List UInt8) (w : World) (hw : Wr w g l) :
    Calls Try.prog 33 #[.pointer (some ⟨g, 0, none⟩)] w fun e w' => e = .returned (.int .i64 l.length) ∧ w = w' := by
  obtain ⟨v, hB, hv⟩ := hw
  obtain ⟨ao, cap, rfl, hnc, hcap⟩ := hv.form
  have hc0 := hB.cell' (i := 0) rfl
  go_enter Try.func33, Try.ntmps33
  go_wp2_with fail
  go_ret
  exact ⟨rfl, rfl⟩

theorem number_int (g : Nat) (v : Value) (xs : List UInt8) (n : Int) (k : Nat) (kk : Int) (w : World) (hkk : kk = k) (hw : Wv w g v xs) (hk : k ≤ 8) (h0 : 0 ≤ n) (hn : n ≤ 18446744073709551615) (hl : xs.length ≤ 140737488355320) :
    Calls Try.prog 69 #[.pointer (some ⟨g, 0, none⟩), .int .u64 n, .int .i64 kk] w (PutV w g v xs (xs ++ low n.toNat k)) := by
  subst hkk
  obtain ⟨m, rfl⟩ := Int.eq_ofNat_of_zero_le h0
  exact number_v g v xs m k w hw hk (by omega) (by omega)

set_option maxHeartbeats 400000 in
theorem byte_v (g : Nat) (v : Value) (xs : List UInt8) (n : Int) (w : World) (hw : Wv w g v xs) (h0 : 0 ≤ n) (hn : n ≤ 255) (hl : xs.length ≤ 140737488355320) :
    Calls Try.prog 22 #[.pointer (some ⟨g, 0, none⟩), .int .u8 n] w (PutV w g v xs (xs ++ low n.toNat 1)) := by
  go_enter Try.func22, Try.ntmps22
  go_wp2_with (go_at_call 69; refine (number_int g v xs n 1 _ _ rfl hw (by omega) h0 (by omega) hl).mono ?_; rintro e w1 ⟨rfl, v1, h1, h2, h3⟩)
  go_end0
  exact ⟨rfl, v1, h1, h2, h3⟩
theorem byte_any (g : Nat) (xs : List UInt8) (n : Int) (w : World) (hw : Wr w g xs) (h0 : 0 ≤ n) (hn : n ≤ 255) (hl : xs.length ≤ 140737488355320) :
    Calls Try.prog 22 #[.pointer (some ⟨g, 0, none⟩), .int .u8 n] w (PutPost w g (xs ++ low n.toNat 1)) := of_v (fun v h => byte_v g v xs n w h h0 hn hl) hw
set_option maxHeartbeats 400000 in
theorem two_v (g : Nat) (v : Value) (xs : List UInt8) (n : Int) (w : World) (hw : Wv w g v xs) (h0 : 0 ≤ n) (hn : n ≤ 65535) (hl : xs.length ≤ 140737488355320) :
    Calls Try.prog 15 #[.pointer (some ⟨g, 0, none⟩), .int .u16 n] w (PutV w g v xs (xs ++ low n.toNat 2)) := by
  go_enter Try.func15, Try.ntmps15
  go_wp2_with (go_at_call 69; refine (number_int g v xs n 2 _ _ rfl hw (by omega) h0 (by omega) hl).mono ?_; rintro e w1 ⟨rfl, v1, h1, h2, h3⟩)
  go_end0
  exact ⟨rfl, v1, h1, h2, h3⟩
theorem two_any (g : Nat) (xs : List UInt8) (n : Int) (w : World) (hw : Wr w g xs) (h0 : 0 ≤ n) (hn : n ≤ 65535) (hl : xs.length ≤ 140737488355320) :
    Calls Try.prog 15 #[.pointer (some ⟨g, 0, none⟩), .int .u16 n] w (PutPost w g (xs ++ low n.toNat 2)) := of_v (fun v h => two_v g v xs n w h h0 hn hl) hw
set_option maxHeartbeats 400000 in
theorem four_v (g : Nat) (v : Value) (xs : List UInt8) (n : Int) (w : World) (hw : Wv w g v xs) (h0 : 0 ≤ n) (hn : n ≤ 4294967295) (hl : xs.length ≤ 140737488355320) :
    Calls Try.prog 16 #[.pointer (some ⟨g, 0, none⟩), .int .u32 n] w (PutV w g v xs (xs ++ low n.toNat 4)) := by
  go_enter Try.func16, Try.ntmps16
  go_wp2_with (go_at_call 69; refine (number_int g v xs n 4 _ _ rfl hw (by omega) h0 (by omega) hl).mono ?_; rintro e w1 ⟨rfl, v1, h1, h2, h3⟩)
  go_end0
  exact ⟨rfl, v1, h1, h2, h3⟩
theorem four_any (g : Nat) (xs : List UInt8) (n : Int) (w : World) (hw : Wr w g xs) (h0 : 0 ≤ n) (hn : n ≤ 4294967295) (hl : xs.length ≤ 140737488355320) :
    Calls Try.prog 16 #[.pointer (some ⟨g, 0, none⟩), .int .u32 n] w (PutPost w g (xs ++ low n.toNat 4)) := of_v (fun v h => four_v g v xs n w h h0 hn hl) hw
set_option maxHeartbeats 400000 in
theorem eight_v (g : Nat) (v : Value) (xs : List UInt8) (n : Int) (w : World) (hw : Wv w g v xs) (h0 : 0 ≤ n) (hn : n ≤ 18446744073709551615) (hl : xs.length ≤ 140737488355320) :
    Calls Try.prog 17 #[.pointer (some ⟨g, 0, none⟩), .int .u64 n] w (PutV w g v xs (xs ++ low n.toNat 8)) := by
  go_enter Try.func17, Try.ntmps17
  go_wp2_with (go_at_call 69; refine (number_int g v xs n 8 _ _ rfl hw (by omega) h0 (by omega) hl).mono ?_; rintro e w1 ⟨rfl, v1, h1, h2, h3⟩)
  go_end0
  exact ⟨rfl, v1, h1, h2, h3⟩
theorem eight_any (g : Nat) (xs : List UInt8) (n : Int) (w : World) (hw : Wr w g xs) (h0 : 0 ≤ n) (hn : n ≤ 18446744073709551615) (hl : xs.length ≤ 140737488355320) :
    Calls Try.prog 17 #[.pointer (some ⟨g, 0, none⟩), .int .u64 n] w (PutPost w g (xs ++ low n.toNat 8)) := of_v (fun v h => eight_v g v xs n w h h0 hn hl) hw
set_option maxHeartbeats 400000 in
theorem put_v (g : Nat) (v : Value) (xs l : List UInt8) (u : Value) (w : World) (hw : Wv w g v xs) (hv : Bs w u l) (hl : xs.length + l.length ≤ 140737488355328) :
    Calls Try.prog 20 #[.pointer (some ⟨g, 0, none⟩), u] w (PutV w g v xs (xs ++ l)) := by
  go_enter Try.func20, Try.ntmps20
  go_wp2_with (go_at_call 71; refine (add_v g v xs l _ _ hw hv hl).mono ?_; rintro e w1 ⟨rfl, v1, h1, h2, h3⟩)
  go_end0
  exact ⟨rfl, v1, h1, h2, h3⟩
theorem put_any (g : Nat) (xs l : List UInt8) (v : Value) (w : World) (hw : Wr w g xs) (hv : Bs w v l) (hl : xs.length + l.length ≤ 140737488355328) :
    Calls Try.prog 20 #[.pointer (some ⟨g, 0, none⟩), v] w (PutPost w g (xs ++ l)) := of_v (fun u h => put_v g u xs l v w h hv hl) hw
end Go.Proofs.Ytkedbphdflhhlaa
