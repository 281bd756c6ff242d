import Derived.Test.YtkedbphdflhhlaaWrB
import Derived.Test.YtkedbphdflhhlaaOpC
set_option linter.unusedVariables false
set_option linter.unusedSimpArgs false
set_option maxRecDepth 100000
namespace Go.Proofs.Ytkedbphdflhhlaa
open Go.RowKit Gw

theorem zero_op : (Try.prog.info? 49).map (·.zero) = some (some (.agg #[.int .i64 0, .int .u64 0, .int .i64 0, .slice none 0 0])) := by kernel_rfl
theorem WS.wr {w wr : World} {g : Nat} {v u : Value} {B : List Nat} {E F : List UInt8} (h : WS w wr g v u B E F) : Wr wr g E := ⟨v, h.wv⟩

theorem lowk1 (n : Nat) : low (n % 256) 1 = low n 1 := low_mod n 1
theorem byte_w (g : Nat) (v : Value) (xs : List UInt8) (n : Nat) (w : World) (hw : Wv w g v xs) (hn : n < 18446744073709551616) (hl : xs.length ≤ 140737488355320) :
    Calls Try.prog 22 #[.pointer (some ⟨g, 0, none⟩), .int .u8 ((n : Int) % 256)] w (PutV w g v xs (xs ++ low n 1)) := by
  have h : ((n : Int) % 256) = ((n % 256 : Nat) : Int) := by omega
  rw [h, ← lowk1 n]
  have := byte_v g v xs ((n % 256 : Nat) : Int) w hw (by omega) (by omega) hl
  rwa [Int.toNat_natCast] at this
theorem lowk2 (n : Nat) : low (n % 65536) 2 = low n 2 := low_mod n 2
theorem two_w (g : Nat) (v : Value) (xs : List UInt8) (n : Nat) (w : World) (hw : Wv w g v xs) (hn : n < 18446744073709551616) (hl : xs.length ≤ 140737488355320) :
    Calls Try.prog 15 #[.pointer (some ⟨g, 0, none⟩), .int .u16 (IntKind.u16.wrap (n : Int))] w (PutV w g v xs (xs ++ low n 2)) := by
  have h : (IntKind.u16.wrap (n : Int)) = ((n % 65536 : Nat) : Int) := by rw [IntKind.wrap_u16]; omega
  rw [h, ← lowk2 n]
  have := two_v g v xs ((n % 65536 : Nat) : Int) w hw (by omega) (by omega) hl
  rwa [Int.toNat_natCast] at this
theorem lowk4 (n : Nat) : low (n % 4294967296) 4 = low n 4 := low_mod n 4
theorem four_w (g : Nat) (v : Value) (xs : List UInt8) (n : Nat) (w : World) (hw : Wv w g v xs) (hn : n < 18446744073709551616) (hl : xs.length ≤ 140737488355320) :
    Calls Try.prog 16 #[.pointer (some ⟨g, 0, none⟩), .int .u32 ((n : Int) % 4294967296)] w (PutV w g v xs (xs ++ low n 4)) := by
  have h : ((n : Int) % 4294967296) = ((n % 4294967296 : Nat) : Int) := by omega
  rw [h, ← lowk4 n]
  have := four_v g v xs ((n % 4294967296 : Nat) : Int) w hw (by omega) (by omega) hl
  rwa [Int.toNat_natCast] at this
theorem lowk8 (n : Nat) : low (n % 18446744073709551616) 8 = low n 8 := low_mod n 8
theorem eight_w (g : Nat) (v : Value) (xs : List UInt8) (n : Nat) (w : World) (hw : Wv w g v xs) (hn : n < 18446744073709551616) (hl : xs.length ≤ 140737488355320) :
    Calls Try.prog 17 #[.pointer (some ⟨g, 0, none⟩), .int .u64 ((n : Int))] w (PutV w g v xs (xs ++ low n 8)) := by
  have h : ((n : Int)) = ((n % 18446744073709551616 : Nat) : Int) := by omega
  rw [h, ← lowk8 n]
  have := eight_v g v xs ((n % 18446744073709551616 : Nat) : Int) w hw (by omega) (by omega) hl
  rwa [Int.toNat_natCast] at this
set_option maxHeartbeats 8000000 in
theorem octetsWrites_core (os : List Opr) (m : Nat) (v0 : Value) (w : World) (hos : Oprs w v0 os) (hm1 : m ≤ os.length) (hm2 : m ≤ 2000) (hE : ((os.length : Int) ≤ m) ∨ ((m : Int) < os.length ∧ (2000 : Int) ≤ m)) (hT : bytes os ≤ 1048576) :
    Calls Try.prog 5 #[v0] w fun e w' => e = .returned (.bool true) ∧ Mod [] w w' := by
  obtain ⟨ao0, cap0, rfl, hnc, hcap⟩ := hos.s.form
  have hlen : ∀ j, j ≤ m → (encs (os.take j)).length ≤ 1064576 := fun j hj => by have := encs_take_le os j m hj; omega
  rcases hE with x | ⟨x, y⟩
  · go_enter Try.func5, Try.ntmps5
    go_wp2_with (with_reducible refine st_box ?_)
    refine StopOp.go rfl fun K hK => ?_
    refine wp_box (v := .agg #[.slice none 0 0]) (by rfl) ?_
    intro g0 w1 hg1 hg2 hm1' hB1
    simp only [put_some, List.set_cons_succ, List.set_cons_zero]
    refine hK _ _ ?_
    clear hK K
    have hs0 : WS w w1 g0 (.slice none 0 0) (.slice none 0 0) [] [] [] := ⟨hm1', ⟨hB1, (Ob.nil w1).bs⟩, hg1, Ob.nil w1, (by simp [New, blks]), fun h => absurd rfl h, fun b hb => nomatch hb⟩
    clear hB1 hm1' hg1 hg2
    go_wp2_with fail
    go_loopw [3, 4, 5] (fun p q i wr => ∃ (j g : Nat) (v : Value) (ao : Option Addr) (cap : Nat), j ≤ m ∧ p = .pointer (some ⟨g, 0, none⟩) ∧ q = .slice ao (encs (os.take j)).length cap ∧ i = .int .i64 j ∧ WS w wr g v (.slice ao (encs (os.take j)).length cap) [] (encs (os.take j)) (encs (os.take j))) (fun _ _ i _ => m - (intOf i).toNat)
    case atStart => exact ⟨0, g0, _, none, 0, by omega, rfl, rfl, rfl, hs0⟩
    case round =>
      obtain ⟨j, g, v, ao, cap, hj, rfl, rfl, rfl, hs⟩ := hrel
      have hEl := hlen j hj
      by_cases hlt : j < m
      · have y1 : (j : Int) < os.length := by omega
        have y2 : (j : Int) < 2000 := by omega
        have hjo : j < os.length := by omega
        have hos' := hos.ext hs.mod
        obtain ⟨b, o, rfl, hc⟩ := hos'.elem hjo
        have hok := hos'.e _ (List.getElem_mem hjo)
        have hb0 := (hos.e _ (List.getElem_mem hjo)).b
        have hbl := bytes_at os j hjo
        have hEl2 := hlen (j + 1) (by omega)
        have het := encs_take os j hjo
        obtain ⟨op, hop⟩ : ∃ op, op = os[j] := ⟨_, rfl⟩
        rw [← hop] at hc hok hb0 hbl het
        obtain ⟨E, hE⟩ : ∃ E, E = encs (os.take j) := ⟨_, rfl⟩
        rw [← hE] at hs hEl het ⊢
        obtain ⟨E', hE'⟩ : ∃ E', E' = encs (os.take (j + 1)) := ⟨_, rfl⟩
        rw [← hE'] at het hEl2
        have HE' := Lib.hid hE'
        clear hE' hE hop
        obtain ⟨kind, n, tk, aop, capp, l⟩ := op
        obtain ⟨hb, hn, k1, k2, t1, t2⟩ := hok
        dsimp only [Opr.v, opCells] at hb hb0 hn k1 k2 t1 t2 hbl hc
        have hn1 : (n : Int) ≤ 18446744073709551615 := by omega
        have hn0 : (0 : Int) ≤ (n : Int) := by omega
        go_wp2_with (with_reducible refine st_load 49 ?_)
        refine StopOp.go rfl fun K hK => ?_
        refine wp_load_mid 49 _ rfl b (o + j * 4) (by rfl) [.int .i64 kind, .int .u64 n, .int .i64 tk, .slice aop l.length capp] _ hc Try.underlying49 rfl (by kernel_rfl) ?_
        simp only [put_some, List.set_cons_succ, List.set_cons_zero]
        refine hK _ _ ?_
        clear hK K
        go_wp2_with (with_reducible refine st_alloc ?_)
        refine StopOp.go rfl fun K hK => ?_
        refine wp_alloc zero_op ?_
        intro c w2 hc1 hc2 hm2' hB2
        simp only [put_some, List.set_cons_succ, List.set_cons_zero]
        refine hK _ _ ?_
        clear hK K
        go_wp2_with (with_reducible refine st_store ?_)
        refine StopOp.go rfl fun K hK => ?_
        refine wp_store (u := .agg #[.int .i64 kind, .int .u64 n, .int .i64 tk, .slice aop l.length capp]) (by rfl) (by rfl) (by kernel_rfl) hB2 (by simp [Value.cells]) (by simp [Value.cells, Value.oneCell']) ?_
        intro w3 hm3' hB3
        refine hK _ _ ?_
        clear hK K
        have hm3 : Mod [] wr w3 := hm2'.fresh hm3' (by simpa using hc1)
        have c0 : w3.cell? ⟨c, 0, none⟩ = some (.int .i64 kind) := hB3.cell' (i := 0) rfl
        have c1 : w3.cell? ⟨c, 1, none⟩ = some (.int .u64 n) := hB3.cell' (i := 1) rfl
        have c3 : w3.cell? ⟨c, 3, none⟩ = some (.slice aop l.length capp) := hB3.cell' (i := 3) rfl
        have hs3 := hs.ext hm3
        have hb3 : Bs w3 (.slice aop l.length capp) l := hb.ext hm3
        have hcg : c ≠ g := by have := hs.glt; omega
        have hcw : c < w3.heap.size := hB3.lt
        have c1' : ∀ w4, Mod [g] w3 w4 → w4.cell? ⟨c, 1, none⟩ = some (.int .u64 n) := fun w4 hm => (hB3.mod hm (by simpa using hcg)).cell' (i := 1) rfl
        clear hB2 hm2' hm3' hc hos'
        by_cases g1 : kind = 1
        · subst g1
          have hE5 : E' = E ++ low n 1 := by rw [het]; simp [enc, lowk1]
          have HE5 := Lib.hid hE5
          clear het hE5
          go_wp2_with (first
                        | (go_at_call 22; refine (byte_w g v E n _ hs3.wv hn (by omega)).mono ?_; rintro e w4 hp4; obtain ⟨v4, hs4⟩ := hs3.put hp4; obtain ⟨rfl, _, _, _, hm4⟩ := hp4; have c1b := c1' _ hm4)
                        | (go_at_call 29; refine (refNumber_any n 1 _ (by omega) hn).mono ?_; rintro e w5 ⟨v5, rfl, ho5, hn5, hm5⟩; obtain ⟨ao5, cap5, rfl, _, _⟩ := ho5.bs.form)
                        | (with_reducible refine st_append ?_))
          refine StopOp.go rfl fun K hK => ?_
          have hs5 := hs4.ext hm5
          refine wp_append_ow stB (by rfl) (by rfl) hs5.ow ho5.bs (bv_one _) (by rw [low_length]; omega) (by rw [low_length]; omega) ?_
          intro u6 w6 ho6 hm6 hn6
          simp only [put_some, List.set_cons_succ, List.set_cons_zero]
          refine hK _ _ ?_
          clear hK K
          rw [← bv_append, ← List.length_append] at ho6
          have hs9 : WS w w6 g v4 u6 [] E' E' := by rw [HE5.out]; exact hs5.app ho6 hm6 hn6
          obtain ⟨ao6, cap6, rfl, _, _⟩ := hs9.ow.bs.form
          go_wp2_with (go_at_call 33; refine (len_any g E' _ hs9.wr).mono ?_; rintro e w10 ⟨rfl, rfl⟩)
          go_roundw
          case rel => exact ⟨j + 1, g, _, _, _, by omega, rfl, by rw [← HE'.out], by go_num, by rw [← HE'.out]; exact hs9⟩
          case measure => simp [intOf]; omega
        have f1 : (kind == 1) = false := by simpa using g1
        by_cases g2 : kind = 2
        · subst g2
          have hE5 : E' = E ++ low n 2 := by rw [het]; simp [enc, lowk2]
          have HE5 := Lib.hid hE5
          clear het hE5
          go_wp2_with (first
                        | (go_at_call 15; refine (two_w g v E n _ hs3.wv hn (by omega)).mono ?_; rintro e w4 hp4; obtain ⟨v4, hs4⟩ := hs3.put hp4; obtain ⟨rfl, _, _, _, hm4⟩ := hp4; have c1b := c1' _ hm4)
                        | (go_at_call 29; refine (refNumber_any n 2 _ (by omega) hn).mono ?_; rintro e w5 ⟨v5, rfl, ho5, hn5, hm5⟩; obtain ⟨ao5, cap5, rfl, _, _⟩ := ho5.bs.form)
                        | (with_reducible refine st_append ?_))
          refine StopOp.go rfl fun K hK => ?_
          have hs5 := hs4.ext hm5
          refine wp_append_ow stB (by rfl) (by rfl) hs5.ow ho5.bs (bv_one _) (by rw [low_length]; omega) (by rw [low_length]; omega) ?_
          intro u6 w6 ho6 hm6 hn6
          simp only [put_some, List.set_cons_succ, List.set_cons_zero]
          refine hK _ _ ?_
          clear hK K
          rw [← bv_append, ← List.length_append] at ho6
          have hs9 : WS w w6 g v4 u6 [] E' E' := by rw [HE5.out]; exact hs5.app ho6 hm6 hn6
          obtain ⟨ao6, cap6, rfl, _, _⟩ := hs9.ow.bs.form
          go_wp2_with (go_at_call 33; refine (len_any g E' _ hs9.wr).mono ?_; rintro e w10 ⟨rfl, rfl⟩)
          go_roundw
          case rel => exact ⟨j + 1, g, _, _, _, by omega, rfl, by rw [← HE'.out], by go_num, by rw [← HE'.out]; exact hs9⟩
          case measure => simp [intOf]; omega
        have f2 : (kind == 2) = false := by simpa using g2
        by_cases g3 : kind = 3
        · subst g3
          have hE5 : E' = E ++ low n 4 := by rw [het]; simp [enc, lowk4]
          have HE5 := Lib.hid hE5
          clear het hE5
          go_wp2_with (first
                        | (go_at_call 16; refine (four_w g v E n _ hs3.wv hn (by omega)).mono ?_; rintro e w4 hp4; obtain ⟨v4, hs4⟩ := hs3.put hp4; obtain ⟨rfl, _, _, _, hm4⟩ := hp4; have c1b := c1' _ hm4)
                        | (go_at_call 29; refine (refNumber_any n 4 _ (by omega) hn).mono ?_; rintro e w5 ⟨v5, rfl, ho5, hn5, hm5⟩; obtain ⟨ao5, cap5, rfl, _, _⟩ := ho5.bs.form)
                        | (with_reducible refine st_append ?_))
          refine StopOp.go rfl fun K hK => ?_
          have hs5 := hs4.ext hm5
          refine wp_append_ow stB (by rfl) (by rfl) hs5.ow ho5.bs (bv_one _) (by rw [low_length]; omega) (by rw [low_length]; omega) ?_
          intro u6 w6 ho6 hm6 hn6
          simp only [put_some, List.set_cons_succ, List.set_cons_zero]
          refine hK _ _ ?_
          clear hK K
          rw [← bv_append, ← List.length_append] at ho6
          have hs9 : WS w w6 g v4 u6 [] E' E' := by rw [HE5.out]; exact hs5.app ho6 hm6 hn6
          obtain ⟨ao6, cap6, rfl, _, _⟩ := hs9.ow.bs.form
          go_wp2_with (go_at_call 33; refine (len_any g E' _ hs9.wr).mono ?_; rintro e w10 ⟨rfl, rfl⟩)
          go_roundw
          case rel => exact ⟨j + 1, g, _, _, _, by omega, rfl, by rw [← HE'.out], by go_num, by rw [← HE'.out]; exact hs9⟩
          case measure => simp [intOf]; omega
        have f3 : (kind == 3) = false := by simpa using g3
        by_cases g4 : kind = 4
        · subst g4
          have hE5 : E' = E ++ low n 8 := by rw [het]; simp [enc, lowk8]
          have HE5 := Lib.hid hE5
          clear het hE5
          go_wp2_with (first
                        | (go_at_call 17; refine (eight_w g v E n _ hs3.wv hn (by omega)).mono ?_; rintro e w4 hp4; obtain ⟨v4, hs4⟩ := hs3.put hp4; obtain ⟨rfl, _, _, _, hm4⟩ := hp4; have c1b := c1' _ hm4)
                        | (go_at_call 29; refine (refNumber_any n 8 _ (by omega) hn).mono ?_; rintro e w5 ⟨v5, rfl, ho5, hn5, hm5⟩; obtain ⟨ao5, cap5, rfl, _, _⟩ := ho5.bs.form)
                        | (with_reducible refine st_append ?_))
          refine StopOp.go rfl fun K hK => ?_
          have hs5 := hs4.ext hm5
          refine wp_append_ow stB (by rfl) (by rfl) hs5.ow ho5.bs (bv_one _) (by rw [low_length]; omega) (by rw [low_length]; omega) ?_
          intro u6 w6 ho6 hm6 hn6
          simp only [put_some, List.set_cons_succ, List.set_cons_zero]
          refine hK _ _ ?_
          clear hK K
          rw [← bv_append, ← List.length_append] at ho6
          have hs9 : WS w w6 g v4 u6 [] E' E' := by rw [HE5.out]; exact hs5.app ho6 hm6 hn6
          obtain ⟨ao6, cap6, rfl, _, _⟩ := hs9.ow.bs.form
          go_wp2_with (go_at_call 33; refine (len_any g E' _ hs9.wr).mono ?_; rintro e w10 ⟨rfl, rfl⟩)
          go_roundw
          case rel => exact ⟨j + 1, g, _, _, _, by omega, rfl, by rw [← HE'.out], by go_num, by rw [← HE'.out]; exact hs9⟩
          case measure => simp [intOf]; omega
        have f4 : (kind == 4) = false := by simpa using g4
        by_cases g5 : kind = 5
        · subst g5
          have hE5 : E' = E ++ l := by rw [het]; simp [enc]
          have HE5 := Lib.hid hE5
          clear het hE5
          go_wp2_with (first
                        | (go_at_call 30; refine (lent_any l _ _ hb3 (by omega)).mono ?_; rintro e w4 ⟨gi, capi, rfl, hgi, hli, hm4⟩; have hs4 := hs3.more hm4 hgi (by obtain ⟨_, h, _⟩ := hli; exact h.lt); have hb4 := hb3.ext hm4; have hB4 := hB3.ext hm4)
                        | (go_at_call 20; refine (put_v g v E l _ _ hs4.wv hli.bs (by omega)).mono ?_; rintro e w5 hp5; obtain ⟨v5, hs5⟩ := hs4.put hp5; obtain ⟨rfl, _, _, _, hm5⟩ := hp5; have hB5 := hB4.mod hm5 (by simpa using hcg); have c3b := hB5.cell' (i := 3) rfl)
                        | (with_reducible refine st_append ?_))
          have hgig : gi ≠ g := (hs4.av gi (by simp)).1
          have hli5 : Lt w5 gi capi l := hli.mod hm5 (by simpa using hgig)
          have hb5 : Bs w5 (.slice aop l.length capp) l := hb4.keepAt hs4.wv.1 (by obtain ⟨_, _, h, _, _⟩ := Sl.form hs4.wv.2; rw [h]; simp) hm5
          refine StopOp.go rfl fun K hK => ?_
          refine wp_append_ow stB (by rfl) (by rfl) hs5.ow hb5 (bv_one _) (by omega) (by omega) ?_
          intro u6 w6 ho6 hm6 hn6
          simp only [put_some, List.set_cons_succ, List.set_cons_zero]
          refine hK _ _ ?_
          clear hK K
          rw [← bv_append, ← List.length_append] at ho6
          have hs6 : WS w w6 g v5 u6 [gi] E' E' := by rw [HE5.out]; exact hs5.app ho6 hm6 hn6
          obtain ⟨ao6, cap6, rfl, _, _⟩ := hs6.ow.bs.form
          have hli6 : Lt w6 gi capi l := hli5.mod hm6 (hs5.av gi (by simp)).2.1
          have hb6 : Bs w6 (.slice aop l.length capp) l := hb0.ext hs6.mod
          have hB6 := hB5.mod hm6 (Ow.ne hs5.ow hB5 (by decide))
          have c3c := hB6.cell' (i := 3) rfl
          go_wp2_with (first
                        | (go_at_call 31; refine (kept_any gi capi l _ _ hli6 hb6).mono ?_; rintro e w7 ⟨rfl, hm7⟩)
                        | (go_at_call 32; refine (over_any gi capi l _ (hli6.ext hm7) (by omega)).mono ?_; rintro e w8 ⟨rfl, hm8⟩))
          have hs9 : WS w w8 g v5 _ [] E' E' := ((hs6.ext hm7).over hm8 (by simp)).none
          go_wp2_with (go_at_call 33; refine (len_any g E' _ hs9.wr).mono ?_; rintro e w10 ⟨rfl, rfl⟩)
          go_roundw
          case rel => exact ⟨j + 1, g, _, _, _, by omega, rfl, by rw [← HE'.out], by go_num, by rw [← HE'.out]; exact hs9⟩
          case measure => simp [intOf]; omega
        have f5 : (kind == 5) = false := by simpa using g5
        have hE5 : E' = E := by rw [het]; simp [enc, g1, g2, g3, g4, g5]
        clear het
        subst hE5
        by_cases g6 : kind = 6
        · subst g6
          go_wp2_with (first
                        | (go_at_call 18; refine (out_any g E' _ hs3.wr (by omega)).mono ?_; rintro e w4 ⟨v4, rfl, ho4, hn4, hm4⟩; obtain ⟨ao4, cap4, rfl, _, _⟩ := ho4.bs.form)
                        | (go_at_call 27; refine (same_yes E' E' _ _ _ ho4.bs (hs3.ext hm4).ow.bs rfl).mono ?_; rintro e w5 ⟨rfl, hm5⟩; have hs9 := (hs3.ext hm4).ext hm5)
                        | (go_at_call 33; refine (len_any g E' _ hs9.wr).mono ?_; rintro e w10 ⟨rfl, rfl⟩))
          go_roundw
          case rel => exact ⟨j + 1, g, _, _, _, by omega, rfl, by rw [← HE'.out], by go_num, by rw [← HE'.out]; exact hs9⟩
          case measure => simp [intOf]; omega
        have f6 : (kind == 6) = false := by simpa using g6
        by_cases g7 : kind = 7
        · subst g7
          have cg : w3.cell? ⟨g, 0, none⟩ = some v := hs3.wv.1.cell' (i := 0) rfl
          obtain ⟨aov, capv, rfl, _, _⟩ := Sl.form hs3.wv.2
          go_wp2_with (with_reducible refine st_alloc ?_)
          refine StopOp.go rfl fun K hK => ?_
          refine wp_alloc zero_writer ?_
          intro g2 w4 hg21 hg22 hm4 hB4
          simp only [put_some, List.set_cons_succ, List.set_cons_zero]
          refine hK _ _ ?_
          clear hK K
          go_wp2_with (with_reducible refine st_store ?_)
          refine StopOp.go rfl fun K hK => ?_
          refine wp_store (u := .agg #[.slice aov E'.length capv]) (by rfl) (by rfl) (by kernel_rfl) hB4 (by simp [Value.cells]) (by simp [Value.cells, Value.oneCell']) ?_
          intro w5 hm5 hB5
          refine hK _ _ ?_
          clear hK K
          have hm45 : Mod [] w3 w5 := hm4.fresh hm5 (by simpa using hg21)
          go_wp2_with (go_at_call 22; refine (byte_v g _ E' 99 _ (hs3.ext hm45).wv (by omega) (by omega) (by omega)).mono ?_; rintro e w6 hp6; have hs9 := hs3.twin hm45 hg21 hB5 hp6; obtain ⟨rfl, _⟩ := hp6)
          go_wp2_with (go_at_call 33; refine (len_any g2 E' _ hs9.wr).mono ?_; rintro e w10 ⟨rfl, rfl⟩)
          go_roundw
          case rel => exact ⟨j + 1, g2, _, _, _, by omega, rfl, by rw [← HE'.out], by go_num, by rw [← HE'.out]; exact hs9⟩
          case measure => simp [intOf]; omega
        have f7 : (kind == 7) = false := by simpa using g7
        have hs9 := hs3
        go_wp2_with (go_at_call 33; refine (len_any g E' _ hs9.wr).mono ?_; rintro e w10 ⟨rfl, rfl⟩)
        go_roundw
        case rel => exact ⟨j + 1, g, _, _, _, by omega, rfl, by rw [← HE'.out], by go_num, by rw [← HE'.out]; exact hs9⟩
        case measure => simp [intOf]; omega
      · obtain rfl : j = m := by omega
        obtain ⟨E, hE⟩ : ∃ E, E = encs (os.take j) := ⟨_, rfl⟩
        rw [← hE] at hs hEl ⊢
        clear hE
        go_wp2_with (first | (go_at_call 18; refine (out_any g E _ hs.wr (by omega)).mono ?_; rintro e w4 ⟨v4, rfl, ho4, hn4, hm4⟩; obtain ⟨ao4, cap4, rfl, _, _⟩ := ho4.bs.form) | (go_at_call 27; refine (same_yes E E _ _ _ ho4.bs (hs.ext hm4).ow.bs rfl).mono ?_; rintro e w5 ⟨rfl, hm5⟩) | (go_at_call 19; refine (awake_any _).mono ?_; rintro e w8 ⟨rfl, hm8⟩))
        go_ret
        exact ⟨rfl, ((hs.mod.ext hm4).ext hm5).ext hm8⟩
  · go_enter Try.func5, Try.ntmps5
    go_wp2_with (with_reducible refine st_box ?_)
    refine StopOp.go rfl fun K hK => ?_
    refine wp_box (v := .agg #[.slice none 0 0]) (by rfl) ?_
    intro g0 w1 hg1 hg2 hm1' hB1
    simp only [put_some, List.set_cons_succ, List.set_cons_zero]
    refine hK _ _ ?_
    clear hK K
    have hs0 : WS w w1 g0 (.slice none 0 0) (.slice none 0 0) [] [] [] := ⟨hm1', ⟨hB1, (Ob.nil w1).bs⟩, hg1, Ob.nil w1, (by simp [New, blks]), fun h => absurd rfl h, fun b hb => nomatch hb⟩
    clear hB1 hm1' hg1 hg2
    go_wp2_with fail
    go_loopw [3, 4, 5] (fun p q i wr => ∃ (j g : Nat) (v : Value) (ao : Option Addr) (cap : Nat), j ≤ m ∧ p = .pointer (some ⟨g, 0, none⟩) ∧ q = .slice ao (encs (os.take j)).length cap ∧ i = .int .i64 j ∧ WS w wr g v (.slice ao (encs (os.take j)).length cap) [] (encs (os.take j)) (encs (os.take j))) (fun _ _ i _ => m - (intOf i).toNat)
    case atStart => exact ⟨0, g0, _, none, 0, by omega, rfl, rfl, rfl, hs0⟩
    case round =>
      obtain ⟨j, g, v, ao, cap, hj, rfl, rfl, rfl, hs⟩ := hrel
      have hEl := hlen j hj
      by_cases hlt : j < m
      · have y1 : (j : Int) < os.length := by omega
        have y2 : (j : Int) < 2000 := by omega
        have hjo : j < os.length := by omega
        have hos' := hos.ext hs.mod
        obtain ⟨b, o, rfl, hc⟩ := hos'.elem hjo
        have hok := hos'.e _ (List.getElem_mem hjo)
        have hb0 := (hos.e _ (List.getElem_mem hjo)).b
        have hbl := bytes_at os j hjo
        have hEl2 := hlen (j + 1) (by omega)
        have het := encs_take os j hjo
        obtain ⟨op, hop⟩ : ∃ op, op = os[j] := ⟨_, rfl⟩
        rw [← hop] at hc hok hb0 hbl het
        obtain ⟨E, hE⟩ : ∃ E, E = encs (os.take j) := ⟨_, rfl⟩
        rw [← hE] at hs hEl het ⊢
        obtain ⟨E', hE'⟩ : ∃ E', E' = encs (os.take (j + 1)) := ⟨_, rfl⟩
        rw [← hE'] at het hEl2
        have HE' := Lib.hid hE'
        clear hE' hE hop
        obtain ⟨kind, n, tk, aop, capp, l⟩ := op
        obtain ⟨hb, hn, k1, k2, t1, t2⟩ := hok
        dsimp only [Opr.v, opCells] at hb hb0 hn k1 k2 t1 t2 hbl hc
        have hn1 : (n : Int) ≤ 18446744073709551615 := by omega
        have hn0 : (0 : Int) ≤ (n : Int) := by omega
        go_wp2_with (with_reducible refine st_load 49 ?_)
        refine StopOp.go rfl fun K hK => ?_
        refine wp_load_mid 49 _ rfl b (o + j * 4) (by rfl) [.int .i64 kind, .int .u64 n, .int .i64 tk, .slice aop l.length capp] _ hc Try.underlying49 rfl (by kernel_rfl) ?_
        simp only [put_some, List.set_cons_succ, List.set_cons_zero]
        refine hK _ _ ?_
        clear hK K
        go_wp2_with (with_reducible refine st_alloc ?_)
        refine StopOp.go rfl fun K hK => ?_
        refine wp_alloc zero_op ?_
        intro c w2 hc1 hc2 hm2' hB2
        simp only [put_some, List.set_cons_succ, List.set_cons_zero]
        refine hK _ _ ?_
        clear hK K
        go_wp2_with (with_reducible refine st_store ?_)
        refine StopOp.go rfl fun K hK => ?_
        refine wp_store (u := .agg #[.int .i64 kind, .int .u64 n, .int .i64 tk, .slice aop l.length capp]) (by rfl) (by rfl) (by kernel_rfl) hB2 (by simp [Value.cells]) (by simp [Value.cells, Value.oneCell']) ?_
        intro w3 hm3' hB3
        refine hK _ _ ?_
        clear hK K
        have hm3 : Mod [] wr w3 := hm2'.fresh hm3' (by simpa using hc1)
        have c0 : w3.cell? ⟨c, 0, none⟩ = some (.int .i64 kind) := hB3.cell' (i := 0) rfl
        have c1 : w3.cell? ⟨c, 1, none⟩ = some (.int .u64 n) := hB3.cell' (i := 1) rfl
        have c3 : w3.cell? ⟨c, 3, none⟩ = some (.slice aop l.length capp) := hB3.cell' (i := 3) rfl
        have hs3 := hs.ext hm3
        have hb3 : Bs w3 (.slice aop l.length capp) l := hb.ext hm3
        have hcg : c ≠ g := by have := hs.glt; omega
        have hcw : c < w3.heap.size := hB3.lt
        have c1' : ∀ w4, Mod [g] w3 w4 → w4.cell? ⟨c, 1, none⟩ = some (.int .u64 n) := fun w4 hm => (hB3.mod hm (by simpa using hcg)).cell' (i := 1) rfl
        clear hB2 hm2' hm3' hc hos'
        by_cases g1 : kind = 1
        · subst g1
          have hE5 : E' = E ++ low n 1 := by rw [het]; simp [enc, lowk1]
          have HE5 := Lib.hid hE5
          clear het hE5
          go_wp2_with (first
                        | (go_at_call 22; refine (byte_w g v E n _ hs3.wv hn (by omega)).mono ?_; rintro e w4 hp4; obtain ⟨v4, hs4⟩ := hs3.put hp4; obtain ⟨rfl, _, _, _, hm4⟩ := hp4; have c1b := c1' _ hm4)
                        | (go_at_call 29; refine (refNumber_any n 1 _ (by omega) hn).mono ?_; rintro e w5 ⟨v5, rfl, ho5, hn5, hm5⟩; obtain ⟨ao5, cap5, rfl, _, _⟩ := ho5.bs.form)
                        | (with_reducible refine st_append ?_))
          refine StopOp.go rfl fun K hK => ?_
          have hs5 := hs4.ext hm5
          refine wp_append_ow stB (by rfl) (by rfl) hs5.ow ho5.bs (bv_one _) (by rw [low_length]; omega) (by rw [low_length]; omega) ?_
          intro u6 w6 ho6 hm6 hn6
          simp only [put_some, List.set_cons_succ, List.set_cons_zero]
          refine hK _ _ ?_
          clear hK K
          rw [← bv_append, ← List.length_append] at ho6
          have hs9 : WS w w6 g v4 u6 [] E' E' := by rw [HE5.out]; exact hs5.app ho6 hm6 hn6
          obtain ⟨ao6, cap6, rfl, _, _⟩ := hs9.ow.bs.form
          go_wp2_with (go_at_call 33; refine (len_any g E' _ hs9.wr).mono ?_; rintro e w10 ⟨rfl, rfl⟩)
          go_roundw
          case rel => exact ⟨j + 1, g, _, _, _, by omega, rfl, by rw [← HE'.out], by go_num, by rw [← HE'.out]; exact hs9⟩
          case measure => simp [intOf]; omega
        have f1 : (kind == 1) = false := by simpa using g1
        by_cases g2 : kind = 2
        · subst g2
          have hE5 : E' = E ++ low n 2 := by rw [het]; simp [enc, lowk2]
          have HE5 := Lib.hid hE5
          clear het hE5
          go_wp2_with (first
                        | (go_at_call 15; refine (two_w g v E n _ hs3.wv hn (by omega)).mono ?_; rintro e w4 hp4; obtain ⟨v4, hs4⟩ := hs3.put hp4; obtain ⟨rfl, _, _, _, hm4⟩ := hp4; have c1b := c1' _ hm4)
                        | (go_at_call 29; refine (refNumber_any n 2 _ (by omega) hn).mono ?_; rintro e w5 ⟨v5, rfl, ho5, hn5, hm5⟩; obtain ⟨ao5, cap5, rfl, _, _⟩ := ho5.bs.form)
                        | (with_reducible refine st_append ?_))
          refine StopOp.go rfl fun K hK => ?_
          have hs5 := hs4.ext hm5
          refine wp_append_ow stB (by rfl) (by rfl) hs5.ow ho5.bs (bv_one _) (by rw [low_length]; omega) (by rw [low_length]; omega) ?_
          intro u6 w6 ho6 hm6 hn6
          simp only [put_some, List.set_cons_succ, List.set_cons_zero]
          refine hK _ _ ?_
          clear hK K
          rw [← bv_append, ← List.length_append] at ho6
          have hs9 : WS w w6 g v4 u6 [] E' E' := by rw [HE5.out]; exact hs5.app ho6 hm6 hn6
          obtain ⟨ao6, cap6, rfl, _, _⟩ := hs9.ow.bs.form
          go_wp2_with (go_at_call 33; refine (len_any g E' _ hs9.wr).mono ?_; rintro e w10 ⟨rfl, rfl⟩)
          go_roundw
          case rel => exact ⟨j + 1, g, _, _, _, by omega, rfl, by rw [← HE'.out], by go_num, by rw [← HE'.out]; exact hs9⟩
          case measure => simp [intOf]; omega
        have f2 : (kind == 2) = false := by simpa using g2
        by_cases g3 : kind = 3
        · subst g3
          have hE5 : E' = E ++ low n 4 := by rw [het]; simp [enc, lowk4]
          have HE5 := Lib.hid hE5
          clear het hE5
          go_wp2_with (first
                        | (go_at_call 16; refine (four_w g v E n _ hs3.wv hn (by omega)).mono ?_; rintro e w4 hp4; obtain ⟨v4, hs4⟩ := hs3.put hp4; obtain ⟨rfl, _, _, _, hm4⟩ := hp4; have c1b := c1' _ hm4)
                        | (go_at_call 29; refine (refNumber_any n 4 _ (by omega) hn).mono ?_; rintro e w5 ⟨v5, rfl, ho5, hn5, hm5⟩; obtain ⟨ao5, cap5, rfl, _, _⟩ := ho5.bs.form)
                        | (with_reducible refine st_append ?_))
          refine StopOp.go rfl fun K hK => ?_
          have hs5 := hs4.ext hm5
          refine wp_append_ow stB (by rfl) (by rfl) hs5.ow ho5.bs (bv_one _) (by rw [low_length]; omega) (by rw [low_length]; omega) ?_
          intro u6 w6 ho6 hm6 hn6
          simp only [put_some, List.set_cons_succ, List.set_cons_zero]
          refine hK _ _ ?_
          clear hK K
          rw [← bv_append, ← List.length_append] at ho6
          have hs9 : WS w w6 g v4 u6 [] E' E' := by rw [HE5.out]; exact hs5.app ho6 hm6 hn6
          obtain ⟨ao6, cap6, rfl, _, _⟩ := hs9.ow.bs.form
          go_wp2_with (go_at_call 33; refine (len_any g E' _ hs9.wr).mono ?_; rintro e w10 ⟨rfl, rfl⟩)
          go_roundw
          case rel => exact ⟨j + 1, g, _, _, _, by omega, rfl, by rw [← HE'.out], by go_num, by rw [← HE'.out]; exact hs9⟩
          case measure => simp [intOf]; omega
        have f3 : (kind == 3) = false := by simpa using g3
        by_cases g4 : kind = 4
        · subst g4
          have hE5 : E' = E ++ low n 8 := by rw [het]; simp [enc, lowk8]
          have HE5 := Lib.hid hE5
          clear het hE5
          go_wp2_with (first
                        | (go_at_call 17; refine (eight_w g v E n _ hs3.wv hn (by omega)).mono ?_; rintro e w4 hp4; obtain ⟨v4, hs4⟩ := hs3.put hp4; obtain ⟨rfl, _, _, _, hm4⟩ := hp4; have c1b := c1' _ hm4)
                        | (go_at_call 29; refine (refNumber_any n 8 _ (by omega) hn).mono ?_; rintro e w5 ⟨v5, rfl, ho5, hn5, hm5⟩; obtain ⟨ao5, cap5, rfl, _, _⟩ := ho5.bs.form)
                        | (with_reducible refine st_append ?_))
          refine StopOp.go rfl fun K hK => ?_
          have hs5 := hs4.ext hm5
          refine wp_append_ow stB (by rfl) (by rfl) hs5.ow ho5.bs (bv_one _) (by rw [low_length]; omega) (by rw [low_length]; omega) ?_
          intro u6 w6 ho6 hm6 hn6
          simp only [put_some, List.set_cons_succ, List.set_cons_zero]
          refine hK _ _ ?_
          clear hK K
          rw [← bv_append, ← List.length_append] at ho6
          have hs9 : WS w w6 g v4 u6 [] E' E' := by rw [HE5.out]; exact hs5.app ho6 hm6 hn6
          obtain ⟨ao6, cap6, rfl, _, _⟩ := hs9.ow.bs.form
          go_wp2_with (go_at_call 33; refine (len_any g E' _ hs9.wr).mono ?_; rintro e w10 ⟨rfl, rfl⟩)
          go_roundw
          case rel => exact ⟨j + 1, g, _, _, _, by omega, rfl, by rw [← HE'.out], by go_num, by rw [← HE'.out]; exact hs9⟩
          case measure => simp [intOf]; omega
        have f4 : (kind == 4) = false := by simpa using g4
        by_cases g5 : kind = 5
        · subst g5
          have hE5 : E' = E ++ l := by rw [het]; simp [enc]
          have HE5 := Lib.hid hE5
          clear het hE5
          go_wp2_with (first
                        | (go_at_call 30; refine (lent_any l _ _ hb3 (by omega)).mono ?_; rintro e w4 ⟨gi, capi, rfl, hgi, hli, hm4⟩; have hs4 := hs3.more hm4 hgi (by obtain ⟨_, h, _⟩ := hli; exact h.lt); have hb4 := hb3.ext hm4; have hB4 := hB3.ext hm4)
                        | (go_at_call 20; refine (put_v g v E l _ _ hs4.wv hli.bs (by omega)).mono ?_; rintro e w5 hp5; obtain ⟨v5, hs5⟩ := hs4.put hp5; obtain ⟨rfl, _, _, _, hm5⟩ := hp5; have hB5 := hB4.mod hm5 (by simpa using hcg); have c3b := hB5.cell' (i := 3) rfl)
                        | (with_reducible refine st_append ?_))
          have hgig : gi ≠ g := (hs4.av gi (by simp)).1
          have hli5 : Lt w5 gi capi l := hli.mod hm5 (by simpa using hgig)
          have hb5 : Bs w5 (.slice aop l.length capp) l := hb4.keepAt hs4.wv.1 (by obtain ⟨_, _, h, _, _⟩ := Sl.form hs4.wv.2; rw [h]; simp) hm5
          refine StopOp.go rfl fun K hK => ?_
          refine wp_append_ow stB (by rfl) (by rfl) hs5.ow hb5 (bv_one _) (by omega) (by omega) ?_
          intro u6 w6 ho6 hm6 hn6
          simp only [put_some, List.set_cons_succ, List.set_cons_zero]
          refine hK _ _ ?_
          clear hK K
          rw [← bv_append, ← List.length_append] at ho6
          have hs6 : WS w w6 g v5 u6 [gi] E' E' := by rw [HE5.out]; exact hs5.app ho6 hm6 hn6
          obtain ⟨ao6, cap6, rfl, _, _⟩ := hs6.ow.bs.form
          have hli6 : Lt w6 gi capi l := hli5.mod hm6 (hs5.av gi (by simp)).2.1
          have hb6 : Bs w6 (.slice aop l.length capp) l := hb0.ext hs6.mod
          have hB6 := hB5.mod hm6 (Ow.ne hs5.ow hB5 (by decide))
          have c3c := hB6.cell' (i := 3) rfl
          go_wp2_with (first
                        | (go_at_call 31; refine (kept_any gi capi l _ _ hli6 hb6).mono ?_; rintro e w7 ⟨rfl, hm7⟩)
                        | (go_at_call 32; refine (over_any gi capi l _ (hli6.ext hm7) (by omega)).mono ?_; rintro e w8 ⟨rfl, hm8⟩))
          have hs9 : WS w w8 g v5 _ [] E' E' := ((hs6.ext hm7).over hm8 (by simp)).none
          go_wp2_with (go_at_call 33; refine (len_any g E' _ hs9.wr).mono ?_; rintro e w10 ⟨rfl, rfl⟩)
          go_roundw
          case rel => exact ⟨j + 1, g, _, _, _, by omega, rfl, by rw [← HE'.out], by go_num, by rw [← HE'.out]; exact hs9⟩
          case measure => simp [intOf]; omega
        have f5 : (kind == 5) = false := by simpa using g5
        have hE5 : E' = E := by rw [het]; simp [enc, g1, g2, g3, g4, g5]
        clear het
        subst hE5
        by_cases g6 : kind = 6
        · subst g6
          go_wp2_with (first
                        | (go_at_call 18; refine (out_any g E' _ hs3.wr (by omega)).mono ?_; rintro e w4 ⟨v4, rfl, ho4, hn4, hm4⟩; obtain ⟨ao4, cap4, rfl, _, _⟩ := ho4.bs.form)
                        | (go_at_call 27; refine (same_yes E' E' _ _ _ ho4.bs (hs3.ext hm4).ow.bs rfl).mono ?_; rintro e w5 ⟨rfl, hm5⟩; have hs9 := (hs3.ext hm4).ext hm5)
                        | (go_at_call 33; refine (len_any g E' _ hs9.wr).mono ?_; rintro e w10 ⟨rfl, rfl⟩))
          go_roundw
          case rel => exact ⟨j + 1, g, _, _, _, by omega, rfl, by rw [← HE'.out], by go_num, by rw [← HE'.out]; exact hs9⟩
          case measure => simp [intOf]; omega
        have f6 : (kind == 6) = false := by simpa using g6
        by_cases g7 : kind = 7
        · subst g7
          have cg : w3.cell? ⟨g, 0, none⟩ = some v := hs3.wv.1.cell' (i := 0) rfl
          obtain ⟨aov, capv, rfl, _, _⟩ := Sl.form hs3.wv.2
          go_wp2_with (with_reducible refine st_alloc ?_)
          refine StopOp.go rfl fun K hK => ?_
          refine wp_alloc zero_writer ?_
          intro g2 w4 hg21 hg22 hm4 hB4
          simp only [put_some, List.set_cons_succ, List.set_cons_zero]
          refine hK _ _ ?_
          clear hK K
          go_wp2_with (with_reducible refine st_store ?_)
          refine StopOp.go rfl fun K hK => ?_
          refine wp_store (u := .agg #[.slice aov E'.length capv]) (by rfl) (by rfl) (by kernel_rfl) hB4 (by simp [Value.cells]) (by simp [Value.cells, Value.oneCell']) ?_
          intro w5 hm5 hB5
          refine hK _ _ ?_
          clear hK K
          have hm45 : Mod [] w3 w5 := hm4.fresh hm5 (by simpa using hg21)
          go_wp2_with (go_at_call 22; refine (byte_v g _ E' 99 _ (hs3.ext hm45).wv (by omega) (by omega) (by omega)).mono ?_; rintro e w6 hp6; have hs9 := hs3.twin hm45 hg21 hB5 hp6; obtain ⟨rfl, _⟩ := hp6)
          go_wp2_with (go_at_call 33; refine (len_any g2 E' _ hs9.wr).mono ?_; rintro e w10 ⟨rfl, rfl⟩)
          go_roundw
          case rel => exact ⟨j + 1, g2, _, _, _, by omega, rfl, by rw [← HE'.out], by go_num, by rw [← HE'.out]; exact hs9⟩
          case measure => simp [intOf]; omega
        have f7 : (kind == 7) = false := by simpa using g7
        have hs9 := hs3
        go_wp2_with (go_at_call 33; refine (len_any g E' _ hs9.wr).mono ?_; rintro e w10 ⟨rfl, rfl⟩)
        go_roundw
        case rel => exact ⟨j + 1, g, _, _, _, by omega, rfl, by rw [← HE'.out], by go_num, by rw [← HE'.out]; exact hs9⟩
        case measure => simp [intOf]; omega
      · obtain rfl : j = m := by omega
        obtain ⟨E, hE⟩ : ∃ E, E = encs (os.take j) := ⟨_, rfl⟩
        rw [← hE] at hs hEl ⊢
        clear hE
        go_wp2_with (first | (go_at_call 18; refine (out_any g E _ hs.wr (by omega)).mono ?_; rintro e w4 ⟨v4, rfl, ho4, hn4, hm4⟩; obtain ⟨ao4, cap4, rfl, _, _⟩ := ho4.bs.form) | (go_at_call 27; refine (same_yes E E _ _ _ ho4.bs (hs.ext hm4).ow.bs rfl).mono ?_; rintro e w5 ⟨rfl, hm5⟩) | (go_at_call 19; refine (awake_any _).mono ?_; rintro e w8 ⟨rfl, hm8⟩))
        go_ret
        exact ⟨rfl, ((hs.mod.ext hm4).ext hm5).ext hm8⟩
end Go.Proofs.Ytkedbphdflhhlaa
