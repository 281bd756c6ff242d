import Derived.Test.YtkedbphdflhhlaaOpC
set_option linter.unusedVariables false
set_option linter.unusedSimpArgs false
set_option maxRecDepth 100000
namespace Go.Proofs.Ytkedbphdflhhlaa
open Go.RowKit Gw

theorem Wr.keepR {w w' : World} {g r q : Nat} {xs l : List UInt8} {e : Int} (h : Wr w g xs) (h1 : Rd w r q l e) (hm : Mod [q] w w') (hg : g ≠ q) : Wr w' g xs := by
  obtain ⟨v, hB, hv⟩ := h
  obtain ⟨v1, hB1, hv1⟩ := h1.2
  obtain ⟨ao, cap, rfl, _, _⟩ := hv1.form
  exact ⟨v, hB.mod hm (by simpa using hg), hv.keepAt hB1 (by simp) hm⟩
theorem Bs.keepR {w w' : World} {r q : Nat} {v : Value} {xs l : List UInt8} {e : Int} (h : Bs w v xs) (h1 : Rd w r q l e) (hm : Mod [q] w w') : Bs w' v xs := by
  obtain ⟨v1, hB1, hv1⟩ := h1.2
  obtain ⟨ao, cap, rfl, _, _⟩ := hv1.form
  exact h.keepAt hB1 (by simp) hm
theorem left_val (r q : Nat) (l : List UInt8) (err m : Int) (w : World) (h : Rd w r q l err) (hm : (l.length : Int) = m) :
    Calls Try.prog 26 #[.pointer (some ⟨r, 0, none⟩)] w fun e w' => e = .returned (.int .i64 m) ∧ w = w' :=
  (left_any r q l err w h).mono fun e w' ⟨h1, h2⟩ => ⟨by rw [h1, hm], h2⟩
theorem got_val (o : Opr) (r q : Nat) (rl : List UInt8) (err : Int) (b : Bool) (l' : List UInt8) (err' : Int) (w : World) (h : Rd w r q rl err) (ho : OkOp w o) (hl : o.l.length ≤ 140737488355320) (hrl : rl.length ≤ 140737488355320)
    (hb : gotB o rl err = b) (h1 : gotL o rl err = l') (h2 : gotE o rl err = err') :
    Calls Try.prog 52 #[.pointer (some ⟨r, 0, none⟩), .agg #[.int .i64 o.kind, .int .u64 o.n, .int .i64 o.tk, o.v]] w fun e w' => e = .returned (.bool b) ∧ Rd w' r q l' err' ∧ Mod [q] w w' := by
  subst hb h1 h2
  exact got_op o r q rl err w h ho hl hrl

set_option maxHeartbeats 4000000 in
theorem octetsBack_core (os : List Opr) (m : Nat) (v : Value) (w : World) (hos : Oprs w v os) (hm1 : m ≤ os.length) (hm2 : m ≤ 2000) (hE : ((os.length : Int) ≤ m) ∨ ((m : Int) < os.length ∧ (2000 : Int) ≤ m)) (hT : bytes os ≤ 1048576) :
    Calls Try.prog 9 #[v] w fun e w' => e = .returned (.bool true) ∧ Mod [] w w' := by
  obtain ⟨ao, cap, rfl, hnc, hcap⟩ := hos.s.form
  have hlen : ∀ j, j ≤ m → (encs (os.take j)).length ≤ 1064576 := fun j hj => by have := encs_take_le os j m hj; omega
  rcases hE with x | ⟨x, y⟩
  · go_enter Try.func9, Try.ntmps9
    go_wp2_with (with_reducible refine st_alloc ?_)
    refine StopOp.go rfl fun K hK => ?_
    refine wp_alloc zero_writer ?_
    intro g w1 hg1 hg2 hm1' hB1
    simp only [put_some, List.set_cons_succ, List.set_cons_zero]
    refine hK _ _ ?_
    clear hK K
    have hw1 := Wr.new hB1
    clear hB1
    go_wp2_with fail
    go_loopw [4] (fun i wr => ∃ j : Nat, j ≤ m ∧ i = .int .i64 j ∧ Mod [] w wr ∧ Wr wr g (encs (os.take j))) (fun i _ => m - (intOf i).toNat)
    case atStart => exact ⟨0, by omega, rfl, hm1', hw1⟩
    case round =>
      obtain ⟨j, hj, rfl, hmr, hwr⟩ := hrel
      by_cases hlt : j < m
      · have y1 : (j : Int) < os.length := by omega
        have y2 : (j : Int) < 2000 := by omega
        have hjo : j < os.length := by omega
        have hos' := hos.ext hmr
        obtain ⟨b, o, rfl, hc⟩ := hos'.elem hjo
        have hok := hos'.e _ (List.getElem_mem hjo)
        have hbl := bytes_at os j hjo
        have hxl := hlen j (by omega)
        have het := encs_take os j hjo
        obtain ⟨op, hop⟩ : ∃ op, op = os[j] := ⟨_, rfl⟩
        rw [← hop] at hc hok hbl het
        have Het := Lib.hid het
        clear het hop
        go_wp2_with (with_reducible refine st_load 49 ?_)
        refine StopOp.go rfl fun K hK => ?_
        refine wp_load_mid 49 _ rfl b (o + j * 4) (by rfl) [.int .i64 op.kind, .int .u64 op.n, .int .i64 op.tk, op.v] _ hc Try.underlying49 rfl (by kernel_rfl) ?_
        simp only [put_some, List.set_cons_succ, List.set_cons_zero]
        refine hK _ _ ?_
        clear hK K
        go_wp2_with (go_at_call 51; refine (put_op op g _ _ hwr hok (by omega)).mono ?_; rintro e w2 ⟨rfl, hw2, hm2'⟩)
        go_roundw
        case rel => exact ⟨j + 1, by omega, by go_num, hmr.fresh hm2' (by simpa using hg1), by rw [Het.out]; exact hw2⟩
        case measure => simp [intOf]; omega
      · have hjm : m = j := by omega
        subst hjm
        have hE' := hlen m (Nat.le_refl _)
        obtain ⟨E, hEq⟩ : ∃ E, E = encs (os.take m) := ⟨_, rfl⟩
        rw [← hEq] at hwr hE'
        have HE := Lib.hid hEq
        clear hEq
        have hgl : g < wr.heap.size := by
          obtain ⟨_, hB, _⟩ := hwr
          exact hB.lt
        go_wp2_with (first | (go_at_call 18; refine (out_any g E _ hwr (by omega)).mono ?_; rintro e w5 ⟨v5, rfl, ho5, hn5, hm5⟩; obtain ⟨ao5, cap5, rfl, hk5, hk6⟩ := ho5.bs.form) | (go_at_call 23; refine (of_any E _ _ ho5.bs (by omega)).mono ?_; rintro e w6 ⟨r, q, rfl, hr, hq, hqr, hrd, hm6⟩))
        have s1 := hmr.size
        have s5 := hm5.size
        have hgq : g ≠ q := by omega
        have hzq : ∀ k ∈ [q], w.heap.size ≤ k := by simp; omega
        have hmB := (hmr.ext hm5).ext hm6
        have hwB := (hwr.ext hm5).ext hm6
        have hbB := ho5.bs.ext hm6
        clear hw1 hm1' hmr hwr hm5 hm6 ho5 hn5
        go_loopw [7] (fun i wr => ∃ k : Nat, k ≤ m ∧ i = .int .i64 k ∧ Mod [] w wr ∧ Wr wr g E ∧ Bs wr (.slice ao5 E.length cap5) E ∧ Rd wr r q (encs ((os.take m).drop k)) 0) (fun i _ => m - (intOf i).toNat)
        case atStart => exact ⟨0, by omega, rfl, hmB, hwB, hbB, by rw [List.drop_zero, ← HE.out]; exact hrd⟩
        case round =>
          obtain ⟨k, hk, rfl, hmr2, hwr2, hbs2, hrd2⟩ := hrel
          by_cases hlt2 : k < m
          · have y1 : (k : Int) < os.length := by omega
            have y2 : (k : Int) < 2000 := by omega
            have hjo : k < os.length := by omega
            have hos' := hos.ext hmr2
            obtain ⟨b, o, rfl, hc⟩ := hos'.elem hjo
            have hok := hos'.e _ (List.getElem_mem hjo)
            have hbl := bytes_at os k hjo
            have hdl := encs_drop_le (os.take m) k
            rw [← HE.out, encs_drop (os.take m) k (by rw [List.length_take]; omega), List.getElem_take] at hdl
            have hrdx := hrd2
            rw [encs_drop (os.take m) k (by rw [List.length_take]; omega), List.getElem_take] at hrdx
            obtain ⟨op, hop⟩ : ∃ op, op = os[k] := ⟨_, rfl⟩
            rw [← hop] at hc hok hbl hrdx hdl
            clear hop
            obtain ⟨R, hR⟩ : ∃ R, R = encs ((os.take m).drop (k + 1)) := ⟨_, rfl⟩
            rw [← hR] at hrdx hdl
            have HR := Lib.hid hR
            clear hR
            have hge := Lib.hid (got_enc op hok.n R)
            go_wp2_with (with_reducible refine st_load 49 ?_)
            refine StopOp.go rfl fun K hK => ?_
            refine wp_load_mid 49 _ rfl b (o + k * 4) (by rfl) [.int .i64 op.kind, .int .u64 op.n, .int .i64 op.tk, op.v] _ hc Try.underlying49 rfl (by kernel_rfl) ?_
            simp only [put_some, List.set_cons_succ, List.set_cons_zero]
            refine hK _ _ ?_
            clear hK K
            go_wp2_with (go_at_call 52; refine (got_val op r q _ 0 true R 0 _ hrdx hok (by omega) (by omega) hge.out.1 hge.out.2.1 hge.out.2.2).mono ?_; rintro e w7 ⟨rfl, h7, hm7⟩)
            go_roundw
            case rel => exact ⟨k + 1, by omega, by go_num, hmr2.fresh hm7 hzq, hwr2.keepR hrd2 hm7 hgq, hbs2.keepR hrd2 hm7, by rw [← HR.out]; exact h7⟩
            case measure => simp [intOf]; omega
          · have hkm : m = k := by omega
            subst hkm
            rw [List.drop_eq_nil_of_le (by rw [List.length_take]; omega)] at hrd2
            have E1 := fun w h => end_val r q [] 0 0 w h (by decide)
            have E2 := fun w h => left_val r q [] 0 0 w h (by decide)
            by_cases hE0 : E = []
            · subst hE0
              go_wp2_with (first | (go_at_call 49; with_reducible refine (E1 _ hrd2).mono ?_; rintro e w1 ⟨rfl, rfl⟩) | (go_at_call 26; with_reducible refine (E2 _ hrd2).mono ?_; rintro e w1 ⟨rfl, rfl⟩) | (go_at_call 33; refine (len_any g [] _ hwr2).mono ?_; rintro e w1 ⟨rfl, rfl⟩) | (go_at_call 19; refine (awake_any _).mono ?_; rintro e w8 ⟨rfl, hm8⟩))
              go_ret
              exact ⟨rfl, hmr2.ext hm8⟩
            · obtain ⟨d, hd⟩ : ∃ d, E.length = d + 1 := ⟨E.length - 1, by have := List.length_pos_iff.2 hE0; omega⟩
              have hl5 := len_any g E _ hwr2
              rw [hd] at hl5 hbs2 hk5 ⊢
              have hs : Sl wr 1 (.slice ao5 (d + 1) cap5) (d + 1) (bv E) := by
                have := hbs2
                unfold Bs at this
                rwa [hd] at this
              have hcut : Bs wr (.slice ao5 d cap5) E.dropLast := by
                have := Sl.cut (lo := 0) (hi := d) (m := cap5) hs (by omega) (by omega) (by omega) (by omega)
                simp only [Nat.mul_one, Nat.zero_mul, List.drop_zero, Nat.sub_zero, Addr.add, if_true, Option.map_id'] at this
                unfold Bs
                rw [List.length_dropLast, hd, Nat.add_sub_cancel]
                have he : bv E.dropLast = (bv E).take d := by rw [List.dropLast_eq_take, hd]; simp [bv]
                rw [he]
                simpa using this
              have Hd := Lib.hid hd
              clear hd
              go_wp2_with (first | (go_at_call 49; with_reducible refine (E1 _ hrd2).mono ?_; rintro e w1 ⟨rfl, rfl⟩) | (go_at_call 26; with_reducible refine (E2 _ hrd2).mono ?_; rintro e w1 ⟨rfl, rfl⟩) | (go_at_call 33; refine hl5.mono ?_; rintro e w1 ⟨rfl, rfl⟩) | (go_at_call 19; refine (awake_any _).mono ?_; rintro e w8 ⟨rfl, hm8⟩))
              have hcut8 := hcut.ext hm8
              have hmC := hmr2.ext hm8
              have s8 := hmC.size
              go_wp2_with (go_at_call 23; refine (of_any E.dropLast _ _ hcut8 (by rw [List.length_dropLast]; omega)).mono ?_; rintro e w9 ⟨r2, q2, rfl, hr2, hq2, hqr2, hrd9, hm9⟩)
              have hzq2 : ∀ k ∈ [q2], w.heap.size ≤ k := by simp; omega
              have hmD := hmC.ext hm9
              clear hcut hcut8 hs hbs2 hl5 hrd2 hwr2 hm8 hm9 hmC hmr2
              go_loopw [9] (fun i wr => ∃ (k : Nat) (l : List UInt8) (err : Int), k ≤ m ∧ i = .int .i64 k ∧ Mod [] w wr ∧ Rd wr r2 q2 l err ∧ l.length ≤ 1064576 ∧ St l err (encs ((os.take m).drop k))) (fun i _ => m - (intOf i).toNat)
              case atStart => exact ⟨0, _, _, by omega, rfl, hmD, hrd9, by rw [List.length_dropLast]; omega, .inl ⟨rfl, by rw [List.drop_zero, ← HE.out]; exact hE0, by rw [List.drop_zero, ← HE.out]⟩⟩
              case round =>
                obtain ⟨k, l, err, hk, rfl, hmr3, hrd3, hl3, hst⟩ := hrel
                by_cases hlt3 : k < m
                · have y1 : (k : Int) < os.length := by omega
                  have y2 : (k : Int) < 2000 := by omega
                  have hjo : k < os.length := by omega
                  have hos' := hos.ext hmr3
                  obtain ⟨b, o, rfl, hc⟩ := hos'.elem hjo
                  have hok := hos'.e _ (List.getElem_mem hjo)
                  have hbl := bytes_at os k hjo
                  rw [encs_drop (os.take m) k (by rw [List.length_take]; omega), List.getElem_take] at hst
                  obtain ⟨op, hop⟩ : ∃ op, op = os[k] := ⟨_, rfl⟩
                  rw [← hop] at hc hok hbl hst
                  clear hop
                  obtain ⟨R, hR⟩ : ∃ R, R = encs ((os.take m).drop (k + 1)) := ⟨_, rfl⟩
                  rw [← hR] at hst
                  have HR := Lib.hid hR
                  clear hR
                  have V := fun (w : World) (h1 : Rd w r2 q2 l err) (h2 : OkOp w op) (bb : Bool) (l' : List UInt8) (e' : Int) (g1 : gotB op l err = bb) (g2 : gotL op l err = l') (g3 : gotE op l err = e') => got_val op r2 q2 l err bb l' e' w h1 h2 (by omega) (by omega) g1 g2 g3
                  rcases hst with ⟨rfl, hne, rfl⟩ | ⟨rfl, rfl⟩
                  · have A0 := fun w h => err_any r2 q2 (enc op ++ R).dropLast 0 w h
                    rcases short_step op hok.n R hne with ⟨hRn, z1, z2, z3⟩ | ⟨z2, z3⟩
                    · have V1 := V _ hrd3 hok _ _ _ z1 z2 z3
                      have A1 := fun w h => left_any r2 q2 R.dropLast 0 w h
                      have A2 := fun w h => err_any r2 q2 R.dropLast 0 w h
                      have hlR : R.dropLast.length ≤ 1064576 := by
                        rw [List.length_dropLast, List.length_append] at hl3
                        rw [List.length_dropLast]
                        omega
                      clear V z1 z2 z3
                      go_wp2_with (first | (with_reducible refine st_load 49 ?_) | (go_at_call 48; with_reducible refine (A0 _ hrd3).mono ?_; rintro e w1 ⟨rfl, rfl⟩))
                      refine StopOp.go rfl fun K hK => ?_
                      refine wp_load_mid 49 _ rfl b (o + k * 4) (by rfl) [.int .i64 op.kind, .int .u64 op.n, .int .i64 op.tk, op.v] _ hc Try.underlying49 rfl (by kernel_rfl) ?_
                      simp only [put_some, List.set_cons_succ, List.set_cons_zero]
                      refine hK _ _ ?_
                      clear hK K
                      go_wp2_with (first | (go_at_call 52; refine V1.mono ?_; rintro e w7 ⟨rfl, h7, hm7⟩) | (go_at_call 26; with_reducible refine (A1 _ h7).mono ?_; rintro e w1 ⟨rfl, rfl⟩) | (go_at_call 48; with_reducible refine (A2 _ h7).mono ?_; rintro e w1 ⟨rfl, rfl⟩))
                      go_roundw
                      case rel => exact ⟨k + 1, _, _, by omega, by go_num, hmr3.fresh hm7 hzq2, h7, hlR, .inl ⟨rfl, by rw [← HR.out]; exact hRn, by rw [← HR.out]⟩⟩
                      case measure => simp [intOf]; omega
                    · obtain ⟨bb, hbb⟩ : ∃ bb, gotB op (enc op ++ R).dropLast 0 = bb := ⟨_, rfl⟩
                      have V1 := V _ hrd3 hok _ _ _ hbb z2 z3
                      have A1 := fun w h => left_val r2 q2 [] 4 0 w h rfl
                      have A2 := fun w h => err_any r2 q2 [] 4 w h
                      clear V hbb z2 z3
                      go_wp2_with (first | (with_reducible refine st_load 49 ?_) | (go_at_call 48; with_reducible refine (A0 _ hrd3).mono ?_; rintro e w1 ⟨rfl, rfl⟩))
                      refine StopOp.go rfl fun K hK => ?_
                      refine wp_load_mid 49 _ rfl b (o + k * 4) (by rfl) [.int .i64 op.kind, .int .u64 op.n, .int .i64 op.tk, op.v] _ hc Try.underlying49 rfl (by kernel_rfl) ?_
                      simp only [put_some, List.set_cons_succ, List.set_cons_zero]
                      refine hK _ _ ?_
                      clear hK K
                      go_wp2_with (first | (go_at_call 52; refine V1.mono ?_; rintro e w7 ⟨rfl, h7, hm7⟩) | (go_at_call 26; with_reducible refine (A1 _ h7).mono ?_; rintro e w1 ⟨rfl, rfl⟩) | (go_at_call 48; with_reducible refine (A2 _ h7).mono ?_; rintro e w1 ⟨rfl, rfl⟩))
                      go_roundw
                      case rel => exact ⟨k + 1, _, _, by omega, by go_num, hmr3.fresh hm7 hzq2, h7, by simp, .inr ⟨rfl, rfl⟩⟩
                      case measure => simp [intOf]; omega
                  · obtain ⟨bb, hbb⟩ : ∃ bb, gotB op [] 4 = bb := ⟨_, rfl⟩
                    have V1 := V _ hrd3 hok _ _ _ hbb (short_err op).1 (short_err op).2
                    have A0 := fun w h => err_any r2 q2 [] 4 w h
                    have A1 := fun w h => left_val r2 q2 [] 4 0 w h rfl
                    have A2 := A0
                    clear V hbb
                    go_wp2_with (first | (with_reducible refine st_load 49 ?_) | (go_at_call 48; with_reducible refine (A0 _ hrd3).mono ?_; rintro e w1 ⟨rfl, rfl⟩))
                    refine StopOp.go rfl fun K hK => ?_
                    refine wp_load_mid 49 _ rfl b (o + k * 4) (by rfl) [.int .i64 op.kind, .int .u64 op.n, .int .i64 op.tk, op.v] _ hc Try.underlying49 rfl (by kernel_rfl) ?_
                    simp only [put_some, List.set_cons_succ, List.set_cons_zero]
                    refine hK _ _ ?_
                    clear hK K
                    go_wp2_with (first | (go_at_call 52; refine V1.mono ?_; rintro e w7 ⟨rfl, h7, hm7⟩) | (go_at_call 26; with_reducible refine (A1 _ h7).mono ?_; rintro e w1 ⟨rfl, rfl⟩) | (go_at_call 48; with_reducible refine (A2 _ h7).mono ?_; rintro e w1 ⟨rfl, rfl⟩))
                    go_roundw
                    case rel => exact ⟨k + 1, _, _, by omega, by go_num, hmr3.fresh hm7 hzq2, h7, by simp, .inr ⟨rfl, rfl⟩⟩
                    case measure => simp [intOf]; omega
                · have hkm : m = k := by omega
                  subst hkm
                  rw [List.drop_eq_nil_of_le (by rw [List.length_take]; omega)] at hst
                  rcases hst with ⟨rfl, hne, rfl⟩ | ⟨rfl, rfl⟩
                  · exact absurd rfl hne
                  · have A3 := fun w h => end_val r2 q2 [] 4 4 w h rfl
                    go_wp2_with (go_at_call 49; with_reducible refine (A3 _ hrd3).mono ?_; rintro e w1 ⟨rfl, rfl⟩)
                    go_ret
                    exact ⟨rfl, hmr3⟩
  · go_enter Try.func9, Try.ntmps9
    go_wp2_with (with_reducible refine st_alloc ?_)
    refine StopOp.go rfl fun K hK => ?_
    refine wp_alloc zero_writer ?_
    intro g w1 hg1 hg2 hm1' hB1
    simp only [put_some, List.set_cons_succ, List.set_cons_zero]
    refine hK _ _ ?_
    clear hK K
    have hw1 := Wr.new hB1
    clear hB1
    go_wp2_with fail
    go_loopw [4] (fun i wr => ∃ j : Nat, j ≤ m ∧ i = .int .i64 j ∧ Mod [] w wr ∧ Wr wr g (encs (os.take j))) (fun i _ => m - (intOf i).toNat)
    case atStart => exact ⟨0, by omega, rfl, hm1', hw1⟩
    case round =>
      obtain ⟨j, hj, rfl, hmr, hwr⟩ := hrel
      by_cases hlt : j < m
      · have y1 : (j : Int) < os.length := by omega
        have y2 : (j : Int) < 2000 := by omega
        have hjo : j < os.length := by omega
        have hos' := hos.ext hmr
        obtain ⟨b, o, rfl, hc⟩ := hos'.elem hjo
        have hok := hos'.e _ (List.getElem_mem hjo)
        have hbl := bytes_at os j hjo
        have hxl := hlen j (by omega)
        have het := encs_take os j hjo
        obtain ⟨op, hop⟩ : ∃ op, op = os[j] := ⟨_, rfl⟩
        rw [← hop] at hc hok hbl het
        have Het := Lib.hid het
        clear het hop
        go_wp2_with (with_reducible refine st_load 49 ?_)
        refine StopOp.go rfl fun K hK => ?_
        refine wp_load_mid 49 _ rfl b (o + j * 4) (by rfl) [.int .i64 op.kind, .int .u64 op.n, .int .i64 op.tk, op.v] _ hc Try.underlying49 rfl (by kernel_rfl) ?_
        simp only [put_some, List.set_cons_succ, List.set_cons_zero]
        refine hK _ _ ?_
        clear hK K
        go_wp2_with (go_at_call 51; refine (put_op op g _ _ hwr hok (by omega)).mono ?_; rintro e w2 ⟨rfl, hw2, hm2'⟩)
        go_roundw
        case rel => exact ⟨j + 1, by omega, by go_num, hmr.fresh hm2' (by simpa using hg1), by rw [Het.out]; exact hw2⟩
        case measure => simp [intOf]; omega
      · have hjm : m = j := by omega
        subst hjm
        have hE' := hlen m (Nat.le_refl _)
        obtain ⟨E, hEq⟩ : ∃ E, E = encs (os.take m) := ⟨_, rfl⟩
        rw [← hEq] at hwr hE'
        have HE := Lib.hid hEq
        clear hEq
        have hgl : g < wr.heap.size := by
          obtain ⟨_, hB, _⟩ := hwr
          exact hB.lt
        go_wp2_with (first | (go_at_call 18; refine (out_any g E _ hwr (by omega)).mono ?_; rintro e w5 ⟨v5, rfl, ho5, hn5, hm5⟩; obtain ⟨ao5, cap5, rfl, hk5, hk6⟩ := ho5.bs.form) | (go_at_call 23; refine (of_any E _ _ ho5.bs (by omega)).mono ?_; rintro e w6 ⟨r, q, rfl, hr, hq, hqr, hrd, hm6⟩))
        have s1 := hmr.size
        have s5 := hm5.size
        have hgq : g ≠ q := by omega
        have hzq : ∀ k ∈ [q], w.heap.size ≤ k := by simp; omega
        have hmB := (hmr.ext hm5).ext hm6
        have hwB := (hwr.ext hm5).ext hm6
        have hbB := ho5.bs.ext hm6
        clear hw1 hm1' hmr hwr hm5 hm6 ho5 hn5
        go_loopw [7] (fun i wr => ∃ k : Nat, k ≤ m ∧ i = .int .i64 k ∧ Mod [] w wr ∧ Wr wr g E ∧ Bs wr (.slice ao5 E.length cap5) E ∧ Rd wr r q (encs ((os.take m).drop k)) 0) (fun i _ => m - (intOf i).toNat)
        case atStart => exact ⟨0, by omega, rfl, hmB, hwB, hbB, by rw [List.drop_zero, ← HE.out]; exact hrd⟩
        case round =>
          obtain ⟨k, hk, rfl, hmr2, hwr2, hbs2, hrd2⟩ := hrel
          by_cases hlt2 : k < m
          · have y1 : (k : Int) < os.length := by omega
            have y2 : (k : Int) < 2000 := by omega
            have hjo : k < os.length := by omega
            have hos' := hos.ext hmr2
            obtain ⟨b, o, rfl, hc⟩ := hos'.elem hjo
            have hok := hos'.e _ (List.getElem_mem hjo)
            have hbl := bytes_at os k hjo
            have hdl := encs_drop_le (os.take m) k
            rw [← HE.out, encs_drop (os.take m) k (by rw [List.length_take]; omega), List.getElem_take] at hdl
            have hrdx := hrd2
            rw [encs_drop (os.take m) k (by rw [List.length_take]; omega), List.getElem_take] at hrdx
            obtain ⟨op, hop⟩ : ∃ op, op = os[k] := ⟨_, rfl⟩
            rw [← hop] at hc hok hbl hrdx hdl
            clear hop
            obtain ⟨R, hR⟩ : ∃ R, R = encs ((os.take m).drop (k + 1)) := ⟨_, rfl⟩
            rw [← hR] at hrdx hdl
            have HR := Lib.hid hR
            clear hR
            have hge := Lib.hid (got_enc op hok.n R)
            go_wp2_with (with_reducible refine st_load 49 ?_)
            refine StopOp.go rfl fun K hK => ?_
            refine wp_load_mid 49 _ rfl b (o + k * 4) (by rfl) [.int .i64 op.kind, .int .u64 op.n, .int .i64 op.tk, op.v] _ hc Try.underlying49 rfl (by kernel_rfl) ?_
            simp only [put_some, List.set_cons_succ, List.set_cons_zero]
            refine hK _ _ ?_
            clear hK K
            go_wp2_with (go_at_call 52; refine (got_val op r q _ 0 true R 0 _ hrdx hok (by omega) (by omega) hge.out.1 hge.out.2.1 hge.out.2.2).mono ?_; rintro e w7 ⟨rfl, h7, hm7⟩)
            go_roundw
            case rel => exact ⟨k + 1, by omega, by go_num, hmr2.fresh hm7 hzq, hwr2.keepR hrd2 hm7 hgq, hbs2.keepR hrd2 hm7, by rw [← HR.out]; exact h7⟩
            case measure => simp [intOf]; omega
          · have hkm : m = k := by omega
            subst hkm
            rw [List.drop_eq_nil_of_le (by rw [List.length_take]; omega)] at hrd2
            have E1 := fun w h => end_val r q [] 0 0 w h (by decide)
            have E2 := fun w h => left_val r q [] 0 0 w h (by decide)
            by_cases hE0 : E = []
            · subst hE0
              go_wp2_with (first | (go_at_call 49; with_reducible refine (E1 _ hrd2).mono ?_; rintro e w1 ⟨rfl, rfl⟩) | (go_at_call 26; with_reducible refine (E2 _ hrd2).mono ?_; rintro e w1 ⟨rfl, rfl⟩) | (go_at_call 33; refine (len_any g [] _ hwr2).mono ?_; rintro e w1 ⟨rfl, rfl⟩) | (go_at_call 19; refine (awake_any _).mono ?_; rintro e w8 ⟨rfl, hm8⟩))
              go_ret
              exact ⟨rfl, hmr2.ext hm8⟩
            · obtain ⟨d, hd⟩ : ∃ d, E.length = d + 1 := ⟨E.length - 1, by have := List.length_pos_iff.2 hE0; omega⟩
              have hl5 := len_any g E _ hwr2
              rw [hd] at hl5 hbs2 hk5 ⊢
              have hs : Sl wr 1 (.slice ao5 (d + 1) cap5) (d + 1) (bv E) := by
                have := hbs2
                unfold Bs at this
                rwa [hd] at this
              have hcut : Bs wr (.slice ao5 d cap5) E.dropLast := by
                have := Sl.cut (lo := 0) (hi := d) (m := cap5) hs (by omega) (by omega) (by omega) (by omega)
                simp only [Nat.mul_one, Nat.zero_mul, List.drop_zero, Nat.sub_zero, Addr.add, if_true, Option.map_id'] at this
                unfold Bs
                rw [List.length_dropLast, hd, Nat.add_sub_cancel]
                have he : bv E.dropLast = (bv E).take d := by rw [List.dropLast_eq_take, hd]; simp [bv]
                rw [he]
                simpa using this
              have Hd := Lib.hid hd
              clear hd
              go_wp2_with (first | (go_at_call 49; with_reducible refine (E1 _ hrd2).mono ?_; rintro e w1 ⟨rfl, rfl⟩) | (go_at_call 26; with_reducible refine (E2 _ hrd2).mono ?_; rintro e w1 ⟨rfl, rfl⟩) | (go_at_call 33; refine hl5.mono ?_; rintro e w1 ⟨rfl, rfl⟩) | (go_at_call 19; refine (awake_any _).mono ?_; rintro e w8 ⟨rfl, hm8⟩))
              have hcut8 := hcut.ext hm8
              have hmC := hmr2.ext hm8
              have s8 := hmC.size
              go_wp2_with (go_at_call 23; refine (of_any E.dropLast _ _ hcut8 (by rw [List.length_dropLast]; omega)).mono ?_; rintro e w9 ⟨r2, q2, rfl, hr2, hq2, hqr2, hrd9, hm9⟩)
              have hzq2 : ∀ k ∈ [q2], w.heap.size ≤ k := by simp; omega
              have hmD := hmC.ext hm9
              clear hcut hcut8 hs hbs2 hl5 hrd2 hwr2 hm8 hm9 hmC hmr2
              go_loopw [9] (fun i wr => ∃ (k : Nat) (l : List UInt8) (err : Int), k ≤ m ∧ i = .int .i64 k ∧ Mod [] w wr ∧ Rd wr r2 q2 l err ∧ l.length ≤ 1064576 ∧ St l err (encs ((os.take m).drop k))) (fun i _ => m - (intOf i).toNat)
              case atStart => exact ⟨0, _, _, by omega, rfl, hmD, hrd9, by rw [List.length_dropLast]; omega, .inl ⟨rfl, by rw [List.drop_zero, ← HE.out]; exact hE0, by rw [List.drop_zero, ← HE.out]⟩⟩
              case round =>
                obtain ⟨k, l, err, hk, rfl, hmr3, hrd3, hl3, hst⟩ := hrel
                by_cases hlt3 : k < m
                · have y1 : (k : Int) < os.length := by omega
                  have y2 : (k : Int) < 2000 := by omega
                  have hjo : k < os.length := by omega
                  have hos' := hos.ext hmr3
                  obtain ⟨b, o, rfl, hc⟩ := hos'.elem hjo
                  have hok := hos'.e _ (List.getElem_mem hjo)
                  have hbl := bytes_at os k hjo
                  rw [encs_drop (os.take m) k (by rw [List.length_take]; omega), List.getElem_take] at hst
                  obtain ⟨op, hop⟩ : ∃ op, op = os[k] := ⟨_, rfl⟩
                  rw [← hop] at hc hok hbl hst
                  clear hop
                  obtain ⟨R, hR⟩ : ∃ R, R = encs ((os.take m).drop (k + 1)) := ⟨_, rfl⟩
                  rw [← hR] at hst
                  have HR := Lib.hid hR
                  clear hR
                  have V := fun (w : World) (h1 : Rd w r2 q2 l err) (h2 : OkOp w op) (bb : Bool) (l' : List UInt8) (e' : Int) (g1 : gotB op l err = bb) (g2 : gotL op l err = l') (g3 : gotE op l err = e') => got_val op r2 q2 l err bb l' e' w h1 h2 (by omega) (by omega) g1 g2 g3
                  rcases hst with ⟨rfl, hne, rfl⟩ | ⟨rfl, rfl⟩
                  · have A0 := fun w h => err_any r2 q2 (enc op ++ R).dropLast 0 w h
                    rcases short_step op hok.n R hne with ⟨hRn, z1, z2, z3⟩ | ⟨z2, z3⟩
                    · have V1 := V _ hrd3 hok _ _ _ z1 z2 z3
                      have A1 := fun w h => left_any r2 q2 R.dropLast 0 w h
                      have A2 := fun w h => err_any r2 q2 R.dropLast 0 w h
                      have hlR : R.dropLast.length ≤ 1064576 := by
                        rw [List.length_dropLast, List.length_append] at hl3
                        rw [List.length_dropLast]
                        omega
                      clear V z1 z2 z3
                      go_wp2_with (first | (with_reducible refine st_load 49 ?_) | (go_at_call 48; with_reducible refine (A0 _ hrd3).mono ?_; rintro e w1 ⟨rfl, rfl⟩))
                      refine StopOp.go rfl fun K hK => ?_
                      refine wp_load_mid 49 _ rfl b (o + k * 4) (by rfl) [.int .i64 op.kind, .int .u64 op.n, .int .i64 op.tk, op.v] _ hc Try.underlying49 rfl (by kernel_rfl) ?_
                      simp only [put_some, List.set_cons_succ, List.set_cons_zero]
                      refine hK _ _ ?_
                      clear hK K
                      go_wp2_with (first | (go_at_call 52; refine V1.mono ?_; rintro e w7 ⟨rfl, h7, hm7⟩) | (go_at_call 26; with_reducible refine (A1 _ h7).mono ?_; rintro e w1 ⟨rfl, rfl⟩) | (go_at_call 48; with_reducible refine (A2 _ h7).mono ?_; rintro e w1 ⟨rfl, rfl⟩))
                      go_roundw
                      case rel => exact ⟨k + 1, _, _, by omega, by go_num, hmr3.fresh hm7 hzq2, h7, hlR, .inl ⟨rfl, by rw [← HR.out]; exact hRn, by rw [← HR.out]⟩⟩
                      case measure => simp [intOf]; omega
                    · obtain ⟨bb, hbb⟩ : ∃ bb, gotB op (enc op ++ R).dropLast 0 = bb := ⟨_, rfl⟩
                      have V1 := V _ hrd3 hok _ _ _ hbb z2 z3
                      have A1 := fun w h => left_val r2 q2 [] 4 0 w h rfl
                      have A2 := fun w h => err_any r2 q2 [] 4 w h
                      clear V hbb z2 z3
                      go_wp2_with (first | (with_reducible refine st_load 49 ?_) | (go_at_call 48; with_reducible refine (A0 _ hrd3).mono ?_; rintro e w1 ⟨rfl, rfl⟩))
                      refine StopOp.go rfl fun K hK => ?_
                      refine wp_load_mid 49 _ rfl b (o + k * 4) (by rfl) [.int .i64 op.kind, .int .u64 op.n, .int .i64 op.tk, op.v] _ hc Try.underlying49 rfl (by kernel_rfl) ?_
                      simp only [put_some, List.set_cons_succ, List.set_cons_zero]
                      refine hK _ _ ?_
                      clear hK K
                      go_wp2_with (first | (go_at_call 52; refine V1.mono ?_; rintro e w7 ⟨rfl, h7, hm7⟩) | (go_at_call 26; with_reducible refine (A1 _ h7).mono ?_; rintro e w1 ⟨rfl, rfl⟩) | (go_at_call 48; with_reducible refine (A2 _ h7).mono ?_; rintro e w1 ⟨rfl, rfl⟩))
                      go_roundw
                      case rel => exact ⟨k + 1, _, _, by omega, by go_num, hmr3.fresh hm7 hzq2, h7, by simp, .inr ⟨rfl, rfl⟩⟩
                      case measure => simp [intOf]; omega
                  · obtain ⟨bb, hbb⟩ : ∃ bb, gotB op [] 4 = bb := ⟨_, rfl⟩
                    have V1 := V _ hrd3 hok _ _ _ hbb (short_err op).1 (short_err op).2
                    have A0 := fun w h => err_any r2 q2 [] 4 w h
                    have A1 := fun w h => left_val r2 q2 [] 4 0 w h rfl
                    have A2 := A0
                    clear V hbb
                    go_wp2_with (first | (with_reducible refine st_load 49 ?_) | (go_at_call 48; with_reducible refine (A0 _ hrd3).mono ?_; rintro e w1 ⟨rfl, rfl⟩))
                    refine StopOp.go rfl fun K hK => ?_
                    refine wp_load_mid 49 _ rfl b (o + k * 4) (by rfl) [.int .i64 op.kind, .int .u64 op.n, .int .i64 op.tk, op.v] _ hc Try.underlying49 rfl (by kernel_rfl) ?_
                    simp only [put_some, List.set_cons_succ, List.set_cons_zero]
                    refine hK _ _ ?_
                    clear hK K
                    go_wp2_with (first | (go_at_call 52; refine V1.mono ?_; rintro e w7 ⟨rfl, h7, hm7⟩) | (go_at_call 26; with_reducible refine (A1 _ h7).mono ?_; rintro e w1 ⟨rfl, rfl⟩) | (go_at_call 48; with_reducible refine (A2 _ h7).mono ?_; rintro e w1 ⟨rfl, rfl⟩))
                    go_roundw
                    case rel => exact ⟨k + 1, _, _, by omega, by go_num, hmr3.fresh hm7 hzq2, h7, by simp, .inr ⟨rfl, rfl⟩⟩
                    case measure => simp [intOf]; omega
                · have hkm : m = k := by omega
                  subst hkm
                  rw [List.drop_eq_nil_of_le (by rw [List.length_take]; omega)] at hst
                  rcases hst with ⟨rfl, hne, rfl⟩ | ⟨rfl, rfl⟩
                  · exact absurd rfl hne
                  · have A3 := fun w h => end_val r2 q2 [] 4 4 w h rfl
                    go_wp2_with (go_at_call 49; with_reducible refine (A3 _ hrd3).mono ?_; rintro e w1 ⟨rfl, rfl⟩)
                    go_ret
                    exact ⟨rfl, hmr3⟩
end Go.Proofs.Ytkedbphdflhhlaa
