import Derived.Test.YtfcoaiggpcjldaaDoorRpG
/-! RepliesBack. -/
set_option linter.unusedVariables false
set_option linter.unusedSimpArgs false
set_option maxRecDepth 100000
namespace Go.Proofs.YtfcoaiggpcjldaaDoor
open Go.RowKit Gw

theorem rput_yes (r : Rp) (hr : r.ok) (hm : MayR r) (w : World) (hT : Tab w) : Calls Tryd.prog 8 #[r.v] w fun e w' => ∃ v, e = .returned (.tuple #[v, .int .i64 0]) ∧ Ob w' v (rbytes r) ∧ New w v ∧ Mod [] w w' :=
  (rput_any r hr w hT).mono fun e w' ⟨v, h1, h2, h3, h4⟩ => by
    have hmb : mayR r = true := decide_eq_true hm
    rw [hmb, if_pos rfl] at h2
    exact ⟨v, by rw [h1, chkR_yes hm], h2, h3, h4⟩
theorem rput_no (r : Rp) (hr : r.ok) (hm : ¬ MayR r) (w : World) (hT : Tab w) : Calls Tryd.prog 8 #[r.v] w fun e w' => ∃ ao cap, e = .returned (.tuple #[.slice ao 0 cap, .int .i64 210]) ∧ Mod [] w w' :=
  (rput_any r hr w hT).mono fun e w' ⟨v, h1, h2, h3, h4⟩ => by
    have hmb : mayR r = false := decide_eq_false hm
    rw [hmb, if_neg (by simp)] at h2
    obtain ⟨ao, cap, rfl, _, _⟩ := h2.bs.form
    exact ⟨ao, cap, by rw [h1, chkR_no hm]; rfl, h4⟩
theorem rchk_val (r : Rp) (n : Int) (h : chkR r = n) (w : World) (hT : Tab w) : Calls Tryd.prog 10 #[r.v] w fun e w' => e = .returned (.int .i64 n) ∧ Mod [] w w' := h ▸ rcheck_any r w hT
theorem rget_yes (r : Rp) (b : List UInt8) (v : Value) (w : World) (hT : Tab w) (hb : Bs w v b) (hl : b.length ≤ 140737488355328) (h : rgetOk b = true) (hs : rgetS b = ⟨r, [], 0⟩) :
    Calls Tryd.prog 16 #[v] w fun e w' => e = .returned (.tuple #[r.v, .int .i64 0]) ∧ Mod [] w w' :=
  (rget_any b v w hT hb hl).mono fun e w' ⟨h1, h2⟩ => ⟨by rw [h1]; unfold rgetV; rw [h, if_pos rfl, hs]; rfl, h2⟩
theorem rget_no (b : List UInt8) (v : Value) (w : World) (hT : Tab w) (hb : Bs w v b) (hl : b.length ≤ 140737488355328) (h : rgetOk b = false) :
    Calls Tryd.prog 16 #[v] w fun e w' => e = .returned (.tuple #[.agg #[.int .u32 0, .int .i64 0, .int .i64 0, .int .u32 0, .int .i64 0, .int .i64 0, .int .i64 0], .int .i64 210]) ∧ Mod [] w w' :=
  (rget_any b v w hT hb hl).mono fun e w' ⟨h1, h2⟩ => ⟨by rw [h1]; unfold rgetV; rw [h]; rfl, h2⟩
theorem rbytes_bounds (r : Rp) : 7 ≤ (rbytes r).length ∧ (rbytes r).length ≤ 19 ∧ (r.err ≠ 0 → (rbytes r).length = 7) := by
  rw [rbytes_len]
  refine ⟨by omega, ?_, fun he => ?_⟩
  · rcases flags_cases r.kind r.err with ⟨a, b, c, d⟩ | ⟨a, b, c, d⟩ | ⟨a, b, c, d⟩ | ⟨a, b, c, d⟩ | ⟨a, b, c, d⟩ | ⟨a, b, c, d⟩ <;> rw [a, b, c, d] <;> decide
  · obtain ⟨_, a, b, c, d⟩ := fOf_out (k := r.kind) (e := r.err) (.inl he)
    rw [a, b, c, d]
    rfl

set_option maxRecDepth 1000000 in
set_option maxHeartbeats 8000000 in
theorem repliesBack_core (r : Rp) (hr : r.ok) (b : List UInt8) (bv0 : Value) (w : World) (hT : Tab w) (hb : Bs w bv0 b) (hl : b.length ≤ 1048576) :
    Calls Tryd.prog 6 #[r.v, bv0] w fun e w' => e = .returned (.bool true) ∧ Mod [] w w' := by
  obtain ⟨aob, capb, rfl, _, _⟩ := hb.form
  have hrv : r.v = .agg #[.int .u32 r.tag, .int .i64 r.kind, .int .i64 r.err, .int .u32 r.id, .int .i64 r.seat, .int .i64 r.till, .int .i64 r.count] := rfl
  go_enter Tryd.func6, Tryd.ntmps6
  go_wp2_with (with_reducible refine st_box ?_)
  refine StopOp.go rfl fun K hK => ?_
  refine wp_box (v := r.v) (by rfl) ?_
  intro g w1 hg1 hg2 hm1 hB1
  simp only [put_some, List.set_cons_succ, List.set_cons_zero]
  refine hK _ _ ?_
  clear hK K
  have hB : Blk w1 g 26 (cellsR r) := hB1
  clear hB1
  have hT1 := hT.ext hm1
  unfold cellsR at hB
  go_upto_if 12 with (go_at_call 14; refine (rpawake_any _ hT1).mono ?_; rintro e w2 ⟨rfl, hm2⟩)
  have hB2 := hB.ext hm2
  have hM2 := hm1.ext hm2
  have b0 := hB2.cell' (i := 0) rfl
  have b1 := hB2.cell' (i := 1) rfl
  have b2 := hB2.cell' (i := 2) rfl
  have b3 := hB2.cell' (i := 3) rfl
  have b4 := hB2.cell' (i := 4) rfl
  have b5 := hB2.cell' (i := 5) rfl
  have b6 := hB2.cell' (i := 6) rfl
  clear hB hm1 hm2 hT1
  by_cases hm : MayR r
  · have P := fun w h => rput_yes r hr hm w h
    have CK := fun w h => rchk_val r 0 (chkR_yes hm) w h
    have hok := rgetOk_of r hr hm
    have hgs := rget_of r hr hm
    have hbd := rbytes_bounds r
    obtain ⟨B, hBB⟩ : ∃ B, B = rbytes r := ⟨_, rfl⟩
    rw [← hBB] at P hok hgs hbd
    have G := fun v w h1 h2 => rget_yes r B v w h1 h2 (by omega) hok hgs
    rw [hrv] at P CK G
    clear hok hgs hBB
    have d1 : decide ((B.length : Int) < 7) = false := decide_eq_false (by omega)
    have d2 : decide ((19 : Int) < B.length) = false := decide_eq_false (by omega)
    have d1' : decide (B.length < 7) = false := decide_eq_false (by omega)
    have d2' : decide (19 < B.length) = false := decide_eq_false (by omega)
    have hcmp := fun w => rp_neq_same r.tag r.kind r.err r.id r.seat r.till r.count w
    have HBD := Lib.hid hbd
    clear hbd
    go_upto_if 36 with (first
                  | (go_at_call 8; (with_reducible refine (P _ (hT.ext hM2)).mono ?_); rintro e w3 ⟨v3, rfl, ho3, _, hm3⟩; obtain ⟨ao3, cap3, rfl, _, _⟩ := ho3.bs.form; have hB3 := hB2.ext hm3; have c0 := hB3.cell' (i := 0) rfl; have c1 := hB3.cell' (i := 1) rfl; have c2 := hB3.cell' (i := 2) rfl; have c3 := hB3.cell' (i := 3) rfl; have c4 := hB3.cell' (i := 4) rfl; have c5 := hB3.cell' (i := 5) rfl; have c6 := hB3.cell' (i := 6) rfl)
                  | (go_at_call 10; (with_reducible refine (CK _ (hT.ext (hM2.ext hm3))).mono ?_); rintro e w4 ⟨rfl, hm4⟩))
    have hM4 := (hM2.ext hm3).ext hm4
    have ho4 := ho3.ext hm4
    have hB4 := hB3.ext hm4
    clear b0 b1 b2 b3 b4 b5 b6 c0 c1 c2 c3 c4 c5 c6 ho3 hB3 hB2 hm3 hm4 P CK hM2
    go_cut [] (fun wx => Mod [] w wx)
    case first =>
      go_wp2_with (first
                    | (with_reducible refine st_alloc ?_)
                    | (go_at_call 19; refine (copy_any B _ _ ho4.bs (by have := HBD.out; omega)).mono ?_; rintro e w5 ⟨v5, rfl, ho5, _, hm5⟩; obtain ⟨ao5, cap5, rfl, _, _⟩ := ho5.bs.form)
                    | (go_at_call 16; refine (G _ _ (hT.ext (hM4.ext hm5)) ho5.bs).mono ?_; rintro e w6 ⟨rfl, hm6⟩))
      refine StopOp.go rfl fun K hK => ?_
      refine wp_alloc zero_rep ?_
      intro g7 w7 hg71 hg72 hmww7 hBww7
      simp only [put_some, List.set_cons_succ, List.set_cons_zero]
      refine hK _ _ ?_
      clear hK K
      go_wp2_with (with_reducible refine st_store ?_)
      refine StopOp.go rfl fun K hK => ?_
      refine wp_store (u := .agg #[.int .u32 r.tag, .int .i64 r.kind, .int .i64 r.err, .int .u32 r.id, .int .i64 r.seat, .int .i64 r.till, .int .i64 r.count]) (by rfl) (by rfl) (by kernel_rfl) hBww7 (by simp [Value.cells]) (by simp [Value.cells, Value.oneCell']) ?_
      intro w8 hmww8 hBww8
      refine hK _ _ ?_
      clear hK K
      have hBg7 : Blk w8 g7 26 [.int .u32 r.tag, .int .i64 r.kind, .int .i64 r.err, .int .u32 r.id, .int .i64 r.seat, .int .i64 r.till, .int .i64 r.count] := hBww8
      have hxw8 : Mod [] w6 w8 := hmww7.fresh hmww8 (by simpa using hg71)
      clear hBww7 hBww8 hmww7 hmww8
      have hB8 := ((hB4.ext hm5).ext hm6).ext hxw8
      have hM8 := ((hM4.ext hm5).ext hm6).ext hxw8
      have a0 := hBg7.cell' (i := 0) rfl
      have a1 := hBg7.cell' (i := 1) rfl
      have a2 := hBg7.cell' (i := 2) rfl
      have a3 := hBg7.cell' (i := 3) rfl
      have a4 := hBg7.cell' (i := 4) rfl
      have a5 := hBg7.cell' (i := 5) rfl
      have a6 := hBg7.cell' (i := 6) rfl
      have b0 := hB8.cell' (i := 0) rfl
      have b1 := hB8.cell' (i := 1) rfl
      have b2 := hB8.cell' (i := 2) rfl
      have b3 := hB8.cell' (i := 3) rfl
      have b4 := hB8.cell' (i := 4) rfl
      have b5 := hB8.cell' (i := 5) rfl
      have b6 := hB8.cell' (i := 6) rfl
      by_cases he : r.err = 0
      · have e1 : (r.err != 0) = false := by simpa using he
        go_wp2_with fail
        go_meet
        exact hM8
      · have e1 : (r.err != 0) = true := by simpa using he
        have e2 : ((B.length : Int) != 7) = false := by have := HBD.out.2.2 he; simp; omega
        have e3 : B.length = 7 := HBD.out.2.2 he
        clear d1 d2 d1' d2' he
        go_wp2_with fail
        go_meet
        exact hM8
    case rest =>
    clear ho4 hB4 hM4
    have hMc := hcut
    clear hcut
    cases hok : rgetOk b with
    | false =>
      have G2 := fun v w h1 h2 => rget_no b v w h1 h2 (by omega) hok
      have hce := fun w => rp_eql_same 0 0 0 0 0 0 0 w
      go_wp2_with (first
                    | (with_reducible refine st_alloc ?_)
                    | (go_at_call 19; refine (copy_any b _ _ (hb.ext hMc) (by omega)).mono ?_; rintro e y1 ⟨x1, rfl, hx1, _, hy1⟩; obtain ⟨aox, capx, rfl, _, _⟩ := hx1.bs.form)
                    | (go_at_call 16; refine (G2 _ _ (hT.ext (hMc.ext hy1)) hx1.bs).mono ?_; rintro e y2 ⟨rfl, hy2⟩))
      refine StopOp.go rfl fun K hK => ?_
      refine wp_alloc zero_rep ?_
      intro g9 y3 hg91 hg92 hmwy3 hBwy3
      simp only [put_some, List.set_cons_succ, List.set_cons_zero]
      refine hK _ _ ?_
      clear hK K
      go_wp2_with (with_reducible refine st_store ?_)
      refine StopOp.go rfl fun K hK => ?_
      refine wp_store (u := .agg #[.int .u32 0, .int .i64 0, .int .i64 0, .int .u32 0, .int .i64 0, .int .i64 0, .int .i64 0]) (by rfl) (by rfl) (by kernel_rfl) hBwy3 (by simp [Value.cells]) (by simp [Value.cells, Value.oneCell']) ?_
      intro y4 hmwy4 hBwy4
      refine hK _ _ ?_
      clear hK K
      have hBg9 : Blk y4 g9 26 [.int .u32 0, .int .i64 0, .int .i64 0, .int .u32 0, .int .i64 0, .int .i64 0, .int .i64 0] := hBwy4
      have hxy4 : Mod [] y2 y4 := hmwy3.fresh hmwy4 (by simpa using hg91)
      clear hBwy3 hBwy4 hmwy3 hmwy4
      have z0 := hBg9.cell' (i := 0) rfl
      have z1 := hBg9.cell' (i := 1) rfl
      have z2 := hBg9.cell' (i := 2) rfl
      have z3 := hBg9.cell' (i := 3) rfl
      have z4 := hBg9.cell' (i := 4) rfl
      have z5 := hBg9.cell' (i := 5) rfl
      have z6 := hBg9.cell' (i := 6) rfl
      go_wp2_with fail
      go_ret
      exact ⟨rfl, ((hMc.ext hy1).ext hy2).ext hxy4⟩
    | true =>
      obtain ⟨s, hs, hso, hsm, hsb⟩ := rgetOk_inv b hok
      have G2 := fun v w h1 h2 => rget_yes s b v w h1 h2 (by omega) hok hs
      have P2 := fun w h => rput_yes s hso hsm w h
      rw [hsb] at P2
      clear hok hs hso hsm hsb
      obtain ⟨tag, kind, err, id, seat, till, count⟩ := s
      dsimp only [Rp.v] at G2 P2
      go_wp2_with (first
                    | (with_reducible refine st_alloc ?_)
                    | (go_at_call 19; refine (copy_any b _ _ (hb.ext hMc) (by omega)).mono ?_; rintro e y1 ⟨x1, rfl, hx1, _, hy1⟩; obtain ⟨aox, capx, rfl, _, _⟩ := hx1.bs.form)
                    | (go_at_call 16; refine (G2 _ _ (hT.ext (hMc.ext hy1)) hx1.bs).mono ?_; rintro e y2 ⟨rfl, hy2⟩))
      refine StopOp.go rfl fun K hK => ?_
      refine wp_alloc zero_rep ?_
      intro g9 y3 hg91 hg92 hmwy3 hBwy3
      simp only [put_some, List.set_cons_succ, List.set_cons_zero]
      refine hK _ _ ?_
      clear hK K
      go_wp2_with (with_reducible refine st_store ?_)
      refine StopOp.go rfl fun K hK => ?_
      refine wp_store (u := .agg #[.int .u32 tag, .int .i64 kind, .int .i64 err, .int .u32 id, .int .i64 seat, .int .i64 till, .int .i64 count]) (by rfl) (by rfl) (by kernel_rfl) hBwy3 (by simp [Value.cells]) (by simp [Value.cells, Value.oneCell']) ?_
      intro y4 hmwy4 hBwy4
      refine hK _ _ ?_
      clear hK K
      have hBg9 : Blk y4 g9 26 [.int .u32 tag, .int .i64 kind, .int .i64 err, .int .u32 id, .int .i64 seat, .int .i64 till, .int .i64 count] := hBwy4
      have hxy4 : Mod [] y2 y4 := hmwy3.fresh hmwy4 (by simpa using hg91)
      clear hBwy3 hBwy4 hmwy3 hmwy4
      have z0 := hBg9.cell' (i := 0) rfl
      have z1 := hBg9.cell' (i := 1) rfl
      have z2 := hBg9.cell' (i := 2) rfl
      have z3 := hBg9.cell' (i := 3) rfl
      have z4 := hBg9.cell' (i := 4) rfl
      have z5 := hBg9.cell' (i := 5) rfl
      have z6 := hBg9.cell' (i := 6) rfl
      have hMy := ((hMc.ext hy1).ext hy2).ext hxy4
      go_wp2_with (first
                    | (go_at_call 8; refine (P2 _ (hT.ext hMy)).mono ?_; rintro e y5 ⟨x5, rfl, hx5, _, hy5⟩; obtain ⟨ao5, cap5, rfl, _, _⟩ := hx5.bs.form)
                    | (go_at_call 12; refine (same_yes b b _ _ _ (hb.ext (hMy.ext hy5)) hx5.bs rfl).mono ?_; rintro e y6 ⟨rfl, hy6⟩))
      go_ret
      exact ⟨rfl, (hMy.ext hy5).ext hy6⟩
  · have P := fun w h => rput_no r hr hm w h
    have CK := fun w h => rchk_val r 210 (chkR_no hm) w h
    rw [hrv] at P CK
    go_upto_if 36 with (first
                  | (go_at_call 8; (with_reducible refine (P _ (hT.ext hM2)).mono ?_); rintro e w3 ⟨ao3, cap3, rfl, hm3⟩; have hB3 := hB2.ext hm3; have c0 := hB3.cell' (i := 0) rfl; have c1 := hB3.cell' (i := 1) rfl; have c2 := hB3.cell' (i := 2) rfl; have c3 := hB3.cell' (i := 3) rfl; have c4 := hB3.cell' (i := 4) rfl; have c5 := hB3.cell' (i := 5) rfl; have c6 := hB3.cell' (i := 6) rfl)
                  | (go_at_call 10; (with_reducible refine (CK _ (hT.ext (hM2.ext hm3))).mono ?_); rintro e w4 ⟨rfl, hm4⟩))
    have hMc := (hM2.ext hm3).ext hm4
    clear b0 b1 b2 b3 b4 b5 b6 c0 c1 c2 c3 c4 c5 c6 hB3 hB2 hm3 hm4 P CK hM2
    cases hok : rgetOk b with
    | false =>
      have G2 := fun v w h1 h2 => rget_no b v w h1 h2 (by omega) hok
      have hce := fun w => rp_eql_same 0 0 0 0 0 0 0 w
      go_wp2_with (first
                    | (with_reducible refine st_alloc ?_)
                    | (go_at_call 19; refine (copy_any b _ _ (hb.ext hMc) (by omega)).mono ?_; rintro e y1 ⟨x1, rfl, hx1, _, hy1⟩; obtain ⟨aox, capx, rfl, _, _⟩ := hx1.bs.form)
                    | (go_at_call 16; refine (G2 _ _ (hT.ext (hMc.ext hy1)) hx1.bs).mono ?_; rintro e y2 ⟨rfl, hy2⟩))
      refine StopOp.go rfl fun K hK => ?_
      refine wp_alloc zero_rep ?_
      intro g9 y3 hg91 hg92 hmwy3 hBwy3
      simp only [put_some, List.set_cons_succ, List.set_cons_zero]
      refine hK _ _ ?_
      clear hK K
      go_wp2_with (with_reducible refine st_store ?_)
      refine StopOp.go rfl fun K hK => ?_
      refine wp_store (u := .agg #[.int .u32 0, .int .i64 0, .int .i64 0, .int .u32 0, .int .i64 0, .int .i64 0, .int .i64 0]) (by rfl) (by rfl) (by kernel_rfl) hBwy3 (by simp [Value.cells]) (by simp [Value.cells, Value.oneCell']) ?_
      intro y4 hmwy4 hBwy4
      refine hK _ _ ?_
      clear hK K
      have hBg9 : Blk y4 g9 26 [.int .u32 0, .int .i64 0, .int .i64 0, .int .u32 0, .int .i64 0, .int .i64 0, .int .i64 0] := hBwy4
      have hxy4 : Mod [] y2 y4 := hmwy3.fresh hmwy4 (by simpa using hg91)
      clear hBwy3 hBwy4 hmwy3 hmwy4
      have z0 := hBg9.cell' (i := 0) rfl
      have z1 := hBg9.cell' (i := 1) rfl
      have z2 := hBg9.cell' (i := 2) rfl
      have z3 := hBg9.cell' (i := 3) rfl
      have z4 := hBg9.cell' (i := 4) rfl
      have z5 := hBg9.cell' (i := 5) rfl
      have z6 := hBg9.cell' (i := 6) rfl
      go_wp2_with fail
      go_ret
      exact ⟨rfl, ((hMc.ext hy1).ext hy2).ext hxy4⟩
    | true =>
      obtain ⟨s, hs, hso, hsm, hsb⟩ := rgetOk_inv b hok
      have G2 := fun v w h1 h2 => rget_yes s b v w h1 h2 (by omega) hok hs
      have P2 := fun w h => rput_yes s hso hsm w h
      rw [hsb] at P2
      clear hok hs hso hsm hsb
      obtain ⟨tag, kind, err, id, seat, till, count⟩ := s
      dsimp only [Rp.v] at G2 P2
      go_wp2_with (first
                    | (with_reducible refine st_alloc ?_)
                    | (go_at_call 19; refine (copy_any b _ _ (hb.ext hMc) (by omega)).mono ?_; rintro e y1 ⟨x1, rfl, hx1, _, hy1⟩; obtain ⟨aox, capx, rfl, _, _⟩ := hx1.bs.form)
                    | (go_at_call 16; refine (G2 _ _ (hT.ext (hMc.ext hy1)) hx1.bs).mono ?_; rintro e y2 ⟨rfl, hy2⟩))
      refine StopOp.go rfl fun K hK => ?_
      refine wp_alloc zero_rep ?_
      intro g9 y3 hg91 hg92 hmwy3 hBwy3
      simp only [put_some, List.set_cons_succ, List.set_cons_zero]
      refine hK _ _ ?_
      clear hK K
      go_wp2_with (with_reducible refine st_store ?_)
      refine StopOp.go rfl fun K hK => ?_
      refine wp_store (u := .agg #[.int .u32 tag, .int .i64 kind, .int .i64 err, .int .u32 id, .int .i64 seat, .int .i64 till, .int .i64 count]) (by rfl) (by rfl) (by kernel_rfl) hBwy3 (by simp [Value.cells]) (by simp [Value.cells, Value.oneCell']) ?_
      intro y4 hmwy4 hBwy4
      refine hK _ _ ?_
      clear hK K
      have hBg9 : Blk y4 g9 26 [.int .u32 tag, .int .i64 kind, .int .i64 err, .int .u32 id, .int .i64 seat, .int .i64 till, .int .i64 count] := hBwy4
      have hxy4 : Mod [] y2 y4 := hmwy3.fresh hmwy4 (by simpa using hg91)
      clear hBwy3 hBwy4 hmwy3 hmwy4
      have z0 := hBg9.cell' (i := 0) rfl
      have z1 := hBg9.cell' (i := 1) rfl
      have z2 := hBg9.cell' (i := 2) rfl
      have z3 := hBg9.cell' (i := 3) rfl
      have z4 := hBg9.cell' (i := 4) rfl
      have z5 := hBg9.cell' (i := 5) rfl
      have z6 := hBg9.cell' (i := 6) rfl
      have hMy := ((hMc.ext hy1).ext hy2).ext hxy4
      go_wp2_with (first
                    | (go_at_call 8; refine (P2 _ (hT.ext hMy)).mono ?_; rintro e y5 ⟨x5, rfl, hx5, _, hy5⟩; obtain ⟨ao5, cap5, rfl, _, _⟩ := hx5.bs.form)
                    | (go_at_call 12; refine (same_yes b b _ _ _ (hb.ext (hMy.ext hy5)) hx5.bs rfl).mono ?_; rintro e y6 ⟨rfl, hy6⟩))
      go_ret
      exact ⟨rfl, (hMy.ext hy5).ext hy6⟩
end Go.Proofs.YtfcoaiggpcjldaaDoor
