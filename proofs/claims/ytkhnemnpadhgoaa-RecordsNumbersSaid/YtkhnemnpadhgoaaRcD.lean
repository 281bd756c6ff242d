import Derived.Test.YtkhnemnpadhgoaaRcC
/-! Records: Put. -/
set_option linter.unusedVariables false
set_option linter.unusedSimpArgs false
set_option maxRecDepth 100000
namespace Go.Proofs.Ytkhnemnpadhgoaa
open Go.RowKit Gw

def PutC (r : Rc) (w : World) (e : Ending) (w' : World) : Prop :=
  ∃ v, e = .returned (.tuple #[v, .int .i64 (chkC r)]) ∧ Ob w' v (if mayC r = true then cbytes r else []) ∧ New w v ∧ Mod [] w w'
theorem if_len (b : Bool) (l : List UInt8) : (if b = true then l else []).length ≤ l.length := by split <;> simp

set_option maxRecDepth 1000000 in
set_option maxHeartbeats 8000000 in
theorem cput_any (r : Rc) (hr : r.ok) (w : World) : Calls Try.prog 9 #[r.v] w (PutC r w) := by
  by_cases hmay : MayC r
  · have hck := chkC_yes hmay
    have hmb : mayC r = true := decide_eq_true hmay
    obtain ⟨p1, p2, p3, p4, p5, p6, p7, p8, p9, p10⟩ := mayC_parts hmay
    unfold PutC
    rw [hck, hmb, if_pos rfl]
    have E := fun w => ccheck_any r hr w
    rw [hck] at E
    obtain ⟨BR, hBR⟩ : ∃ B, B = cbytes r := ⟨_, rfl⟩
    rw [← hBR]
    unfold cbytes at hBR
    have OF := fun w => ofC_any r.kind w
    unfold OfC at OF
    obtain ⟨f1, hf1⟩ : ∃ b, b = cI r.kind := ⟨_, rfl⟩
    obtain ⟨f2, hf2⟩ : ∃ b, b = cS r.kind := ⟨_, rfl⟩
    obtain ⟨f3, hf3⟩ : ∃ b, b = cU r.kind := ⟨_, rfl⟩
    obtain ⟨f4, hf4⟩ : ∃ b, b = cC r.kind := ⟨_, rfl⟩
    rw [← hf1, ← hf2, ← hf3, ← hf4] at OF hBR
    obtain ⟨kind, id, seat, till, clock⟩ := r
    dsimp only [Rc.v] at *
    have HBR := Lib.hid hBR
    clear hBR hck hmb hmay hf1 hf2 hf3 hf4 hr
    have z1 : IntKind.u8.wrap kind = kind := IntWalk.u8_in _ (by omega)
    have z3 : IntKind.u16.wrap seat = seat := by rw [IntKind.wrap_u16]; omega
    have z4 : IntKind.u64.wrap till = till := IntWalk.u64_in _ (by omega)
    have z5 : IntKind.u64.wrap clock = clock := IntWalk.u64_in _ (by omega)
    have k255 : kind ≤ 255 := by omega
    have k0 : 0 ≤ kind := by omega
    have q1 : ∀ b : Bool, (if b = true then low id.toNat 4 else []).length ≤ 4 := fun b => by cases b <;> simp [low_length]
    have q2 : ∀ b : Bool, (if b = true then low seat.toNat 2 else []).length ≤ 2 := fun b => by cases b <;> simp [low_length]
    have q4 : ∀ b : Bool, (if b = true then low till.toNat 8 else []).length ≤ 8 := fun b => by cases b <;> simp [low_length]
    have q8 : ∀ b : Bool, (if b = true then low clock.toNat 8 else []).length ≤ 8 := fun b => by cases b <;> simp [low_length]
    have Q := Lib.hid (And.intro q1 (And.intro q2 (And.intro q4 q8)))
    clear q1 q2 q4 q8
    go_enter Try.func9, Try.ntmps9
    go_wp2_with (with_reducible refine st_box ?_)
    refine StopOp.go rfl fun K hK => ?_
    refine wp_box (v := .agg #[.int .i64 kind, .int .u32 id, .int .i64 seat, .int .i64 till, .int .i64 clock]) (by rfl) ?_
    intro g w1 hg1 hg2 hm1 hB1
    simp only [put_some, List.set_cons_succ, List.set_cons_zero]
    refine hK _ _ ?_
    clear hK K
    have hB : Blk w1 g 25 [.int .i64 kind, .int .u32 id, .int .i64 seat, .int .i64 till, .int .i64 clock] := hB1
    clear hB1
    have b0 := hB.cell' (i := 0) rfl
    have b1 := hB.cell' (i := 1) rfl
    have b2 := hB.cell' (i := 2) rfl
    have b3 := hB.cell' (i := 3) rfl
    have b4 := hB.cell' (i := 4) rfl
    go_wp2_with (first
                  | (with_reducible refine st_alloc ?_)
                  | (go_at_call 10; (with_reducible refine (E _).mono ?_); rintro e w2 ⟨rfl, hm2⟩; have c0 := (hB.ext hm2).cell' (i := 0) rfl)
                  | (go_at_call 23; (with_reducible refine (OF _).mono ?_); rintro e w3 ⟨rfl, hm3⟩))
    refine StopOp.go rfl fun K hK => ?_
    refine wp_alloc zero_shape ?_
    intro s w4 hs1 hs2 hm4 hS4
    simp only [put_some, List.set_cons_succ, List.set_cons_zero]
    refine hK _ _ ?_
    clear hK K
    go_wp2_with (with_reducible refine st_store ?_)
    refine StopOp.go rfl fun K hK => ?_
    refine wp_store (u := .agg #[.bool f1, .bool f2, .bool f3, .bool f4]) (by rfl) (by rfl) (by kernel_rfl) hS4 (by simp [Value.cells]) (by simp [Value.cells, Value.oneCell']) ?_
    intro w5 hm5 hS5
    refine hK _ _ ?_
    clear hK K
    have hS : Blk w5 s 45 [.bool f1, .bool f2, .bool f3, .bool f4] := hS5
    have hm35 : Mod [] w3 w5 := hm4.fresh hm5 (by simpa using hs1)
    have hB5 := ((hB.ext hm2).ext hm3).ext hm35
    have hM5 := ((hm1.ext hm2).ext hm3).ext hm35
    clear b0 b1 b2 b3 b4 c0 hB hS4 hS5 hm1 hm2 hm3 hm4 hm5 hm35 E OF
    go_wp2_with (with_reducible refine st_alloc ?_)
    refine StopOp.go rfl fun K hK => ?_
    refine wp_alloc zero_writer ?_
    intro p w6 hp1 hp2 hm6 hP6
    simp only [put_some, List.set_cons_succ, List.set_cons_zero]
    refine hK _ _ ?_
    clear hK K
    have hW6 := Wr.new hP6
    have hB6 := hB5.ext hm6
    have hS6 := hS.ext hm6
    have hM6 := hM5.ext hm6
    have hpw : w.heap.size ≤ p := Nat.le_trans hM5.size hp1
    have hgp : g ≠ p := by have := hB5.lt; omega
    have hsp : s ≠ p := by have := hS.lt; omega
    clear hP6 hm6 hB5 hS hM5
    have b0 := hB6.cell' (i := 0) rfl
    have e0 := hS6.cell' (i := 0) rfl
    go_upto_if 24 with (go_at_call 24; (with_reducible refine (byte_any p [] kind _ hW6 k0 k255 (by simp)).mono ?_); rintro e w7 ⟨rfl, hW7, hm7⟩; have hS7 := hS6.mod hm7 (by simpa using hsp); have e1 := hS7.cell' (i := 0) rfl)
    have hW : Wr w7 p (low kind.toNat 1) := by simpa using hW7
    have hM := hM6.fresh hm7 (by simpa using hpw)
    have hB' := hB6.mod hm7 (by simpa using hgp)
    have hS' := hS7
    clear b0 e0 e1 hW6 hW7 hB6 hS6 hS7 hM6 hm7
    go_cut [] (fun wx => Wr wx p ((low kind.toNat 1) ++ (if f1 = true then low id.toNat 4 else [])) ∧ Mod [] w wx ∧ Blk wx g 25 [.int .i64 kind, .int .u32 id, .int .i64 seat, .int .i64 till, .int .i64 clock] ∧ Blk wx s 45 [.bool f1, .bool f2, .bool f3, .bool f4])
    case first =>
      have hlX : ((low kind.toNat 1)).length ≤ 140737488355320 := (by have := Q.out.1 f1; have := Q.out.2.1 f2; have := Q.out.2.2.1 f3; simp only [List.length_append, low_length]; omega)
      cases f1 with
      | false =>
        go_wp2_with fail
        go_meet
        exact ⟨by simpa only [Bool.false_eq_true, if_false, List.append_nil] using hW, hM, hB', hS'⟩
      | true =>
        have x0 := hB'.cell' (i := 1) rfl
        go_wp2_with (go_at_call 25; (with_reducible refine (four_any p _ id _ hW p3 p4 hlX).mono ?_); rintro e w8 ⟨rfl, hW8, hm8⟩)
        go_meet
        exact ⟨hW8, hM.fresh hm8 (by simpa using hpw), hB'.mod hm8 (by simpa using hgp), hS'.mod hm8 (by simpa using hsp)⟩
    case rest =>
    clear hW hM hB' hS'
    obtain ⟨hW, hM, hB', hS'⟩ := hcut
    have y1 := hS'.cell' (i := 1) rfl
    go_upto_if 29 with fail
    clear y1
    go_cut [] (fun wx => Wr wx p (((low kind.toNat 1) ++ (if f1 = true then low id.toNat 4 else [])) ++ (if f2 = true then low seat.toNat 2 else [])) ∧ Mod [] w wx ∧ Blk wx g 25 [.int .i64 kind, .int .u32 id, .int .i64 seat, .int .i64 till, .int .i64 clock] ∧ Blk wx s 45 [.bool f1, .bool f2, .bool f3, .bool f4])
    case first =>
      have hlX : (((low kind.toNat 1) ++ (if f1 = true then low id.toNat 4 else []))).length ≤ 140737488355320 := (by have := Q.out.1 f1; have := Q.out.2.1 f2; have := Q.out.2.2.1 f3; simp only [List.length_append, low_length]; omega)
      cases f2 with
      | false =>
        go_wp2_with fail
        go_meet
        exact ⟨by simpa only [Bool.false_eq_true, if_false, List.append_nil] using hW, hM, hB', hS'⟩
      | true =>
        have x0 := hB'.cell' (i := 2) rfl
        go_wp2_with (go_at_call 26; (with_reducible refine (two_any p _ seat _ hW p5 (by omega) hlX).mono ?_); rintro e w8 ⟨rfl, hW8, hm8⟩)
        go_meet
        exact ⟨hW8, hM.fresh hm8 (by simpa using hpw), hB'.mod hm8 (by simpa using hgp), hS'.mod hm8 (by simpa using hsp)⟩
    case rest =>
    clear hW hM hB' hS'
    obtain ⟨hW, hM, hB', hS'⟩ := hcut
    have y2 := hS'.cell' (i := 2) rfl
    go_upto_if 35 with fail
    clear y2
    go_cut [] (fun wx => Wr wx p ((((low kind.toNat 1) ++ (if f1 = true then low id.toNat 4 else [])) ++ (if f2 = true then low seat.toNat 2 else [])) ++ (if f3 = true then low till.toNat 8 else [])) ∧ Mod [] w wx ∧ Blk wx g 25 [.int .i64 kind, .int .u32 id, .int .i64 seat, .int .i64 till, .int .i64 clock] ∧ Blk wx s 45 [.bool f1, .bool f2, .bool f3, .bool f4])
    case first =>
      have hlX : ((((low kind.toNat 1) ++ (if f1 = true then low id.toNat 4 else [])) ++ (if f2 = true then low seat.toNat 2 else []))).length ≤ 140737488355320 := (by have := Q.out.1 f1; have := Q.out.2.1 f2; have := Q.out.2.2.1 f3; simp only [List.length_append, low_length]; omega)
      cases f3 with
      | false =>
        go_wp2_with fail
        go_meet
        exact ⟨by simpa only [Bool.false_eq_true, if_false, List.append_nil] using hW, hM, hB', hS'⟩
      | true =>
        have x0 := hB'.cell' (i := 3) rfl
        go_wp2_with (go_at_call 27; (with_reducible refine (eight_any p _ till _ hW p7 (by omega) hlX).mono ?_); rintro e w8 ⟨rfl, hW8, hm8⟩)
        go_meet
        exact ⟨hW8, hM.fresh hm8 (by simpa using hpw), hB'.mod hm8 (by simpa using hgp), hS'.mod hm8 (by simpa using hsp)⟩
    case rest =>
    clear hW hM hB' hS'
    obtain ⟨hW, hM, hB', hS'⟩ := hcut
    have y3 := hS'.cell' (i := 3) rfl
    go_upto_if 41 with fail
    clear y3
    go_cut [] (fun wx => Wr wx p (((((low kind.toNat 1) ++ (if f1 = true then low id.toNat 4 else [])) ++ (if f2 = true then low seat.toNat 2 else [])) ++ (if f3 = true then low till.toNat 8 else [])) ++ (if f4 = true then low clock.toNat 8 else [])) ∧ Mod [] w wx ∧ Blk wx g 25 [.int .i64 kind, .int .u32 id, .int .i64 seat, .int .i64 till, .int .i64 clock] ∧ Blk wx s 45 [.bool f1, .bool f2, .bool f3, .bool f4])
    case first =>
      have hlX : (((((low kind.toNat 1) ++ (if f1 = true then low id.toNat 4 else [])) ++ (if f2 = true then low seat.toNat 2 else [])) ++ (if f3 = true then low till.toNat 8 else []))).length ≤ 140737488355320 := (by have := Q.out.1 f1; have := Q.out.2.1 f2; have := Q.out.2.2.1 f3; simp only [List.length_append, low_length]; omega)
      cases f4 with
      | false =>
        go_wp2_with fail
        go_meet
        exact ⟨by simpa only [Bool.false_eq_true, if_false, List.append_nil] using hW, hM, hB', hS'⟩
      | true =>
        have x0 := hB'.cell' (i := 4) rfl
        go_wp2_with (go_at_call 27; (with_reducible refine (eight_any p _ clock _ hW p9 (by omega) hlX).mono ?_); rintro e w8 ⟨rfl, hW8, hm8⟩)
        go_meet
        exact ⟨hW8, hM.fresh hm8 (by simpa using hpw), hB'.mod hm8 (by simpa using hgp), hS'.mod hm8 (by simpa using hsp)⟩
    case rest =>
    clear hW hM hB' hS'
    obtain ⟨hW, hM, hB', hS'⟩ := hcut
    go_wp2_with (go_at_call 28; refine (out_any p _ _ hW (by have := Q.out.1 f1; have := Q.out.2.1 f2; have := Q.out.2.2.1 f3; have := Q.out.2.2.2 f4; simp only [List.length_append, low_length]; omega)).mono ?_; rintro e w9 ⟨v9, rfl, ho9, hn9, hm9⟩)
    go_ret2
    exact ⟨_, rfl, by rw [HBR.out]; exact ho9, fun k hk => Nat.le_trans hM.size (hn9 k hk), hM.ext hm9⟩
  · have hck := chkC_no hmay
    have hmb : mayC r = false := decide_eq_false hmay
    unfold PutC
    rw [hck, hmb, if_neg (by simp)]
    have E := fun w => ccheck_any r hr w
    rw [hck] at E
    clear hck hmb hmay hr
    obtain ⟨kind, id, seat, till, clock⟩ := r
    dsimp only [Rc.v] at *
    go_enter Try.func9, Try.ntmps9
    go_wp2_with (with_reducible refine st_box ?_)
    refine StopOp.go rfl fun K hK => ?_
    refine wp_box (v := .agg #[.int .i64 kind, .int .u32 id, .int .i64 seat, .int .i64 till, .int .i64 clock]) (by rfl) ?_
    intro g w1 hg1 hg2 hm1 hB1
    simp only [put_some, List.set_cons_succ, List.set_cons_zero]
    refine hK _ _ ?_
    clear hK K
    have hB : Blk w1 g 25 [.int .i64 kind, .int .u32 id, .int .i64 seat, .int .i64 till, .int .i64 clock] := hB1
    clear hB1
    have b0 := hB.cell' (i := 0) rfl
    have b1 := hB.cell' (i := 1) rfl
    have b2 := hB.cell' (i := 2) rfl
    have b3 := hB.cell' (i := 3) rfl
    have b4 := hB.cell' (i := 4) rfl
    go_wp2_with (go_at_call 10; (with_reducible refine (E _).mono ?_); rintro e w2 ⟨rfl, hm2⟩)
    go_ret2
    exact ⟨_, rfl, Ob.nil _, by simp [New, blks], hm1.ext hm2⟩
end Go.Proofs.Ytkhnemnpadhgoaa
