import Derived.Test.YtfcoaiggpcjldaaDoorRpB
import Derived.Test.YtfcoaiggpcjldaaDoorOctG
/-! Replies: Put. -/
set_option linter.unusedVariables false
set_option linter.unusedSimpArgs false
set_option maxRecDepth 100000
namespace Go.Proofs.YtfcoaiggpcjldaaDoor
open Go.RowKit Gw

/-- a reply's bytes -/
def rhead (r : Rp) : List UInt8 := low r.tag.toNat 4 ++ low r.kind.toNat 1 ++ low r.err.toNat 2
def rbytes (r : Rp) : List UInt8 := rhead r ++ (if hI r.kind r.err = true then low r.id.toNat 4 else []) ++ (if hS r.kind r.err = true then low r.seat.toNat 2 else []) ++ (if hU r.kind r.err = true then low r.till.toNat 8 else []) ++ (if hC r.kind r.err = true then low r.count.toNat 2 else [])
def PutR (r : Rp) (w : World) (e : Ending) (w' : World) : Prop :=
  ∃ v, e = .returned (.tuple #[v, .int .i64 (chkR r)]) ∧ Ob w' v (if mayR r = true then rbytes r else []) ∧ New w v ∧ Mod [] w w'
theorem mayR_parts {r : Rp} (h : MayR r) : 0 ≤ r.kind ∧ r.kind ≤ 10 ∧ 0 ≤ r.err ∧ r.err ≤ 65535 ∧ 0 ≤ r.till ∧ 0 ≤ r.seat ∧ r.seat ≤ 65535 ∧ 0 ≤ r.count ∧ r.count ≤ 65535 := by
  obtain ⟨h1, _, _, _, h5, h6, h7⟩ := h
  omega
theorem if_len (b : Bool) (l : List UInt8) : (if b = true then l else []).length ≤ l.length := by split <;> simp

set_option maxRecDepth 1000000 in
set_option maxHeartbeats 8000000 in
theorem rput_any (r : Rp) (hr : r.ok) (w : World) (hT : Tab w) : Calls Tryd.prog 8 #[r.v] w (PutR r w) := by
  by_cases hmay : MayR r
  · have hck := chkR_yes hmay
    have hmb : mayR r = true := decide_eq_true hmay
    obtain ⟨p1, p2, p3, p4, p5, p6, p7, p8, p9⟩ := mayR_parts hmay
    unfold PutR
    rw [hck, hmb, if_pos rfl]
    have E := fun w h => rcheck_any r w h
    rw [hck] at E
    obtain ⟨BR, hBR⟩ : ∃ B, B = rbytes r := ⟨_, rfl⟩
    rw [← hBR]
    unfold rbytes rhead at hBR
    have OF := fun w h => off_any r.kind r.err w h
    obtain ⟨a1, a2, a4, a8⟩ := fOf_and r.kind r.err
    obtain ⟨F, hF⟩ : ∃ F, F = fOf r.kind r.err := ⟨_, rfl⟩
    rw [← hF] at OF a1 a2 a4 a8
    obtain ⟨bI, hbI⟩ : ∃ b, b = hI r.kind r.err := ⟨_, rfl⟩
    obtain ⟨bS, hbS⟩ : ∃ b, b = hS r.kind r.err := ⟨_, rfl⟩
    obtain ⟨bU, hbU⟩ : ∃ b, b = hU r.kind r.err := ⟨_, rfl⟩
    obtain ⟨bC, hbC⟩ : ∃ b, b = hC r.kind r.err := ⟨_, rfl⟩
    rw [← hbI, ← hbS, ← hbU, ← hbC] at hBR
    rw [← hbI] at a1
    rw [← hbS] at a2
    rw [← hbU] at a4
    rw [← hbC] at a8
    have n1 : (bits .and .i64 F 1 != 0) = bI := by rw [a1]; cases bI <;> rfl
    have n2 : (bits .and .i64 F 2 != 0) = bS := by rw [a2]; cases bS <;> rfl
    have n4 : (bits .and .i64 F 4 != 0) = bU := by rw [a4]; cases bU <;> rfl
    have n8 : (bits .and .i64 F 8 != 0) = bC := by rw [a8]; cases bC <;> rfl
    obtain ⟨t1, t2, _, _, _, _, i1, i2, _, _, _, l2, _, _⟩ := hr
    obtain ⟨tag, kind, err, id, seat, till, count⟩ := r
    dsimp only [Rp.v] at *
    have HBR := Lib.hid hBR
    clear hBR hck hmb hmay hF hbI hbS hbU hbC a1 a2 a4 a8
    have z1 : IntKind.u8.wrap kind = kind := IntWalk.u8_in _ (by omega)
    have z2 : IntKind.u16.wrap err = err := by rw [IntKind.wrap_u16]; omega
    have z3 : IntKind.u16.wrap seat = seat := by rw [IntKind.wrap_u16]; omega
    have z4 : IntKind.u16.wrap count = count := by rw [IntKind.wrap_u16]; omega
    have k255 : kind ≤ 255 := by omega
    have q1 : ∀ b : Bool, (if b = true then low id.toNat 4 else []).length ≤ 4 := fun b => by cases b <;> simp [low_length]
    have q2 : ∀ b : Bool, (if b = true then low seat.toNat 2 else []).length ≤ 2 := fun b => by cases b <;> simp [low_length]
    have q4 : ∀ b : Bool, (if b = true then low till.toNat 8 else []).length ≤ 8 := fun b => by cases b <;> simp [low_length]
    have q8 : ∀ b : Bool, (if b = true then low count.toNat 2 else []).length ≤ 2 := fun b => by cases b <;> simp [low_length]
    have Q := Lib.hid (And.intro q1 (And.intro q2 (And.intro q4 q8)))
    clear q1 q2 q4 q8
    go_enter Tryd.func8, Tryd.ntmps8
    go_wp2_with (with_reducible refine st_box ?_)
    refine StopOp.go rfl fun K hK => ?_
    refine wp_box (v := .agg #[.int .u32 tag, .int .i64 kind, .int .i64 err, .int .u32 id, .int .i64 seat, .int .i64 till, .int .i64 count]) (by rfl) ?_
    intro g w1 hg1 hg2 hm1 hB1
    simp only [put_some, List.set_cons_succ, List.set_cons_zero]
    refine hK _ _ ?_
    clear hK K
    have hB : Blk w1 g 26 [.int .u32 tag, .int .i64 kind, .int .i64 err, .int .u32 id, .int .i64 seat, .int .i64 till, .int .i64 count] := hB1
    clear hB1
    have b0 := hB.cell' (i := 0) rfl
    have b1 := hB.cell' (i := 1) rfl
    have b2 := hB.cell' (i := 2) rfl
    have b3 := hB.cell' (i := 3) rfl
    have b4 := hB.cell' (i := 4) rfl
    have b5 := hB.cell' (i := 5) rfl
    have b6 := hB.cell' (i := 6) rfl
    go_wp2_with (first | (with_reducible refine st_alloc ?_) | (go_at_call 10; (with_reducible refine (E _ (hT.ext hm1)).mono ?_); rintro e w2 ⟨rfl, hm2⟩))
    refine StopOp.go rfl fun K hK => ?_
    refine wp_alloc zero_writer ?_
    intro p w3 hp1 hp2 hm3 hP3
    simp only [put_some, List.set_cons_succ, List.set_cons_zero]
    refine hK _ _ ?_
    clear hK K
    have hW3 := Wr.new hP3
    have hB3 := (hB.ext hm2).ext hm3
    have hM3 := (hm1.ext hm2).ext hm3
    have hpw : w.heap.size ≤ p := Nat.le_trans (hm1.ext hm2).size hp1
    have hgp : g ≠ p := by have := (hB.ext hm2).lt; omega
    clear b0 b1 b2 b3 b4 b5 b6 E
    have hT3 := hT.ext hM3
    have b0 := hB3.cell' (i := 0) rfl
    have b1 := hB3.cell' (i := 1) rfl
    have b2 := hB3.cell' (i := 2) rfl
    have b3 := hB3.cell' (i := 3) rfl
    have b4 := hB3.cell' (i := 4) rfl
    have b5 := hB3.cell' (i := 5) rfl
    have b6 := hB3.cell' (i := 6) rfl
    go_upto_if 30 with (first
                  | (go_at_call 21; (with_reducible refine (four_any p [] tag _ hW3 t1 t2 (by simp)).mono ?_); rintro e w4 ⟨rfl, hW4, hm4⟩; have hB4 := hB3.mod hm4 (by simpa using hgp); have x1 := hB4.cell' (i := 1) rfl)
                  | (go_at_call 22; (with_reducible refine (byte_any p _ kind _ hW4 p1 k255 (by simp [low_length])).mono ?_); rintro e w5 ⟨rfl, hW5, hm5⟩; have hB5 := hB4.mod hm5 (by simpa using hgp); have y2 := hB5.cell' (i := 2) rfl)
                  | (go_at_call 23; (with_reducible refine (two_any p _ err _ hW5 p3 p4 (by simp [low_length])).mono ?_); rintro e w6 ⟨rfl, hW6, hm6⟩; have hB6 := hB5.mod hm6 (by simpa using hgp); have u1 := hB6.cell' (i := 1) rfl; have u2 := hB6.cell' (i := 2) rfl; have hM6 := ((hM3.fresh hm4 (by simpa using hpw)).fresh hm5 (by simpa using hpw)).fresh hm6 (by simpa using hpw))
                  | (go_at_call 24; (with_reducible refine (OF _ (hT.ext hM6)).mono ?_); rintro e w7 ⟨rfl, rfl⟩))
    have hW : Wr w6 p (low tag.toNat 4 ++ low kind.toNat 1 ++ low err.toNat 2) := by simpa using hW6
    have hM := hM6
    have hB' := hB6
    clear hW3 hW4 hW5 hW6 hM3 hM6 hB hB3 hB4 hB5 hB6 b0 b1 b2 b3 b4 b5 b6 x1 y2 u1 u2 hm1 hm2 hm3 hm4 hm5 hm6 hT3 OF hP3
    go_cut [] (fun wx => Wr wx p ((low tag.toNat 4 ++ low kind.toNat 1 ++ low err.toNat 2) ++ (if bI = true then low id.toNat 4 else [])) ∧ Mod [] w wx ∧ Blk wx g 26 [.int .u32 tag, .int .i64 kind, .int .i64 err, .int .u32 id, .int .i64 seat, .int .i64 till, .int .i64 count])
    case first =>
      have hlX : ((low tag.toNat 4 ++ low kind.toNat 1 ++ low err.toNat 2)).length ≤ 140737488355320 := (by have := Q.out.1 bI; have := Q.out.2.1 bS; have := Q.out.2.2.1 bU; simp only [List.length_append, low_length]; omega)
      cases bI with
      | false =>
        go_wp2_with fail
        go_meet
        exact ⟨by simpa only [Bool.false_eq_true, if_false, List.append_nil] using hW, hM, hB'⟩
      | true =>
        have x0 := hB'.cell' (i := 3) rfl
        go_wp2_with (go_at_call 21; (with_reducible refine (four_any p _ id _ hW i1 i2 hlX).mono ?_); rintro e w7 ⟨rfl, hW7, hm7⟩)
        go_meet
        exact ⟨hW7, hM.fresh hm7 (by simpa using hpw), hB'.mod hm7 (by simpa using hgp)⟩
    case rest =>
    clear hW hM hB'
    obtain ⟨hW, hM, hB'⟩ := hcut
    go_upto_if 36 with fail
    go_cut [] (fun wx => Wr wx p (((low tag.toNat 4 ++ low kind.toNat 1 ++ low err.toNat 2) ++ (if bI = true then low id.toNat 4 else [])) ++ (if bS = true then low seat.toNat 2 else [])) ∧ Mod [] w wx ∧ Blk wx g 26 [.int .u32 tag, .int .i64 kind, .int .i64 err, .int .u32 id, .int .i64 seat, .int .i64 till, .int .i64 count])
    case first =>
      have hlX : (((low tag.toNat 4 ++ low kind.toNat 1 ++ low err.toNat 2) ++ (if bI = true then low id.toNat 4 else []))).length ≤ 140737488355320 := (by have := Q.out.1 bI; have := Q.out.2.1 bS; have := Q.out.2.2.1 bU; simp only [List.length_append, low_length]; omega)
      cases bS with
      | false =>
        go_wp2_with fail
        go_meet
        exact ⟨by simpa only [Bool.false_eq_true, if_false, List.append_nil] using hW, hM, hB'⟩
      | true =>
        have x0 := hB'.cell' (i := 4) rfl
        go_wp2_with (go_at_call 23; (with_reducible refine (two_any p _ seat _ hW p6 p7 hlX).mono ?_); rintro e w7 ⟨rfl, hW7, hm7⟩)
        go_meet
        exact ⟨hW7, hM.fresh hm7 (by simpa using hpw), hB'.mod hm7 (by simpa using hgp)⟩
    case rest =>
    clear hW hM hB'
    obtain ⟨hW, hM, hB'⟩ := hcut
    go_upto_if 43 with fail
    go_cut [] (fun wx => Wr wx p ((((low tag.toNat 4 ++ low kind.toNat 1 ++ low err.toNat 2) ++ (if bI = true then low id.toNat 4 else [])) ++ (if bS = true then low seat.toNat 2 else [])) ++ (if bU = true then low till.toNat 8 else [])) ∧ Mod [] w wx ∧ Blk wx g 26 [.int .u32 tag, .int .i64 kind, .int .i64 err, .int .u32 id, .int .i64 seat, .int .i64 till, .int .i64 count])
    case first =>
      have hlX : ((((low tag.toNat 4 ++ low kind.toNat 1 ++ low err.toNat 2) ++ (if bI = true then low id.toNat 4 else [])) ++ (if bS = true then low seat.toNat 2 else []))).length ≤ 140737488355320 := (by have := Q.out.1 bI; have := Q.out.2.1 bS; have := Q.out.2.2.1 bU; simp only [List.length_append, low_length]; omega)
      cases bU with
      | false =>
        go_wp2_with fail
        go_meet
        exact ⟨by simpa only [Bool.false_eq_true, if_false, List.append_nil] using hW, hM, hB'⟩
      | true =>
        have x0 := hB'.cell' (i := 5) rfl
        go_wp2_with (go_at_call 25; (with_reducible refine (eight_any p _ till _ hW p5 (by omega) hlX).mono ?_); rintro e w7 ⟨rfl, hW7, hm7⟩)
        go_meet
        exact ⟨hW7, hM.fresh hm7 (by simpa using hpw), hB'.mod hm7 (by simpa using hgp)⟩
    case rest =>
    clear hW hM hB'
    obtain ⟨hW, hM, hB'⟩ := hcut
    go_upto_if 50 with fail
    go_cut [] (fun wx => Wr wx p (((((low tag.toNat 4 ++ low kind.toNat 1 ++ low err.toNat 2) ++ (if bI = true then low id.toNat 4 else [])) ++ (if bS = true then low seat.toNat 2 else [])) ++ (if bU = true then low till.toNat 8 else [])) ++ (if bC = true then low count.toNat 2 else [])) ∧ Mod [] w wx ∧ Blk wx g 26 [.int .u32 tag, .int .i64 kind, .int .i64 err, .int .u32 id, .int .i64 seat, .int .i64 till, .int .i64 count])
    case first =>
      have hlX : (((((low tag.toNat 4 ++ low kind.toNat 1 ++ low err.toNat 2) ++ (if bI = true then low id.toNat 4 else [])) ++ (if bS = true then low seat.toNat 2 else [])) ++ (if bU = true then low till.toNat 8 else []))).length ≤ 140737488355320 := (by have := Q.out.1 bI; have := Q.out.2.1 bS; have := Q.out.2.2.1 bU; simp only [List.length_append, low_length]; omega)
      cases bC with
      | false =>
        go_wp2_with fail
        go_meet
        exact ⟨by simpa only [Bool.false_eq_true, if_false, List.append_nil] using hW, hM, hB'⟩
      | true =>
        have x0 := hB'.cell' (i := 6) rfl
        go_wp2_with (go_at_call 23; (with_reducible refine (two_any p _ count _ hW p8 p9 hlX).mono ?_); rintro e w7 ⟨rfl, hW7, hm7⟩)
        go_meet
        exact ⟨hW7, hM.fresh hm7 (by simpa using hpw), hB'.mod hm7 (by simpa using hgp)⟩
    case rest =>
    clear hW hM hB'
    obtain ⟨hW, hM, hB'⟩ := hcut
    go_wp2_with (go_at_call 26; refine (out_any p _ _ hW (by have := Q.out.1 bI; have := Q.out.2.1 bS; have := Q.out.2.2.1 bU; have := Q.out.2.2.2 bC; simp only [List.length_append, low_length]; omega)).mono ?_; rintro e w9 ⟨v9, rfl, ho9, hn9, hm9⟩)
    go_ret2
    exact ⟨_, rfl, by rw [HBR.out]; exact ho9, fun k hk => Nat.le_trans hM.size (hn9 k hk), hM.ext hm9⟩
  · have hck := chkR_no hmay
    have hmb : mayR r = false := decide_eq_false hmay
    unfold PutR
    rw [hck, hmb, if_neg (by simp)]
    have E := fun w h => rcheck_any r w h
    rw [hck] at E
    clear hck hmb hmay hr
    obtain ⟨tag, kind, err, id, seat, till, count⟩ := r
    dsimp only [Rp.v] at *
    go_enter Tryd.func8, Tryd.ntmps8
    go_wp2_with (with_reducible refine st_box ?_)
    refine StopOp.go rfl fun K hK => ?_
    refine wp_box (v := .agg #[.int .u32 tag, .int .i64 kind, .int .i64 err, .int .u32 id, .int .i64 seat, .int .i64 till, .int .i64 count]) (by rfl) ?_
    intro g w1 hg1 hg2 hm1 hB1
    simp only [put_some, List.set_cons_succ, List.set_cons_zero]
    refine hK _ _ ?_
    clear hK K
    have hB : Blk w1 g 26 [.int .u32 tag, .int .i64 kind, .int .i64 err, .int .u32 id, .int .i64 seat, .int .i64 till, .int .i64 count] := hB1
    clear hB1
    have b0 := hB.cell' (i := 0) rfl
    have b1 := hB.cell' (i := 1) rfl
    have b2 := hB.cell' (i := 2) rfl
    have b3 := hB.cell' (i := 3) rfl
    have b4 := hB.cell' (i := 4) rfl
    have b5 := hB.cell' (i := 5) rfl
    have b6 := hB.cell' (i := 6) rfl
    go_wp2_with (go_at_call 10; (with_reducible refine (E _ (hT.ext hm1)).mono ?_); rintro e w2 ⟨rfl, hm2⟩)
    go_ret2
    exact ⟨_, rfl, Ob.nil _, by simp [New, blks], hm1.ext hm2⟩
end Go.Proofs.YtfcoaiggpcjldaaDoor
