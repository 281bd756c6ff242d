import Derived.Test.YtfcoaiggpcjldaaRqB
set_option linter.unusedVariables false
set_option linter.unusedSimpArgs false
set_option maxRecDepth 100000
namespace Go.Proofs.Ytfcoaiggpcjldaa
open Go.RowKit Gw

def fieldB (q : Rq) (i : Int) : List UInt8 := if i = 0 then low q.id 4 else if i = 1 then low q.seat.toNat 2 else low q.ttl.toNat 8
/-- a request's bytes -/
def bytesOf (q : Rq) : List UInt8 := low q.kind.toNat 1 ++ low q.tag 4 ++ (has q.kind).flatMap (fieldB q)

set_option maxHeartbeats 1000000 in
theorem put_id (g : Nat) (xs : List UInt8) (kind seat ttl : Int) (tag id : Nat) (w : World) (hw : Wr w g xs) (hi : id < 4294967296) (hl : xs.length ≤ 1000) :
    Calls Try.prog 40 #[.pointer (some ⟨g, 0, none⟩), .agg #[.int .i64 kind, .int .u32 tag, .int .u32 id, .int .i64 seat, .int .i64 ttl]] w (PutPost w g (xs ++ low id 4)) := by
  have hi' : (id : Int) ≤ 4294967295 := by omega
  go_enter Try.func40, Try.ntmps40
  go_wp2_with (with_reducible refine st_box ?_)
  refine StopOp.go rfl fun K hK => ?_
  refine wp_box (v := .agg #[.int .i64 kind, .int .u32 tag, .int .u32 id, .int .i64 seat, .int .i64 ttl]) (by rfl) ?_
  intro p w1 hp1 hp2 hm1 hB1
  simp only [put_some, List.set_cons_succ, List.set_cons_zero]
  refine hK _ _ ?_
  clear hK K
  have c2 : w1.cell? ⟨p, 2, none⟩ = some (.int .u32 id) := hB1.cell' (i := 2) rfl
  go_wp2_with (go_at_call 24; refine (four_any g xs id _ (hw.ext hm1) (by omega) hi' (by omega)).mono ?_; rintro e w2 ⟨rfl, hw2, hm2⟩)
  go_end0
  rw [Int.toNat_natCast] at hw2
  exact ⟨rfl, hw2, (hm1.weak (by simp)).trans hm2⟩
set_option maxHeartbeats 1000000 in
theorem put_seat (g : Nat) (xs : List UInt8) (kind seat ttl : Int) (tag id : Nat) (w : World) (hw : Wr w g xs) (h1 : 0 ≤ seat) (h2 : seat ≤ 65535) (hl : xs.length ≤ 1000) :
    Calls Try.prog 43 #[.pointer (some ⟨g, 0, none⟩), .agg #[.int .i64 kind, .int .u32 tag, .int .u32 id, .int .i64 seat, .int .i64 ttl]] w (PutPost w g (xs ++ low seat.toNat 2)) := by
  go_enter Try.func43, Try.ntmps43
  go_wp2_with (with_reducible refine st_box ?_)
  refine StopOp.go rfl fun K hK => ?_
  refine wp_box (v := .agg #[.int .i64 kind, .int .u32 tag, .int .u32 id, .int .i64 seat, .int .i64 ttl]) (by rfl) ?_
  intro p w1 hp1 hp2 hm1 hB1
  simp only [put_some, List.set_cons_succ, List.set_cons_zero]
  refine hK _ _ ?_
  clear hK K
  have c3 : w1.cell? ⟨p, 3, none⟩ = some (.int .i64 seat) := hB1.cell' (i := 3) rfl
  have hs : IntKind.u16.wrap seat = seat := by rw [IntKind.wrap_u16]; omega
  go_wp2_with (go_at_call 44; refine (two_any g xs seat _ (hw.ext hm1) h1 h2 (by omega)).mono ?_; rintro e w2 ⟨rfl, hw2, hm2⟩)
  go_end0
  exact ⟨rfl, hw2, (hm1.weak (by simp)).trans hm2⟩
set_option maxHeartbeats 1000000 in
theorem put_ttl (g : Nat) (xs : List UInt8) (kind seat ttl : Int) (tag id : Nat) (w : World) (hw : Wr w g xs) (h1 : 0 ≤ ttl) (h2 : ttl ≤ 9223372036854775807) (hl : xs.length ≤ 1000) :
    Calls Try.prog 48 #[.pointer (some ⟨g, 0, none⟩), .agg #[.int .i64 kind, .int .u32 tag, .int .u32 id, .int .i64 seat, .int .i64 ttl]] w (PutPost w g (xs ++ low ttl.toNat 8)) := by
  go_enter Try.func48, Try.ntmps48
  go_wp2_with (with_reducible refine st_box ?_)
  refine StopOp.go rfl fun K hK => ?_
  refine wp_box (v := .agg #[.int .i64 kind, .int .u32 tag, .int .u32 id, .int .i64 seat, .int .i64 ttl]) (by rfl) ?_
  intro p w1 hp1 hp2 hm1 hB1
  simp only [put_some, List.set_cons_succ, List.set_cons_zero]
  refine hK _ _ ?_
  clear hK K
  have c4 : w1.cell? ⟨p, 4, none⟩ = some (.int .i64 ttl) := hB1.cell' (i := 4) rfl
  go_wp2_with (go_at_call 49; refine (eight_any g xs ttl _ (hw.ext hm1) h1 (by omega) (by omega)).mono ?_; rintro e w2 ⟨rfl, hw2, hm2⟩)
  go_end0
  exact ⟨rfl, hw2, (hm1.weak (by simp)).trans hm2⟩

theorem Is.modI {w w' : World} {v : Value} {l : List Int} {g : Nat} {xs : List UInt8} (h : Is w v l) (hw : Wr w g xs) (hm : Mod [g] w w') : Is w' v l := by
  obtain ⟨u, hB, hu⟩ := hw
  exact Ow.mod h hm fun b hb hg => Ow.ne h hB (by decide) (by have : b = g := (by simpa using hg); exact this ▸ hb)
theorem has_le (k : Int) : (has k).length ≤ 2 := by unfold has; repeat' split
                                                    all_goals simp
theorem has_in (k x : Int) (h : x ∈ has k) : x = 0 ∨ x = 1 ∨ x = 2 := by
  unfold has at h
  repeat' split at h
  all_goals simp at h
  all_goals omega
theorem fieldB_le (q : Rq) (i : Int) : (fieldB q i).length ≤ 8 := by unfold fieldB; repeat' split
                                                                     all_goals simp [low_length]
theorem flat_le (q : Rq) : ∀ l : List Int, (l.flatMap (fieldB q)).length ≤ 8 * l.length
  | [] => by simp
  | x :: l => by
    have := flat_le q l
    have := fieldB_le q x
    rw [List.flatMap_cons, List.length_append, List.length_cons]
    omega
theorem mayB_parts {q : Rq} (h : mayB q = true) : 1 ≤ q.kind ∧ q.kind ≤ 10 ∧ 0 ≤ q.seat ∧ q.seat ≤ 65535 ∧ 0 ≤ q.ttl := by
  unfold mayB preB okB at h
  simp only [Bool.and_eq_true, decide_eq_true_eq] at h
  omega
/-- what Put leaves -/
def PutQ (q : Rq) (w : World) (e : Ending) (w' : World) : Prop :=
  ∃ v, e = .returned (.tuple #[v, .int .i64 (chk q)]) ∧ Ob w' v (if mayB q = true then bytesOf q else []) ∧ New w v ∧ Mod [] w w'

set_option maxRecDepth 1000000 in
set_option maxHeartbeats 16000000 in
theorem putq_any (q : Rq) (w : World) (hq : q.ok) : Calls Try.prog 9 #[q.v] w (PutQ q w) := by
  cases hmay : mayB q with
  | false =>
    have hck : chk q = 200 := chk_no hmay
    unfold PutQ
    rw [hck, hmay, if_neg (by simp)]
    have E := fun w => check_any q w hq
    rw [hck] at E
    clear hck hmay hq
    obtain ⟨kind, tag, id, seat, ttl⟩ := q
    dsimp only [Rq.v] at *
    go_enter Try.func9, Try.ntmps9
    go_wp2_with (with_reducible refine st_box ?_)
    refine StopOp.go rfl fun K hK => ?_
    refine wp_box (v := .agg #[.int .i64 kind, .int .u32 tag, .int .u32 id, .int .i64 seat, .int .i64 ttl]) (by rfl) ?_
    intro g w1 hg1 hg2 hm1 hB1
    simp only [put_some, List.set_cons_succ, List.set_cons_zero]
    refine hK _ _ ?_
    clear hK K
    have hB1' : Blk w1 g 25 [.int .i64 kind, .int .u32 tag, .int .u32 id, .int .i64 seat, .int .i64 ttl] := hB1
    have b0 := hB1'.cell' (i := 0) rfl
    have b1 := hB1'.cell' (i := 1) rfl
    have b2 := hB1'.cell' (i := 2) rfl
    have b3 := hB1'.cell' (i := 3) rfl
    have b4 := hB1'.cell' (i := 4) rfl
    go_wp2_with (go_at_call 12; (with_reducible refine (E _).mono ?_); rintro e w2 ⟨rfl, hm2⟩)
    go_ret2
    exact ⟨_, rfl, Ob.nil _, by simp [New, blks], hm1.ext hm2⟩
  | true =>
    have hck : chk q = 0 := by unfold chk; rw [hmay]; rfl
    obtain ⟨p1, p2, p3, p4, p5⟩ := mayB_parts hmay
    unfold PutQ
    rw [hck, hmay, if_pos rfl]
    have E := fun w => check_any q w hq
    rw [hck] at E
    obtain ⟨BQ, hBQ⟩ : ∃ B, B = bytesOf q := ⟨_, rfl⟩
    rw [← hBQ]
    have HBQ := Lib.hid hBQ
    have HFB : RowKit.Hid (∀ i, fieldB q i = if i = 0 then low q.id 4 else if i = 1 then low q.seat.toNat 2 else low q.ttl.toNat 8) := Lib.hid fun _ => rfl
    obtain ⟨FB, hFB⟩ : ∃ F, F = fieldB q := ⟨_, rfl⟩
    have hFl := flat_le q
    unfold bytesOf at HBQ
    rw [← hFB] at HFB HBQ hFl
    clear hck hmay hBQ hFB
    obtain ⟨kind, tag, id, seat, ttl⟩ := q
    obtain ⟨k1, k2, ht, hi, s1, s2, l1, l2⟩ := hq
    dsimp only [Rq.v] at *
    have hok : okB kind = true := by unfold okB; exact decide_eq_true ⟨p1, p2⟩
    have hh2 := has_le kind
    have hin := has_in kind
    obtain ⟨H, hH⟩ : ∃ H, H = has kind := ⟨_, rfl⟩
    have O := fun w => of_kind kind w
    unfold OfPost at O
    rw [← hH] at O HBQ hh2 hin
    rw [hok] at O
    have HIN := Lib.hid hin
    have HFL := Lib.hid hFl
    clear hH hok hin hFl k1 k2 s1 s2 l1
    have ht' : (tag : Int) ≤ 4294967295 := by omega
    have hkd : kind ≤ 255 := by omega
    have hkd0 : 0 ≤ kind := by omega
    go_enter Try.func9, Try.ntmps9
    go_wp2_with (with_reducible refine st_box ?_)
    refine StopOp.go rfl fun K hK => ?_
    refine wp_box (v := .agg #[.int .i64 kind, .int .u32 tag, .int .u32 id, .int .i64 seat, .int .i64 ttl]) (by rfl) ?_
    intro gq w1 hg1 hg2 hm1 hB1
    simp only [put_some, List.set_cons_succ, List.set_cons_zero]
    refine hK _ _ ?_
    clear hK K
    have hB1' : Blk w1 gq 25 [.int .i64 kind, .int .u32 tag, .int .u32 id, .int .i64 seat, .int .i64 ttl] := hB1
    have b0 := hB1'.cell' (i := 0) rfl
    have b1 := hB1'.cell' (i := 1) rfl
    have b2 := hB1'.cell' (i := 2) rfl
    have b3 := hB1'.cell' (i := 3) rfl
    have b4 := hB1'.cell' (i := 4) rfl
    go_wp2_with (first | (with_reducible refine st_alloc ?_) | (go_at_call 12; (with_reducible refine (E _).mono ?_); rintro e w2 ⟨rfl, hm2⟩))
    refine StopOp.go rfl fun K hK => ?_
    refine wp_alloc zero_writer ?_
    intro g w3 hg3 hg4 hm3 hB3
    simp only [put_some, List.set_cons_succ, List.set_cons_zero]
    refine hK _ _ ?_
    clear hK K
    have hW3 := Wr.new hB3
    have hBq3 := (hB1'.ext hm2).ext hm3
    have hm13 := (hm1.ext hm2).ext hm3
    have hgw : w.heap.size ≤ g := by have := hm1.size; have := hm2.size; omega
    have hgq : gq ≠ g := by have := hB1'.lt; have := hm2.size; omega
    have d0 := hBq3.cell' (i := 0) rfl
    clear hB3 hB1 hB1' b0 b1 b2 b3 b4 hm1 hm2 hm3 E
    go_wp2_with (first
                  | (with_reducible refine st_alloc ?_)
                  | (go_at_call 23; refine (byte_any g [] kind _ hW3 hkd0 hkd (by simp)).mono ?_; rintro e w4 ⟨rfl, hW4, hm4⟩; have hBq4 := hBq3.mod hm4 (by simpa using hgq); have f1 := hBq4.cell' (i := 1) rfl)
                  | (go_at_call 24; refine (four_any g _ tag _ hW4 (by omega) ht' (by simp [low_length])).mono ?_; rintro e w5 ⟨rfl, hW5, hm5⟩; have hBq5 := hBq4.mod hm5 (by simpa using hgq); have f0 := hBq5.cell' (i := 0) rfl)
                  | (go_at_call 25; (with_reducible refine (O _).mono ?_); rintro e w6 ⟨v, rfl, hv, hm6⟩; obtain ⟨aov, capv, rfl, _, _⟩ := hv.form)
                  | (go_at_call 26; refine (fields_any _).mono ?_; rintro e w7 ⟨rfl, hm7⟩))
    refine StopOp.go rfl fun K hK => ?_
    refine wp_alloc zero_fields ?_
    intro p w8 hp1 hp2 hm8 hB8
    simp only [put_some, List.set_cons_succ, List.set_cons_zero]
    refine hK _ _ ?_
    clear hK K
    go_wp2_with (with_reducible refine st_store ?_)
    refine StopOp.go rfl fun K hK => ?_
    refine wp_store (u := .agg #[.func (.func 40) #[] #[], .func (.func 41) #[] #[], .func (.func 42) #[] #[], .func (.func 43) #[] #[], .func (.func 45) #[] #[], .func (.func 47) #[] #[], .func (.func 48) #[] #[], .func (.func 50) #[] #[], .func (.func 52) #[] #[]]) (by rfl) (by rfl) (by kernel_rfl) hB8 (by simp [Value.cells]) (by simp [Value.cells, Value.oneCell']) ?_
    intro w9 hm9 hB9
    refine hK _ _ ?_
    clear hK K
    have hB9' : Blk w9 p 54 [.func (.func 40) #[] #[], .func (.func 41) #[] #[], .func (.func 42) #[] #[], .func (.func 43) #[] #[], .func (.func 45) #[] #[], .func (.func 47) #[] #[], .func (.func 48) #[] #[], .func (.func 50) #[] #[], .func (.func 52) #[] #[]] := hB9
    have hm59 : Mod [] w5 w9 := (((hm6.ext hm7).ext hm8)).fresh hm9 (by have := hm6.size; have := hm7.size; simp; omega)
    have hW9 : Wr w9 g (low kind.toNat 1 ++ low tag 4) := by
      have := hW5.ext hm59
      rwa [List.nil_append, Int.toNat_natCast] at this
    have hBq9 := hBq5.ext hm59
    have hv9 : Is w9 (.slice aov H.length capv) H := (hv.ext hm7).ext (hm8.fresh hm9 (by simpa using hp1))
    have hm9x : Mod [] w w9 := ((hm13.fresh hm4 (by simpa using hgw)).fresh hm5 (by simpa using hgw)).ext hm59
    have hpg : p ≠ g := hB9'.ne hW9.choose_spec.1 (by decide)
    obtain ⟨BB, hBB⟩ : ∃ B, B = low kind.toNat 1 ++ low tag 4 := ⟨_, rfl⟩
    have hBl : BB.length = 5 := by rw [hBB]; simp [low_length]
    rw [← hBB] at hW9 HBQ
    have hBl' : BB.length ≤ 5 := by omega
    clear hBB hBl hB9 hB8 hm8 hm9 hm59 hm7 hm6 hm5 hm4 hm13 hv hW3 hW4 hW5 hBq3 hBq4 hBq5 d0 f1 f0 O
    go_wp2_with fail
    go_loopw [32] (fun i wr => ∃ j : Nat, j ≤ H.length ∧ i = .int .i64 j ∧ Mod [] w wr ∧ Blk wr gq 25 [.int .i64 kind, .int .u32 tag, .int .u32 id, .int .i64 seat, .int .i64 ttl] ∧ Blk wr p 54 [.func (.func 40) #[] #[], .func (.func 41) #[] #[], .func (.func 42) #[] #[], .func (.func 43) #[] #[], .func (.func 45) #[] #[], .func (.func 47) #[] #[], .func (.func 48) #[] #[], .func (.func 50) #[] #[], .func (.func 52) #[] #[]] ∧ Is wr (.slice aov H.length capv) H ∧ Wr wr g (BB ++ (H.take j).flatMap FB)) (fun i _ => H.length - (intOf i).toNat)
    case atStart => exact ⟨0, by omega, rfl, hm9x, hBq9, hB9', hv9, by simpa using hW9⟩
    case round =>
      obtain ⟨j, hj, rfl, hmr, hBqr, hBr, hvr, hWr⟩ := hrel
      by_cases hlt : j < H.length
      · have y1 : (j : Int) < H.length := by omega
        obtain ⟨b, o, rfl, hc⟩ := hvr.at hlt
        have hmem := HIN.out _ (List.getElem_mem hlt)
        have htk := List.take_succ_eq_append_getElem hlt
        have hfl := HFL.out (H.take j)
        have hlj : (H.take j).length ≤ 2 := by simp; omega
        have hEl : (BB ++ (H.take j).flatMap FB).length ≤ 1000 := by rw [List.length_append]; omega
        obtain ⟨E, hE⟩ : ∃ E, E = BB ++ (H.take j).flatMap FB := ⟨_, rfl⟩
        rw [← hE] at hWr hEl
        have hE2 : ∀ x, x = H[j] → BB ++ (H.take (j + 1)).flatMap FB = E ++ FB x := fun x hx => by
          rw [htk, List.flatMap_append, hE, hx]; simp
        have HE2 := Lib.hid hE2
        clear htk hfl hlj hE hE2
        have q0 := (hBqr.ext (Mod.drew [] _)).cell' (i := 0) rfl
        have q1 := (hBqr.ext (Mod.drew [] _)).cell' (i := 1) rfl
        have q2 := (hBqr.ext (Mod.drew [] _)).cell' (i := 2) rfl
        have q3 := (hBqr.ext (Mod.drew [] _)).cell' (i := 3) rfl
        have q4 := (hBqr.ext (Mod.drew [] _)).cell' (i := 4) rfl
        obtain ⟨x, hx⟩ : ∃ x, x = H[j] := ⟨_, rfl⟩
        rw [← hx] at hc hmem
        have hEx := HE2.out x hx
        have HEx := Lib.hid hEx
        clear hx hEx HE2
        rcases hmem with rfl | rfl | rfl
        · have a0 := (hBr.ext (Mod.drew [] _)).cell' (i := 0) rfl
          go_wp2_with fail
          refine wp_region_T [⟨0, true, []⟩, ⟨1, true, []⟩, ⟨2, true, []⟩, ⟨3, true, []⟩, ⟨4, true, []⟩, ⟨5, false, []⟩] (by kernel_rfl) (by kernel_rfl) ?_
          iterate 5 (refine wpT_n rfl rfl (fun K hK => ?_); go_wp2_with fail)
          refine wpT_e0 rfl rfl (fun K hK => ?_)
          go_wp2_with (go_at_call 40; refine (put_id g E kind seat ttl tag id _ (hWr.ext (Mod.drew [] _)) hi hEl).mono ?_; rintro e w10 ⟨rfl, hW10, hm10⟩)
          refine wpT_nil ?_
          go_wp2_with fail
          have hmd : Mod [g] wr w10 := (Mod.drew [g] wr).trans hm10
          go_roundw
          case rel => exact ⟨j + 1, by omega, by go_num, hmr.fresh hmd (by simpa using hgw), hBqr.mod hmd (by simpa using hgq), hBr.mod hmd (by simpa using hpg), hvr.modI hWr hmd, by rw [HEx.out, HFB.out]; simpa using hW10⟩
          case measure => simp [intOf]; omega
        · have a0 := (hBr.ext (Mod.drew [] _)).cell' (i := 3) rfl
          go_wp2_with fail
          refine wp_region_T [⟨0, true, []⟩, ⟨1, true, []⟩, ⟨2, true, []⟩, ⟨3, true, []⟩, ⟨4, true, []⟩, ⟨5, false, []⟩] (by kernel_rfl) (by kernel_rfl) ?_
          iterate 5 (refine wpT_n rfl rfl (fun K hK => ?_); go_wp2_with fail)
          refine wpT_e0 rfl rfl (fun K hK => ?_)
          go_wp2_with (go_at_call 43; refine (put_seat g E kind seat ttl tag id _ (hWr.ext (Mod.drew [] _)) p3 p4 hEl).mono ?_; rintro e w10 ⟨rfl, hW10, hm10⟩)
          refine wpT_nil ?_
          go_wp2_with fail
          have hmd : Mod [g] wr w10 := (Mod.drew [g] wr).trans hm10
          go_roundw
          case rel => exact ⟨j + 1, by omega, by go_num, hmr.fresh hmd (by simpa using hgw), hBqr.mod hmd (by simpa using hgq), hBr.mod hmd (by simpa using hpg), hvr.modI hWr hmd, by rw [HEx.out, HFB.out]; simpa using hW10⟩
          case measure => simp [intOf]; omega
        · have a0 := (hBr.ext (Mod.drew [] _)).cell' (i := 6) rfl
          go_wp2_with fail
          refine wp_region_T [⟨0, true, []⟩, ⟨1, true, []⟩, ⟨2, true, []⟩, ⟨3, true, []⟩, ⟨4, true, []⟩, ⟨5, false, []⟩] (by kernel_rfl) (by kernel_rfl) ?_
          iterate 5 (refine wpT_n rfl rfl (fun K hK => ?_); go_wp2_with fail)
          refine wpT_e0 rfl rfl (fun K hK => ?_)
          go_wp2_with (go_at_call 48; refine (put_ttl g E kind seat ttl tag id _ (hWr.ext (Mod.drew [] _)) p5 l2 hEl).mono ?_; rintro e w10 ⟨rfl, hW10, hm10⟩)
          refine wpT_nil ?_
          go_wp2_with fail
          have hmd : Mod [g] wr w10 := (Mod.drew [g] wr).trans hm10
          go_roundw
          case rel => exact ⟨j + 1, by omega, by go_num, hmr.fresh hmd (by simpa using hgw), hBqr.mod hmd (by simpa using hgq), hBr.mod hmd (by simpa using hpg), hvr.modI hWr hmd, by rw [HEx.out, HFB.out]; simpa using hW10⟩
          case measure => simp [intOf]; omega
      · obtain rfl : j = H.length := by omega
        rw [List.take_length, ← HBQ.out] at hWr
        have hBQl : BQ.length ≤ 140737488355328 := by
          rw [HBQ.out, List.length_append]
          have := HFL.out H
          omega
        go_wp2_with (go_at_call 27; refine (out_any g BQ _ hWr hBQl).mono ?_; rintro e w12 ⟨v12, rfl, ho12, hn12, hm12⟩)
        go_ret2
        exact ⟨_, rfl, ho12, hn12.mono hmr.size, hmr.ext hm12⟩
end Go.Proofs.Ytfcoaiggpcjldaa
