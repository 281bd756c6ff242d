import Derived.Test.YtfcoaiggpcjldaaRqE
set_option linter.unusedVariables false
set_option linter.unusedSimpArgs false
set_option maxRecDepth 100000
namespace Go.Proofs.Ytfcoaiggpcjldaa
open Go.RowKit Gw

def cellsQ (q : Rq) : List Value := [.int .i64 q.kind, .int .u32 q.tag, .int .u32 q.id, .int .i64 q.seat, .int .i64 q.ttl]
theorem cellsQ_u8 (q : Rq) : ∀ c ∈ cellsQ q, ∀ n, c ≠ .int .u8 n := by simp [cellsQ]
/-- what was read so far: the request, what is left, the error -/
structure Ps where
  q : Rq
  l : List UInt8
  e : Int
def stepG (s : Ps) (i : Int) : Ps :=
  if i = 0 then ⟨{ s.q with id := got s.l s.e 4 }, tkRest s.l s.e (4 : Nat), tkErr s.l s.e (4 : Nat)⟩
  else if i = 1 then ⟨{ s.q with seat := got s.l s.e 2 }, tkRest s.l s.e (2 : Nat), tkErr s.l s.e (2 : Nat)⟩
  else ⟨{ s.q with ttl := wrap64 (got s.l s.e 8) }, tkRest s.l s.e (8 : Nat), tkErr s.l s.e (8 : Nat)⟩
def parse0 (b : List UInt8) : Ps :=
  let l1 := tkRest b 0 (1 : Nat); let e1 := tkErr b 0 (1 : Nat)
  ⟨⟨got b 0 1, got l1 e1 4, 0, 0, 0⟩, tkRest l1 e1 (4 : Nat), tkErr l1 e1 (4 : Nat)⟩
def getS (b : List UInt8) : Ps := (has (parse0 b).q.kind).foldl stepG (parse0 b)
def getOk (b : List UInt8) : Bool := okB (parse0 b).q.kind && (endOf (getS b).l (getS b).e == 0) && decide (0 ≤ (getS b).q.ttl)
def GetQ (b : List UInt8) (w : World) (e : Ending) (w' : World) : Prop :=
  e = .returned (.tuple #[if getOk b = true then (getS b).q.v else .agg #[.int .i64 0, .int .u32 0, .int .u32 0, .int .i64 0, .int .i64 0], .int .i64 (if getOk b = true then 0 else 200)]) ∧ Mod [] w w'

theorem Rd.keepB {w w' : World} {r q g : Nat} {l : List UInt8} {e : Int} {x : Rq} (h : Rd w r q l e) (hb : Blk w g 25 (cellsQ x)) (hm : Mod [g] w w') : Rd w' r q l e := by
  obtain ⟨_, hB⟩ := (show ∃ cs, Blk w q 103 cs by obtain ⟨_, v, h2, _⟩ := h; exact ⟨_, h2⟩)
  exact h.mod hb (cellsQ_u8 x) (h.1.ne hb (by decide)) (hB.ne hb (by decide)) hm
set_option maxHeartbeats 2000000 in
theorem get_id (r q g : Nat) (x : Rq) (l : List UInt8) (e : Int) (w : World) (hR : Rd w r q l e) (hB : Blk w g 25 (cellsQ x)) :
    Calls Try.prog 41 #[.pointer (some ⟨r, 0, none⟩), .pointer (some ⟨g, 0, none⟩)] w fun en w' => en = .returned (.tuple #[]) ∧ Rd w' r q (tkRest l e (4 : Nat)) (tkErr l e (4 : Nat)) ∧ Blk w' g 25 (cellsQ { x with id := got l e 4 }) ∧ Mod [q, g] w w' := by
  have hg : (got l e 4 : Int) ≤ 4294967295 := by have := got_lt l e 4; omega
  have hg0 : (0 : Int) ≤ (got l e 4 : Int) := by omega
  have hqg : g ≠ q := by
    obtain ⟨_, hq⟩ := (show ∃ cs, Blk w q 103 cs by obtain ⟨_, v, h2, _⟩ := hR; exact ⟨_, h2⟩)
    exact hB.ne hq (by decide)
  go_enter Try.func41, Try.ntmps41
  go_wp2_with (first | (with_reducible refine st_store ?_) | (go_at_call 34; refine (rfour_any r q l e _ hR).mono ?_; rintro en w1 ⟨rfl, hR1, hm1⟩))
  have hB1 := hB.mod hm1 (by simpa using hqg)
  refine StopOp.go rfl fun K hK => ?_
  refine wp_store1 (by kernel_rfl) (by rfl) (u := (.int .u32 (got l e 4))) (by rfl) ⟨rfl, rfl⟩ hB1 (by simp [cellsQ]) ?_
  intro w2 hm2 hB2
  refine hK _ _ ?_
  clear hK K
  go_wp2_with fail
  go_end0
  exact ⟨rfl, hR1.keepB hB1 hm2, hB2, (hm1.weak (by simp)).trans (hm2.weak (by simp))⟩
set_option maxHeartbeats 2000000 in
theorem get_seat (r q g : Nat) (x : Rq) (l : List UInt8) (e : Int) (w : World) (hR : Rd w r q l e) (hB : Blk w g 25 (cellsQ x)) :
    Calls Try.prog 45 #[.pointer (some ⟨r, 0, none⟩), .pointer (some ⟨g, 0, none⟩)] w fun en w' => en = .returned (.tuple #[]) ∧ Rd w' r q (tkRest l e (2 : Nat)) (tkErr l e (2 : Nat)) ∧ Blk w' g 25 (cellsQ { x with seat := got l e 2 }) ∧ Mod [q, g] w w' := by
  have hg : (got l e 2 : Int) ≤ 65535 := by have := got_lt l e 2; omega
  have hg0 : (0 : Int) ≤ (got l e 2 : Int) := by omega
  have hqg : g ≠ q := by
    obtain ⟨_, hq⟩ := (show ∃ cs, Blk w q 103 cs by obtain ⟨_, v, h2, _⟩ := hR; exact ⟨_, h2⟩)
    exact hB.ne hq (by decide)
  go_enter Try.func45, Try.ntmps45
  go_wp2_with (first | (with_reducible refine st_store ?_) | (go_at_call 46; refine (rtwo_any r q l e _ hR).mono ?_; rintro en w1 ⟨rfl, hR1, hm1⟩))
  have hB1 := hB.mod hm1 (by simpa using hqg)
  refine StopOp.go rfl fun K hK => ?_
  refine wp_store1 (by kernel_rfl) (by rfl) (u := (.int .i64 (got l e 2))) (by rfl) ⟨rfl, rfl⟩ hB1 (by simp [cellsQ]) ?_
  intro w2 hm2 hB2
  refine hK _ _ ?_
  clear hK K
  go_wp2_with fail
  go_end0
  exact ⟨rfl, hR1.keepB hB1 hm2, hB2, (hm1.weak (by simp)).trans (hm2.weak (by simp))⟩
set_option maxHeartbeats 2000000 in
theorem get_ttl (r q g : Nat) (x : Rq) (l : List UInt8) (e : Int) (w : World) (hR : Rd w r q l e) (hB : Blk w g 25 (cellsQ x)) :
    Calls Try.prog 50 #[.pointer (some ⟨r, 0, none⟩), .pointer (some ⟨g, 0, none⟩)] w fun en w' => en = .returned (.tuple #[]) ∧ Rd w' r q (tkRest l e (8 : Nat)) (tkErr l e (8 : Nat)) ∧ Blk w' g 25 (cellsQ { x with ttl := wrap64 (got l e 8) }) ∧ Mod [q, g] w w' := by
  have hg : (got l e 8 : Int) ≤ 18446744073709551615 := by have := got_lt l e 8; omega
  have hg0 : (0 : Int) ≤ (got l e 8 : Int) := by omega
  have hqg : g ≠ q := by
    obtain ⟨_, hq⟩ := (show ∃ cs, Blk w q 103 cs by obtain ⟨_, v, h2, _⟩ := hR; exact ⟨_, h2⟩)
    exact hB.ne hq (by decide)
  go_enter Try.func50, Try.ntmps50
  go_wp2_with (first | (with_reducible refine st_store ?_) | (go_at_call 51; refine (reight_any r q l e _ hR).mono ?_; rintro en w1 ⟨rfl, hR1, hm1⟩))
  have hB1 := hB.mod hm1 (by simpa using hqg)
  refine StopOp.go rfl fun K hK => ?_
  refine wp_store1 (by kernel_rfl) (by rfl) (u := (.int .i64 (wrap64 (got l e 8)))) (by rfl) ⟨rfl, rfl⟩ hB1 (by simp [cellsQ]) ?_
  intro w2 hm2 hB2
  refine hK _ _ ?_
  clear hK K
  go_wp2_with fail
  go_end0
  exact ⟨rfl, hR1.keepB hB1 hm2, hB2, (hm1.weak (by simp)).trans (hm2.weak (by simp))⟩

theorem Is.modG {w w' : World} {v : Value} {l : List Int} {r q g : Nat} {xs : List UInt8} {e : Int} {x : Rq} (h : Is w v l) (hR : Rd w r q xs e) (hB : Blk w g 25 (cellsQ x)) (hm : Mod [q, g] w w') : Is w' v l := by
  obtain ⟨_, hq⟩ := (show ∃ cs, Blk w q 103 cs by obtain ⟨_, v, h2, _⟩ := hR; exact ⟨_, h2⟩)
  refine Ow.mod h hm fun b hb hg => ?_
  have : b = q ∨ b = g := by simpa using hg
  rcases this with rfl | rfl
  · exact Ow.ne h hq (by decide) hb
  · exact Ow.ne h hB (by decide) hb

theorem zero_req : (Try.prog.info? 25).map (·.zero) = some (some (.agg #[.int .i64 0, .int .u32 0, .int .u32 0, .int .i64 0, .int .i64 0])) := by kernel_rfl
theorem getOk_no {b : List UInt8} (h : getOk b = false) (w : World) (e : Ending) (w' : World) (he : e = .returned (.tuple #[.agg #[.int .i64 0, .int .u32 0, .int .u32 0, .int .i64 0, .int .i64 0], .int .i64 200])) (hm : Mod [] w w') : GetQ b w e w' := by
  unfold GetQ
  rw [h]
  exact ⟨he, hm⟩
theorem getOk_yes {b : List UInt8} (h : getOk b = true) (w : World) (e : Ending) (w' : World) (he : e = .returned (.tuple #[(getS b).q.v, .int .i64 0])) (hm : Mod [] w w') : GetQ b w e w' := by
  unfold GetQ
  rw [h]
  exact ⟨he, hm⟩

set_option maxRecDepth 1000000 in
set_option maxHeartbeats 16000000 in
theorem getq_any (b : List UInt8) (bv0 : Value) (w : World) (hb : Bs w bv0 b) (hl : b.length ≤ 140737488355328) : Calls Try.prog 17 #[bv0] w (GetQ b w) := by
  obtain ⟨aob, capb, rfl, hc1, hc2⟩ := hb.form
  obtain ⟨s0, hs0⟩ : ∃ s, s = parse0 b := ⟨_, rfl⟩
  have HS0 := Lib.hid hs0
  have e1 : s0.q.kind = got b 0 1 := by rw [hs0]; rfl
  have e2 : s0.q.tag = got (tkRest b 0 (1 : Nat)) (tkErr b 0 (1 : Nat)) 4 := by rw [hs0]; rfl
  have e3 : s0.q.id = 0 ∧ s0.q.seat = 0 ∧ s0.q.ttl = 0 := by rw [hs0]; exact ⟨rfl, rfl, rfl⟩
  have e4 : s0.l = tkRest (tkRest b 0 (1 : Nat)) (tkErr b 0 (1 : Nat)) (4 : Nat) ∧ s0.e = tkErr (tkRest b 0 (1 : Nat)) (tkErr b 0 (1 : Nat)) (4 : Nat) := by rw [hs0]; exact ⟨rfl, rfl⟩
  have HE := Lib.hid (And.intro e1 (And.intro e2 (And.intro e3 e4)))
  clear hs0 e1 e2 e3 e4
  have hg1 : (got b 0 1 : Int) ≤ 255 := by have := got_lt b 0 1; omega
  have hg10 : (0 : Int) ≤ (got b 0 1 : Int) := by omega
  obtain ⟨k, hk⟩ : ∃ k, k = got b 0 1 := ⟨_, rfl⟩
  obtain ⟨H, hH⟩ : ∃ H, H = has (k : Int) := ⟨_, rfl⟩
  obtain ⟨ok, hok⟩ : ∃ c, c = okB (k : Int) := ⟨_, rfl⟩
  have hh2 := has_le k
  have hin := has_in k
  have O := fun w => of_kind k w
  unfold OfPost at O
  rw [← hH, ← hok] at O
  rw [← hH] at hh2 hin
  have HIN := Lib.hid hin
  have HH := Lib.hid hH
  have HOK := Lib.hid hok
  have R1 := fun w r q h => rbyte_any r q b 0 w h
  rw [← hk] at R1 hg1 hg10
  have HK := Lib.hid hk
  clear hH hok hk hin
  go_enter Try.func17, Try.ntmps17
  go_wp2_with (with_reducible refine st_alloc ?_)
  refine StopOp.go rfl fun K hK => ?_
  refine wp_alloc zero_req ?_
  intro g2 w1 hga hgb hm1 hB1
  simp only [put_some, List.set_cons_succ, List.set_cons_zero]
  refine hK _ _ ?_
  clear hK K
  go_wp2_with (first
                | (with_reducible refine st_alloc ?_)
                | (go_at_call 32; refine (of_any b _ _ (hb.ext hm1) hl).mono ?_; rintro e w2 ⟨r, q, rfl, hr, hq, hqr, hR2, hm2⟩)
                | (go_at_call 33; refine (R1 _ r q hR2).mono ?_; rintro e w3 ⟨rfl, hR3, hm3⟩)
                | (go_at_call 34; refine (rfour_any r q _ _ _ hR3).mono ?_; rintro e w4 ⟨rfl, hR4, hm4⟩))
  have hqw : w.heap.size ≤ q := Nat.le_trans hm1.size hq
  have hm4x : Mod [] w w4 := ((hm1.ext hm2).fresh hm3 (by simpa using hqw)).fresh hm4 (by simpa using hqw)
  have hBt4 : Blk w4 g2 25 [.int .i64 0, .int .u32 0, .int .u32 0, .int .i64 0, .int .i64 0] := ((hB1.ext hm2).mod hm3 (by simp; omega)).mod hm4 (by simp; omega)
  have hR4' : Rd w4 r q s0.l s0.e := by rw [HE.out.2.2.2.1, HE.out.2.2.2.2]; exact hR4
  refine StopOp.go rfl fun K hK => ?_
  refine wp_alloc zero_req ?_
  intro g w5 hg5 hg6 hm5 hB5
  simp only [put_some, List.set_cons_succ, List.set_cons_zero]
  refine hK _ _ ?_
  clear hK K
  go_wp2_with (with_reducible refine st_store ?_)
  refine StopOp.go rfl fun K hK => ?_
  refine wp_store (u := .agg #[.int .i64 (k : Nat), .int .u32 (got (tkRest b 0 (1 : Nat)) (tkErr b 0 (1 : Nat)) 4 : Nat), .int .u32 0, .int .i64 0, .int .i64 0]) (by rfl) (by rfl) (by kernel_rfl) hB5 (by simp [Value.cells]) (by simp [Value.cells, Value.oneCell']) ?_
  intro w6 hm6 hB6
  refine hK _ _ ?_
  clear hK K
  have hB6' : Blk w6 g 25 (cellsQ s0.q) := by
    unfold cellsQ
    rw [HE.out.1, HE.out.2.1, HE.out.2.2.1.1, HE.out.2.2.1.2.1, HE.out.2.2.1.2.2, ← HK.out]
    exact hB6
  have d0 : w6.cell? ⟨g, 0, none⟩ = some (.int .i64 (k : Nat)) := hB6.cell' (i := 0) rfl
  have hm46 : Mod [] w4 w6 := hm5.fresh hm6 (by simpa using hg5)
  have hR6 := hR4'.ext hm46
  have hBt6 := hBt4.ext hm46
  have hm6x := hm4x.ext hm46
  have hgw : w.heap.size ≤ g := Nat.le_trans hm4x.size hg5
  have hg2w : w.heap.size ≤ g2 := hga
  have hgt : g2 ≠ g := by have := hBt4.lt; omega
  clear hB6 hB5 hm5 hm6 hm46 hR4 hR4' hR3 hR2 hm4 hm3 hm2 hm1 hB1 hBt4 hm4x R1
  go_wp2_with (first
                | (with_reducible refine st_alloc ?_)
                | (go_at_call 25; (with_reducible refine (O _).mono ?_); rintro e w7 ⟨v, rfl, hv, hm7⟩; obtain ⟨aov, capv, rfl, _, _⟩ := hv.form)
                | (go_at_call 26; refine (fields_any _).mono ?_; rintro e w8 ⟨rfl, hm8⟩))
  refine StopOp.go rfl fun K hK => ?_
  refine wp_alloc zero_fields ?_
  intro p w9 hp1 hp2 hm9 hB9
  simp only [put_some, List.set_cons_succ, List.set_cons_zero]
  refine hK _ _ ?_
  clear hK K
  go_wp2_with (with_reducible refine st_store ?_)
  refine StopOp.go rfl fun K hK => ?_
  refine wp_store (u := .agg #[.func (.func 40) #[] #[], .func (.func 41) #[] #[], .func (.func 42) #[] #[], .func (.func 43) #[] #[], .func (.func 45) #[] #[], .func (.func 47) #[] #[], .func (.func 48) #[] #[], .func (.func 50) #[] #[], .func (.func 52) #[] #[]]) (by rfl) (by rfl) (by kernel_rfl) hB9 (by simp [Value.cells]) (by simp [Value.cells, Value.oneCell']) ?_
  intro w10 hm10 hB10
  refine hK _ _ ?_
  clear hK K
  have hB10' : Blk w10 p 54 [.func (.func 40) #[] #[], .func (.func 41) #[] #[], .func (.func 42) #[] #[], .func (.func 43) #[] #[], .func (.func 45) #[] #[], .func (.func 47) #[] #[], .func (.func 48) #[] #[], .func (.func 50) #[] #[], .func (.func 52) #[] #[]] := hB10
  have hm710 : Mod [] w7 w10 := (hm8.ext hm9).fresh hm10 (by have := hm8.size; simp; omega)
  have hm610 : Mod [] w6 w10 := hm7.ext hm710
  have hv10 := hv.ext hm710
  have hR10 := hR6.ext hm610
  have hBq10 := hB6'.ext hm610
  have hBt10 := hBt6.ext hm610
  have hm10x := hm6x.ext hm610
  clear hB10 hB9 hm9 hm10 hm8 hm7 hm710 hm610 hv hR6 hB6' hBt6 hm6x d0 O
  go_wp2_with fail
  go_loopw [28] (fun i wr => ∃ (j : Nat) (s : Ps), j ≤ H.length ∧ i = .int .i64 j ∧ RowKit.Hid (s = (H.take j).foldl stepG s0) ∧ Mod [] w wr ∧ Rd wr r q s.l s.e ∧ Blk wr g 25 (cellsQ s.q) ∧ Blk wr p 54 [.func (.func 40) #[] #[], .func (.func 41) #[] #[], .func (.func 42) #[] #[], .func (.func 43) #[] #[], .func (.func 45) #[] #[], .func (.func 47) #[] #[], .func (.func 48) #[] #[], .func (.func 50) #[] #[], .func (.func 52) #[] #[]] ∧ Is wr (.slice aov H.length capv) H ∧ Blk wr g2 25 [.int .i64 0, .int .u32 0, .int .u32 0, .int .i64 0, .int .i64 0]) (fun i _ => H.length - (intOf i).toNat)
  case atStart => exact ⟨0, s0, by omega, rfl, Lib.hid rfl, hm10x, hR10, hBq10, hB10', hv10, hBt10⟩
  case round =>
    obtain ⟨j, s, hj, rfl, hs, hmr, hRr, hBqr, hBr, hvr, hBtr⟩ := hrel
    by_cases hlt : j < H.length
    · have y1 : (j : Int) < H.length := by omega
      obtain ⟨bb, oo, rfl, hc⟩ := hvr.at hlt
      have hmem := HIN.out _ (List.getElem_mem hlt)
      have htk := List.take_succ_eq_append_getElem hlt
      obtain ⟨x, hx⟩ : ∃ x, x = H[j] := ⟨_, rfl⟩
      have hst : (H.take (j + 1)).foldl stepG s0 = stepG s x := by rw [htk, List.foldl_append, hs.out, hx]; rfl
      have HST := Lib.hid hst.symm
      rw [← hx] at hc hmem
      clear htk hx hst
      have hpq : p ≠ q := by
        obtain ⟨_, hq⟩ := (show ∃ cs, Blk wr q 103 cs by obtain ⟨_, v, h2, _⟩ := hRr; exact ⟨_, h2⟩)
        exact hBr.ne hq (by decide)
      have hpg : p ≠ g := hBr.ne hBqr (by decide)
      have htq : g2 ≠ q := by
        obtain ⟨_, hq⟩ := (show ∃ cs, Blk wr q 103 cs by obtain ⟨_, v, h2, _⟩ := hRr; exact ⟨_, h2⟩)
        exact hBtr.ne hq (by decide)
      rcases hmem with rfl | rfl | rfl
      · have a0 := hBr.cell' (i := 1) rfl
        go_wp2_with (go_at_call 41; refine (get_id r q g s.q s.l s.e _ hRr hBqr).mono ?_; rintro e w11 ⟨rfl, hR11, hB11, hm11⟩)
        go_roundw
        case rel =>
          have hvk : Is w11 (.slice (some ⟨bb, oo, none⟩) H.length capv) H := hvr.modG hRr hBqr hm11
          exact ⟨j + 1, stepG s 0, by omega, by go_num, HST, hmr.fresh hm11 (by simpa using ⟨hqw, hgw⟩), hR11, hB11, hBr.mod hm11 (by simpa using ⟨hpq, hpg⟩), hvk, hBtr.mod hm11 (by simpa using ⟨htq, hgt⟩)⟩
        case measure => simp [intOf]; omega
      · have a0 := hBr.cell' (i := 4) rfl
        go_wp2_with (go_at_call 45; refine (get_seat r q g s.q s.l s.e _ hRr hBqr).mono ?_; rintro e w11 ⟨rfl, hR11, hB11, hm11⟩)
        go_roundw
        case rel =>
          have hvk : Is w11 (.slice (some ⟨bb, oo, none⟩) H.length capv) H := hvr.modG hRr hBqr hm11
          exact ⟨j + 1, stepG s 1, by omega, by go_num, HST, hmr.fresh hm11 (by simpa using ⟨hqw, hgw⟩), hR11, hB11, hBr.mod hm11 (by simpa using ⟨hpq, hpg⟩), hvk, hBtr.mod hm11 (by simpa using ⟨htq, hgt⟩)⟩
        case measure => simp [intOf]; omega
      · have a0 := hBr.cell' (i := 7) rfl
        go_wp2_with (go_at_call 50; refine (get_ttl r q g s.q s.l s.e _ hRr hBqr).mono ?_; rintro e w11 ⟨rfl, hR11, hB11, hm11⟩)
        go_roundw
        case rel =>
          have hvk : Is w11 (.slice (some ⟨bb, oo, none⟩) H.length capv) H := hvr.modG hRr hBqr hm11
          exact ⟨j + 1, stepG s 2, by omega, by go_num, HST, hmr.fresh hm11 (by simpa using ⟨hqw, hgw⟩), hR11, hB11, hBr.mod hm11 (by simpa using ⟨hpq, hpg⟩), hvk, hBtr.mod hm11 (by simpa using ⟨htq, hgt⟩)⟩
        case measure => simp [intOf]; omega
    · obtain rfl : j = H.length := by omega
      rw [List.take_length] at hs
      have hS : s = getS b := by unfold getS; rw [hs.out, ← HS0.out, HH.out, HE.out.1, HK.out]
      have HS := Lib.hid hS
      have hbad : ok = false ∨ endOf s.l s.e ≠ 0 ∨ s.q.ttl < 0 → getOk b = false := by
        intro h
        unfold getOk
        rw [← hS, ← HS0.out, HE.out.1, ← HK.out, ← HOK.out]
        rcases h with h | h | h
        · rw [h]; rfl
        · have : (endOf s.l s.e == 0) = false := by simpa using h
          rw [this]; simp
        · rw [decide_eq_false (show ¬ 0 ≤ s.q.ttl by omega)]; simp
      have hgood : ok = true → endOf s.l s.e = 0 → 0 ≤ s.q.ttl → getOk b = true := by
        intro h1 h2 h3
        unfold getOk
        rw [← hS, ← HS0.out, HE.out.1, ← HK.out, ← HOK.out, h1, h2, decide_eq_true h3]
        rfl
      have HBAD := Lib.hid hbad
      have HGOOD := Lib.hid hgood
      clear hS hbad hgood
      have a0 := hBqr.cell' (i := 0) rfl
      have a1 := hBqr.cell' (i := 1) rfl
      have a2 := hBqr.cell' (i := 2) rfl
      have a3 := hBqr.cell' (i := 3) rfl
      have a4 := hBqr.cell' (i := 4) rfl
      obtain ⟨E, hE⟩ : ∃ E, endOf s.l s.e = E := ⟨_, rfl⟩
      have END := fun w h => end_any r q s.l s.e w h
      rw [hE] at END
      have HEN := Lib.hid hE
      clear hE
      cases ok with
      | false =>
        go_wp2_with (first | (with_reducible refine st_store ?_))
        refine StopOp.go rfl fun K hK => ?_
        refine wp_store (u := .agg #[.int .i64 0, .int .u32 0, .int .u32 0, .int .i64 0, .int .i64 0]) (by rfl) (by rfl) (by kernel_rfl) hBtr (by simp [Value.cells]) (by simp [Value.cells, Value.oneCell']) ?_
        intro w12 hm12 hB12
        refine hK _ _ ?_
        clear hK K
        have z0 := hB12.cell' (i := 0) rfl
        have z1 := hB12.cell' (i := 1) rfl
        have z2 := hB12.cell' (i := 2) rfl
        have z3 := hB12.cell' (i := 3) rfl
        have z4 := hB12.cell' (i := 4) rfl
        go_wp2_with fail
        exact bodyPost_ret (v := .tuple #[.agg #[.int .i64 0, .int .u32 0, .int .u32 0, .int .i64 0, .int .i64 0], .int .i64 200]) (by simp [results, Try.results17, go_sem, z0, z1, z2, z3, z4]) rfl (getOk_no (HBAD.out (.inl (by simp))) _ _ _ rfl (hmr.fresh hm12 (by simpa using hg2w)))
      | true =>
        by_cases hE0 : E = 0
        · subst hE0
          by_cases ht : s.q.ttl < 0
          · have et : decide (s.q.ttl < 0) = true := decide_eq_true ht
            go_wp2_with (first | (with_reducible refine st_store ?_) | (go_at_call 35; (with_reducible refine (END _ hRr).mono ?_); rintro e w11 ⟨rfl, rfl⟩))
            refine StopOp.go rfl fun K hK => ?_
            refine wp_store (u := .agg #[.int .i64 0, .int .u32 0, .int .u32 0, .int .i64 0, .int .i64 0]) (by rfl) (by rfl) (by kernel_rfl) hBtr (by simp [Value.cells]) (by simp [Value.cells, Value.oneCell']) ?_
            intro w12 hm12 hB12
            refine hK _ _ ?_
            clear hK K
            have z0 := hB12.cell' (i := 0) rfl
            have z1 := hB12.cell' (i := 1) rfl
            have z2 := hB12.cell' (i := 2) rfl
            have z3 := hB12.cell' (i := 3) rfl
            have z4 := hB12.cell' (i := 4) rfl
            go_wp2_with fail
            exact bodyPost_ret (v := .tuple #[.agg #[.int .i64 0, .int .u32 0, .int .u32 0, .int .i64 0, .int .i64 0], .int .i64 200]) (by simp [results, Try.results17, go_sem, z0, z1, z2, z3, z4]) rfl (getOk_no (HBAD.out (.inr (.inr ht))) _ _ _ rfl (hmr.fresh hm12 (by simpa using hg2w)))
          · have et : decide (s.q.ttl < 0) = false := decide_eq_false ht
            go_wp2_with (first | (with_reducible refine st_store ?_) | (go_at_call 35; (with_reducible refine (END _ hRr).mono ?_); rintro e w11 ⟨rfl, rfl⟩))
            refine StopOp.go rfl fun K hK => ?_
            refine wp_store (u := .agg #[.int .i64 s.q.kind, .int .u32 s.q.tag, .int .u32 s.q.id, .int .i64 s.q.seat, .int .i64 s.q.ttl]) (by rfl) (by rfl) (by kernel_rfl) hBtr (by simp [Value.cells]) (by simp [Value.cells, Value.oneCell']) ?_
            intro w12 hm12 hB12
            refine hK _ _ ?_
            clear hK K
            have z0 := hB12.cell' (i := 0) rfl
            have z1 := hB12.cell' (i := 1) rfl
            have z2 := hB12.cell' (i := 2) rfl
            have z3 := hB12.cell' (i := 3) rfl
            have z4 := hB12.cell' (i := 4) rfl
            go_wp2_with fail
            exact bodyPost_ret (v := .tuple #[.agg #[.int .i64 s.q.kind, .int .u32 s.q.tag, .int .u32 s.q.id, .int .i64 s.q.seat, .int .i64 s.q.ttl], .int .i64 0]) (by simp [results, Try.results17, go_sem, z0, z1, z2, z3, z4]) rfl (getOk_yes (HGOOD.out (by simp) HEN.out (by omega)) _ _ _ (by rw [← HS.out]; rfl) (hmr.fresh hm12 (by simpa using hg2w)))
        · have en : (E != 0) = true := by simpa using hE0
          go_wp2_with (first | (with_reducible refine st_store ?_) | (go_at_call 35; (with_reducible refine (END _ hRr).mono ?_); rintro e w11 ⟨rfl, rfl⟩))
          refine StopOp.go rfl fun K hK => ?_
          refine wp_store (u := .agg #[.int .i64 0, .int .u32 0, .int .u32 0, .int .i64 0, .int .i64 0]) (by rfl) (by rfl) (by kernel_rfl) hBtr (by simp [Value.cells]) (by simp [Value.cells, Value.oneCell']) ?_
          intro w12 hm12 hB12
          refine hK _ _ ?_
          clear hK K
          have z0 := hB12.cell' (i := 0) rfl
          have z1 := hB12.cell' (i := 1) rfl
          have z2 := hB12.cell' (i := 2) rfl
          have z3 := hB12.cell' (i := 3) rfl
          have z4 := hB12.cell' (i := 4) rfl
          go_wp2_with fail
          exact bodyPost_ret (v := .tuple #[.agg #[.int .i64 0, .int .u32 0, .int .u32 0, .int .i64 0, .int .i64 0], .int .i64 200]) (by simp [results, Try.results17, go_sem, z0, z1, z2, z3, z4]) rfl (getOk_no (HBAD.out (.inr (.inl (by rw [HEN.out]; exact hE0)))) _ _ _ rfl (hmr.fresh hm12 (by simpa using hg2w)))
end Go.Proofs.Ytfcoaiggpcjldaa
