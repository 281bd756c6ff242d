import Derived.Test.YtfcoaiggpcjldaaRdB
import Derived.Test.YtfcoaiggpcjldaaOctG
/-! Requests: which fields a kind has. -/
set_option linter.unusedVariables false
set_option linter.unusedSimpArgs false
set_option maxRecDepth 100000
namespace Go.Proofs.Ytfcoaiggpcjldaa
open Go.RowKit Gw

theorem stI : ST Try.prog 47 3 (.int .i64 0) 1 8 := ⟨Try.underlying47, by kernel_rfl, rfl, by decide⟩
def iv (l : List Int) : List Value := l.map fun n => .int .i64 n
/-- a slice of ints -/
def Is (w : World) (v : Value) (l : List Int) : Prop := Ow w 3 1 v l.length (iv l)
theorem Is.ext {w w' : World} {v : Value} {l : List Int} (h : Is w v l) (hm : Mod [] w w') : Is w' v l := Ow.ext h hm
theorem Is.form {w : World} {v : Value} {l : List Int} (h : Is w v l) : ∃ ao cap, v = .slice ao l.length cap ∧ l.length ≤ cap ∧ cap ≤ 9223372036854775807 := Sl.form (Ow.sl h)
theorem Is.at {w : World} {ao : Option Addr} {n cap : Nat} {l : List Int} (h : Is w (.slice ao n cap) l) {j : Nat} (hj : j < l.length) :
    ∃ b o, ao = some ⟨b, o, none⟩ ∧ w.cell? ⟨b, o + j, none⟩ = some (.int .i64 l[j]) := by
  obtain ⟨b, o, c, hv, _, _, hc⟩ := Sl.at (Ow.sl h) (fun h0 => by have := congrArg List.length h0; simp [iv] at this; rw [this] at hj; simp at hj)
  injection hv with e1
  exact ⟨b, o, e1, hc j _ (by simp [iv, hj])⟩

/-- the fields of a kind: 0 Id, 1 Seat, 2 Ttl -/
def has (k : Int) : List Int := if k = 1 then [1, 2] else if k = 2 ∨ k = 3 ∨ k = 5 then [0] else if k = 4 then [0, 1] else if k = 6 then [1] else if k = 7 then [2] else []
def okB (k : Int) : Bool := decide (1 ≤ k ∧ k ≤ 10)

def OfPost (k : Int) (w : World) (e : Ending) (w' : World) : Prop := ∃ v, e = .returned (.tuple #[v, .bool (okB k)]) ∧ Is w' v (has k) ∧ Mod [] w w'
theorem is_new {w : World} {g : Nat} {l : List Int} {n : Nat} (h : Blk w g 3 (iv l)) (hn : l.length = n) (hs : n ≤ 100) : Is w (.slice (some ⟨g, 0, none⟩) n n) l := by
  subst hn
  exact Ow.of_blk (rest := []) (by simpa using h) (Nat.le_refl _) (by omega) (by simp [iv]) (by simp [iv])

set_option maxHeartbeats 8000000 in
theorem of_kind (k : Int) (w : World) : Calls Try.prog 25 #[.int .i64 k] w (OfPost k w) := by
  by_cases h1 : k = 1
  · subst h1
    go_enter Try.func25, Try.ntmps25
    go_wp2_with (with_reducible refine st_bslice ?_)
    refine StopOp.go rfl fun K hK => ?_
    refine wp_bslice stI (iv [1, 2]) rfl (by decide) (by rfl) (by simp [iv, Value.cells]) ?_
    intro g w1 hg1 hg2 hm1 hB1
    simp only [put_some, List.set_cons_succ, List.set_cons_zero]
    refine hK _ _ ?_
    clear hK K
    go_wp2_with fail
    go_ret2
    exact ⟨_, rfl, is_new (l := [1, 2]) hB1 rfl (by omega), hm1⟩
  by_cases h2 : k = 2
  · subst h2
    go_enter Try.func25, Try.ntmps25
    go_wp2_with (with_reducible refine st_bslice ?_)
    refine StopOp.go rfl fun K hK => ?_
    refine wp_bslice stI (iv [0]) rfl (by decide) (by rfl) (by simp [iv, Value.cells]) ?_
    intro g w1 hg1 hg2 hm1 hB1
    simp only [put_some, List.set_cons_succ, List.set_cons_zero]
    refine hK _ _ ?_
    clear hK K
    go_wp2_with fail
    go_ret2
    exact ⟨_, rfl, is_new (l := [0]) hB1 rfl (by omega), hm1⟩
  by_cases h3 : k = 3
  · subst h3
    go_enter Try.func25, Try.ntmps25
    go_wp2_with (with_reducible refine st_bslice ?_)
    refine StopOp.go rfl fun K hK => ?_
    refine wp_bslice stI (iv [0]) rfl (by decide) (by rfl) (by simp [iv, Value.cells]) ?_
    intro g w1 hg1 hg2 hm1 hB1
    simp only [put_some, List.set_cons_succ, List.set_cons_zero]
    refine hK _ _ ?_
    clear hK K
    go_wp2_with fail
    go_ret2
    exact ⟨_, rfl, is_new (l := [0]) hB1 rfl (by omega), hm1⟩
  by_cases h4 : k = 4
  · subst h4
    go_enter Try.func25, Try.ntmps25
    go_wp2_with (with_reducible refine st_bslice ?_)
    refine StopOp.go rfl fun K hK => ?_
    refine wp_bslice stI (iv [0, 1]) rfl (by decide) (by rfl) (by simp [iv, Value.cells]) ?_
    intro g w1 hg1 hg2 hm1 hB1
    simp only [put_some, List.set_cons_succ, List.set_cons_zero]
    refine hK _ _ ?_
    clear hK K
    go_wp2_with fail
    go_ret2
    exact ⟨_, rfl, is_new (l := [0, 1]) hB1 rfl (by omega), hm1⟩
  by_cases h5 : k = 5
  · subst h5
    go_enter Try.func25, Try.ntmps25
    go_wp2_with (with_reducible refine st_bslice ?_)
    refine StopOp.go rfl fun K hK => ?_
    refine wp_bslice stI (iv [0]) rfl (by decide) (by rfl) (by simp [iv, Value.cells]) ?_
    intro g w1 hg1 hg2 hm1 hB1
    simp only [put_some, List.set_cons_succ, List.set_cons_zero]
    refine hK _ _ ?_
    clear hK K
    go_wp2_with fail
    go_ret2
    exact ⟨_, rfl, is_new (l := [0]) hB1 rfl (by omega), hm1⟩
  by_cases h6 : k = 6
  · subst h6
    go_enter Try.func25, Try.ntmps25
    go_wp2_with (with_reducible refine st_bslice ?_)
    refine StopOp.go rfl fun K hK => ?_
    refine wp_bslice stI (iv [1]) rfl (by decide) (by rfl) (by simp [iv, Value.cells]) ?_
    intro g w1 hg1 hg2 hm1 hB1
    simp only [put_some, List.set_cons_succ, List.set_cons_zero]
    refine hK _ _ ?_
    clear hK K
    go_wp2_with fail
    go_ret2
    exact ⟨_, rfl, is_new (l := [1]) hB1 rfl (by omega), hm1⟩
  by_cases h7 : k = 7
  · subst h7
    go_enter Try.func25, Try.ntmps25
    go_wp2_with (with_reducible refine st_bslice ?_)
    refine StopOp.go rfl fun K hK => ?_
    refine wp_bslice stI (iv [2]) rfl (by decide) (by rfl) (by simp [iv, Value.cells]) ?_
    intro g w1 hg1 hg2 hm1 hB1
    simp only [put_some, List.set_cons_succ, List.set_cons_zero]
    refine hK _ _ ?_
    clear hK K
    go_wp2_with fail
    go_ret2
    exact ⟨_, rfl, is_new (l := [2]) hB1 rfl (by omega), hm1⟩
  by_cases h8 : k = 8
  · subst h8
    go_enter Try.func25, Try.ntmps25
    go_wp2_with fail
    go_ret2
    exact ⟨_, rfl, Ow.nil w _ 1, Mod.refl _ _⟩
  by_cases h9 : k = 9
  · subst h9
    go_enter Try.func25, Try.ntmps25
    go_wp2_with fail
    go_ret2
    exact ⟨_, rfl, Ow.nil w _ 1, Mod.refl _ _⟩
  by_cases h10 : k = 10
  · subst h10
    go_enter Try.func25, Try.ntmps25
    go_wp2_with fail
    go_ret2
    exact ⟨_, rfl, Ow.nil w _ 1, Mod.refl _ _⟩
  have f1 : (k == 1) = false := by simpa using h1
  have f2 : (k == 2) = false := by simpa using h2
  have f3 : (k == 3) = false := by simpa using h3
  have f4 : (k == 4) = false := by simpa using h4
  have f5 : (k == 5) = false := by simpa using h5
  have f6 : (k == 6) = false := by simpa using h6
  have f7 : (k == 7) = false := by simpa using h7
  have f8 : (k == 8) = false := by simpa using h8
  have f9 : (k == 9) = false := by simpa using h9
  have f10 : (k == 10) = false := by simpa using h10
  have hh : has k = [] := by unfold has; simp [h1, h2, h3, h4, h5, h6, h7]
  have ho : okB k = false := by unfold okB; exact decide_eq_false (by omega)
  unfold OfPost
  rw [hh, ho]
  clear hh ho
  go_enter Try.func25, Try.ntmps25
  go_wp2_with fail
  go_ret2
  exact ⟨_, rfl, Ow.nil w _ 1, Mod.refl _ _⟩

/-- where a number stands in a list, or less than 0 -/
def IdxPost (x : Int) (l : List Int) (w : World) (e : Ending) (w' : World) : Prop := ∃ i : Int, e = .returned (.int .i64 i) ∧ (0 ≤ i ↔ x ∈ l) ∧ w = w'
set_option maxHeartbeats 2000000 in
theorem index_any (x : Int) (l : List Int) (v : Value) (w : World) (hv : Is w v l) : Calls Try.prog 54 #[v, .int .i64 x] w (IdxPost x l w) := by
  obtain ⟨ao, cap, rfl, hc1, hc2⟩ := hv.form
  go_enter Try.func54, Try.ntmps54
  go_wp2_with fail
  go_loop [8] (fun i => ∃ j : Nat, j ≤ l.length ∧ i = .int .i64 j ∧ x ∉ l.take j) (fun i => l.length - (intOf i).toNat)
  case atStart => exact ⟨0, by omega, rfl, by simp⟩
  case round =>
    obtain ⟨j, hj, rfl, hx⟩ := hrel
    have HX := Lib.hid hx
    clear hx
    by_cases hlt : j < l.length
    · obtain ⟨b, o, rfl, hc⟩ := hv.at hlt
      have htk := List.take_succ_eq_append_getElem hlt
      by_cases he : x = l[j]
      · have hm : x ∈ l := he ▸ List.getElem_mem hlt
        have HM := Lib.hid hm
        have hb : (x == l[j]) = true := by simpa using he
        clear he hm htk
        go_wp2_with fail
        go_ret
        exact ⟨j, rfl, ⟨fun _ => HM.out, fun _ => by omega⟩, rfl⟩
      · have hb : (x == l[j]) = false := by simpa using he
        have HT := Lib.hid htk
        have HE := Lib.hid he
        clear he htk
        go_wp2_with fail
        go_round
        case rel => exact ⟨j + 1, by omega, by go_num, by rw [HT.out]; simp only [List.mem_append, List.mem_singleton]; exact fun h => h.elim HX.out HE.out⟩
        case measure => simp [intOf]; omega
    · obtain rfl : j = l.length := by omega
      go_wp2_with fail
      go_ret
      exact ⟨-1, rfl, ⟨fun h => by omega, fun h => absurd (by rwa [List.take_of_length_le (Nat.le_refl _)]) HX.out⟩, rfl⟩
set_option maxHeartbeats 2000000 in
theorem contains_any (x : Int) (l : List Int) (v : Value) (w : World) (hv : Is w v l) : Calls Try.prog 30 #[v, .int .i64 x] w fun e w' => e = .returned (.bool (decide (x ∈ l))) ∧ w = w' := by
  obtain ⟨ao, cap, rfl, hc1, hc2⟩ := hv.form
  go_enter Try.func30, Try.ntmps30
  go_wp2_with (go_at_call 54; refine (index_any x l _ _ hv).mono ?_; rintro e w1 ⟨i, rfl, hi, rfl⟩; have HI := Lib.hid hi; clear hi)
  go_ret
  refine ⟨ret_bool ?_, rfl⟩
  by_cases h : 0 ≤ i
  · rw [decide_eq_true h, decide_eq_true (HI.out.1 h)]
  · rw [decide_eq_false h, decide_eq_false fun h2 => h (HI.out.2 h2)]

/-- a request -/
structure Rq where
  kind : Int
  tag : Nat
  id : Nat
  seat : Int
  ttl : Int
def Rq.v (q : Rq) : Value := .agg #[.int .i64 q.kind, .int .u32 q.tag, .int .u32 q.id, .int .i64 q.seat, .int .i64 q.ttl]
structure Rq.ok (q : Rq) : Prop where
  k1 : -9223372036854775808 ≤ q.kind
  k2 : q.kind ≤ 9223372036854775807
  t : q.tag < 4294967296
  i : q.id < 4294967296
  s1 : -9223372036854775808 ≤ q.seat
  s2 : q.seat ≤ 9223372036854775807
  l1 : -9223372036854775808 ≤ q.ttl
  l2 : q.ttl ≤ 9223372036854775807

set_option maxHeartbeats 1000000 in
theorem zero_id (kind seat ttl : Int) (tag id : Nat) (w : World) : Calls Try.prog 42 #[.agg #[.int .i64 kind, .int .u32 tag, .int .u32 id, .int .i64 seat, .int .i64 ttl]] w fun e w' => e = .returned (.bool ((id : Int) == 0)) ∧ Mod [] w w' := by
  go_enter Try.func42, Try.ntmps42
  go_wp2_with fail
  go_ret
  exact ⟨rfl, Mod.alloc [] _ _⟩
set_option maxHeartbeats 1000000 in
theorem zero_seat (kind seat ttl : Int) (tag id : Nat) (w : World) : Calls Try.prog 47 #[.agg #[.int .i64 kind, .int .u32 tag, .int .u32 id, .int .i64 seat, .int .i64 ttl]] w fun e w' => e = .returned (.bool (seat == 0)) ∧ Mod [] w w' := by
  go_enter Try.func47, Try.ntmps47
  go_wp2_with fail
  go_ret
  exact ⟨rfl, Mod.alloc [] _ _⟩
set_option maxHeartbeats 1000000 in
theorem zero_ttl (kind seat ttl : Int) (tag id : Nat) (w : World) : Calls Try.prog 52 #[.agg #[.int .i64 kind, .int .u32 tag, .int .u32 id, .int .i64 seat, .int .i64 ttl]] w fun e w' => e = .returned (.bool (ttl == 0)) ∧ Mod [] w w' := by
  go_enter Try.func52, Try.ntmps52
  go_wp2_with fail
  go_ret
  exact ⟨rfl, Mod.alloc [] _ _⟩
theorem zero_fields : (Try.prog.info? 54).map (·.zero) = some (some (.agg #[.nilFunc, .nilFunc, .nilFunc, .nilFunc, .nilFunc, .nilFunc, .nilFunc, .nilFunc, .nilFunc])) := by kernel_rfl
def fieldsV : Value := .agg #[.func (.func 40) #[] #[], .func (.func 41) #[] #[], .func (.func 42) #[] #[], .func (.func 43) #[] #[], .func (.func 45) #[] #[], .func (.func 47) #[] #[], .func (.func 48) #[] #[], .func (.func 50) #[] #[], .func (.func 52) #[] #[]]
set_option maxHeartbeats 2000000 in
theorem fields_any (w : World) : Calls Try.prog 26 #[] w fun e w' => e = .returned (.agg #[.func (.func 40) #[] #[], .func (.func 41) #[] #[], .func (.func 42) #[] #[], .func (.func 43) #[] #[], .func (.func 45) #[] #[], .func (.func 47) #[] #[], .func (.func 48) #[] #[], .func (.func 50) #[] #[], .func (.func 52) #[] #[]]) ∧ Mod [] w w' := by
  go_enter Try.func26, Try.ntmps26
  go_wp2_with (with_reducible refine st_alloc ?_)
  refine StopOp.go rfl fun K hK => ?_
  refine wp_alloc zero_fields ?_
  intro g w1 hg1 hg2 hm1 hB1
  simp only [put_some, List.set_cons_succ, List.set_cons_zero]
  refine hK _ _ ?_
  clear hK K
  go_wp2_with (with_reducible refine st_store ?_)
  refine StopOp.go rfl fun K hK => ?_
  refine wp_store (u := .agg #[.func (.func 40) #[] #[], .func (.func 41) #[] #[], .func (.func 42) #[] #[], .func (.func 43) #[] #[], .func (.func 45) #[] #[], .func (.func 47) #[] #[], .func (.func 48) #[] #[], .func (.func 50) #[] #[], .func (.func 52) #[] #[]]) (by rfl) (by rfl) (by kernel_rfl) hB1 (by simp [Value.cells]) (by simp [Value.cells, Value.oneCell']) ?_
  intro w2 hm2 hB2
  refine hK _ _ ?_
  clear hK K
  have c0 := hB2.cell' (i := 0) rfl
  have c1 := hB2.cell' (i := 1) rfl
  have c2 := hB2.cell' (i := 2) rfl
  have c3 := hB2.cell' (i := 3) rfl
  have c4 := hB2.cell' (i := 4) rfl
  have c5 := hB2.cell' (i := 5) rfl
  have c6 := hB2.cell' (i := 6) rfl
  have c7 := hB2.cell' (i := 7) rfl
  have c8 := hB2.cell' (i := 8) rfl
  go_wp2_with fail
  exact bodyPost_ret (v := .agg #[.func (.func 40) #[] #[], .func (.func 41) #[] #[], .func (.func 42) #[] #[], .func (.func 43) #[] #[], .func (.func 45) #[] #[], .func (.func 47) #[] #[], .func (.func 48) #[] #[], .func (.func 50) #[] #[], .func (.func 52) #[] #[]]) (by simp [results, Try.results26, go_sem, c0, c1, c2, c3, c4, c5, c6, c7, c8]) rfl ⟨rfl, hm1.fresh hm2 (by simpa using hg1)⟩
end Go.Proofs.Ytfcoaiggpcjldaa
