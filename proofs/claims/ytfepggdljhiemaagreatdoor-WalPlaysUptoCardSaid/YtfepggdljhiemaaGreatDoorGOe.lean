import Derived.Test.YtfepggdljhiemaaGreatDoorGOct
set_option linter.unusedVariables false
set_option linter.unusedSimpArgs false
set_option maxRecDepth 100000
namespace Go.Proofs.YtfepggdljhiemaaGreatDoor
open Go.RowKit Gw

/-- a reader: what is left, and the error -/
def Rd (w : World) (r q : Nat) (l : List UInt8) (err : Int) : Prop :=
  Blk w r 276 [.pointer (some ⟨q, 0, none⟩)] ∧ ∃ v, Blk w q 274 [v, .int .i64 err] ∧ Bs w v l
theorem Rd.ext {w w' : World} {r q : Nat} {l : List UInt8} {err : Int} (h : Rd w r q l err) (hm : Mod [] w w') : Rd w' r q l err := by
  obtain ⟨h1, v, h2, h3⟩ := h
  exact ⟨h1.ext hm, v, h2.ext hm, h3.ext hm⟩
theorem Rd.mod {w w' : World} {r q g : Nat} {l : List UInt8} {err : Int} {t : TypeId} {cs : List Value} (h : Rd w r q l err) (hb : Blk w g t cs) (hk : ∀ c ∈ cs, ∀ n, c ≠ .int .u8 n) (h1 : r ≠ g) (h2 : q ≠ g) (hm : Mod [g] w w') : Rd w' r q l err := by
  obtain ⟨hr, v, hq, hv⟩ := h
  exact ⟨hr.mod hm (by simpa using h1), v, hq.mod hm (by simpa using h2), hv.keepAt hb hk hm⟩

set_option maxHeartbeats 400000 in
theorem of_where (l : List UInt8) (v : Value) (w : World) (hv : Bs w v l) (hl : l.length ≤ 140737488355328) :
    Calls Tryz.prog 178 #[v] w fun e w' => ∃ r q u, e = .returned (.pointer (some ⟨r, 0, none⟩)) ∧ w.heap.size ≤ r ∧ w.heap.size ≤ q ∧ q ≠ r ∧ Blk w' r 276 [.pointer (some ⟨q, 0, none⟩)] ∧ Blk w' q 274 [u, .int .i64 0] ∧ Bs w' u l ∧ New w u ∧ Mod [] w w' := by
  go_enter Tryz.func178, Tryz.ntmps178
  go_wp2_with (first | (with_reducible refine st_box ?_) | (go_at_call 142; refine (clone_any l _ _ hv hl).mono ?_; rintro e w1 ⟨v', rfl, h1, h2, h3⟩; obtain ⟨ao, cap, hv', _, _⟩ := h1.bs.form; subst hv'))
  refine StopOp.go rfl fun K hK => ?_
  refine wp_box (v := .agg #[.slice ao l.length cap, .int .i64 0]) (by rfl) ?_
  intro q w2 hq1 hq2 hm2 hB2
  simp only [put_some, List.set_cons_succ, List.set_cons_zero]
  refine hK _ _ ?_
  clear hK K
  go_wp2_with (with_reducible refine st_box ?_)
  refine StopOp.go rfl fun K hK => ?_
  refine wp_box (v := .agg #[.pointer (some ⟨q, 0, none⟩)]) (by rfl) ?_
  intro r w3 hr1 hr2 hm3 hB3
  simp only [put_some, List.set_cons_succ, List.set_cons_zero]
  refine hK _ _ ?_
  clear hK K
  go_wp2_with fail
  go_ret
  have s1 := h3.size
  have s2 := hm2.size
  exact ⟨r, q, _, rfl, by omega, by omega, by omega, hB3, hB2.ext hm3, (h1.bs.ext hm2).ext hm3, h2, (h3.ext hm2).ext hm3⟩
theorem of_any (l : List UInt8) (v : Value) (w : World) (hv : Bs w v l) (hl : l.length ≤ 140737488355328) :
    Calls Tryz.prog 178 #[v] w fun e w' => ∃ r q, e = .returned (.pointer (some ⟨r, 0, none⟩)) ∧ w.heap.size ≤ r ∧ w.heap.size ≤ q ∧ q ≠ r ∧ Rd w' r q l 0 ∧ Mod [] w w' :=
  (of_where l v w hv hl).mono fun e w' ⟨r, q, u, h1, h2, h3, h4, h5, h6, h7, _, h9⟩ => ⟨r, q, h1, h2, h3, h4, ⟨h5, u, h6, h7⟩, h9⟩

/-! what taking does, on plain data -/
def tkErr (l : List UInt8) (err n : Int) : Int := if err = 0 then (if n < 0 then 2 else if (l.length : Int) < n then 4 else 0) else err
def tkGot (l : List UInt8) (err n : Int) : List UInt8 := if err = 0 ∧ 0 ≤ n ∧ n ≤ l.length then l.take n.toNat else []
def tkRest (l : List UInt8) (err n : Int) : List UInt8 := if err = 0 then (if 0 ≤ n ∧ n ≤ l.length then l.drop n.toNat else []) else l

/-- what remains of a reader, at its inner block -/
def Rest (w : World) (q : Nat) (l : List UInt8) (err : Int) : Prop := ∃ v, Blk w q 274 [v, .int .i64 err] ∧ Bs w v l

set_option maxHeartbeats 1000000 in
theorem take_any (q : Nat) (l : List UInt8) (err n : Int) (w : World) (hq : Rest w q l err) (hn1 : -9223372036854775808 ≤ n) (hn2 : n ≤ 9223372036854775807) :
    Calls Tryz.prog 197 #[.pointer (some ⟨q, 0, none⟩), .int .i64 n] w fun e w' => ∃ v, e = .returned v ∧ Bs w' v (tkGot l err n) ∧ Rest w' q (tkRest l err n) (tkErr l err n) ∧ Mod [q] w w' := by
  obtain ⟨v, hB, hv⟩ := hq
  obtain ⟨ao, cap, rfl, hc1, hc2⟩ := hv.form
  have c0 := hB.cell' (i := 0) rfl
  have c1 := hB.cell' (i := 1) rfl
  by_cases he : err = 0
  · subst he
    by_cases h1 : n < 0
    · go_enter Tryz.func197, Tryz.ntmps197
      go_wp2_with (with_reducible refine st_store ?_)
      refine StopOp.go rfl fun K hK => ?_
      refine wp_store1 (by kernel_rfl) (by rfl) (u := .slice none 0 0) (by rfl) ⟨rfl, rfl⟩ hB (by simp) ?_
      intro w1 hm1 hB1
      refine hK _ _ ?_
      clear hK K
      go_wp2_with (with_reducible refine st_store ?_)
      refine StopOp.go rfl fun K hK => ?_
      refine wp_store1 (by kernel_rfl) (by rfl) (u := .int .i64 2) (by rfl) ⟨rfl, rfl⟩ hB1 (by simp) ?_
      intro w2 hm2 hB2
      refine hK _ _ ?_
      clear hK K
      go_wp2_with (with_reducible refine st_store ?_)
      go_ret
      refine ⟨_, rfl, ?_, ?_, hm1.trans hm2⟩
      · rw [show tkGot l 0 n = [] by unfold tkGot; rw [if_neg (by omega)]]; exact (Ob.nil w2).bs
      · rw [show tkRest l 0 n = [] by unfold tkRest; rw [if_pos rfl, if_neg (by omega)], show tkErr l 0 n = 2 by unfold tkErr; rw [if_pos rfl, if_pos h1]]
        exact ⟨_, hB2, (Ob.nil w2).bs⟩
    · by_cases h2 : (l.length : Int) < n
      · go_enter Tryz.func197, Tryz.ntmps197
        go_wp2_with (with_reducible refine st_store ?_)
        refine StopOp.go rfl fun K hK => ?_
        refine wp_store1 (by kernel_rfl) (by rfl) (u := .slice none 0 0) (by rfl) ⟨rfl, rfl⟩ hB (by simp) ?_
        intro w1 hm1 hB1
        refine hK _ _ ?_
        clear hK K
        go_wp2_with (with_reducible refine st_store ?_)
        refine StopOp.go rfl fun K hK => ?_
        refine wp_store1 (by kernel_rfl) (by rfl) (u := .int .i64 4) (by rfl) ⟨rfl, rfl⟩ hB1 (by simp) ?_
        intro w2 hm2 hB2
        refine hK _ _ ?_
        clear hK K
        go_wp2_with (with_reducible refine st_store ?_)
        go_ret
        refine ⟨_, rfl, ?_, ?_, hm1.trans hm2⟩
        · rw [show tkGot l 0 n = [] by unfold tkGot; rw [if_neg (by omega)]]; exact (Ob.nil w2).bs
        · rw [show tkRest l 0 n = [] by unfold tkRest; rw [if_pos rfl, if_neg (by omega)], show tkErr l 0 n = 4 by unfold tkErr; rw [if_pos rfl, if_neg (by omega), if_pos h2]]
          exact ⟨_, hB2, (Ob.nil w2).bs⟩
      · obtain ⟨m, rfl⟩ := Int.eq_ofNat_of_zero_le (show 0 ≤ n by omega)
        have h0 : (0 : Int) ≤ (m : Int) := by omega
        have h3 : (m : Int) ≤ (l.length : Int) := by omega
        have h4 : (m : Int) ≤ (cap : Int) := by omega
        have hg : tkGot l 0 m = l.take m := by unfold tkGot; rw [if_pos ⟨rfl, h0, h3⟩]; rfl
        have hr : tkRest l 0 m = l.drop m := by unfold tkRest; rw [if_pos rfl, if_pos ⟨h0, h3⟩]; rfl
        have he : tkErr l 0 m = 0 := by unfold tkErr; rw [if_pos rfl, if_neg (by omega), if_neg (by omega)]
        rw [hg, hr, he]
        clear hg hr he
        have hcut1 : Bs w (.slice ao m cap) (l.take m) := by
          have := Sl.cut (lo := 0) (hi := m) (m := cap) hv (by omega) (by omega) (by omega) (by omega)
          simp only [Nat.mul_one, Nat.zero_mul, List.drop_zero, Nat.sub_zero, Addr.add, if_true, Option.map_id'] at this
          unfold Bs
          rw [List.length_take, Nat.min_eq_left (by omega)]
          have hb : bv (l.take m) = (bv l).take m := by simp [bv, List.map_take]
          rw [hb]
          simpa using this
        have hcut2 : Bs w (.slice (if cap = m then ao else ao.map (·.add m)) (l.length - m) (cap - m)) (l.drop m) := by
          have := Sl.cut (lo := m) (hi := l.length) (m := cap) hv (by omega) (by omega) (by omega) (by omega)
          unfold Bs
          rw [List.length_drop]
          have hb : bv (l.drop m) = (bv l).drop m := by simp [bv, List.map_drop]
          rw [hb]
          simpa [bv_length, List.take_of_length_le] using this
        rcases Decidable.em (cap = m) with rfl | hcm
        all_goals
          first | rw [if_pos rfl, Nat.sub_self, show l.length - cap = 0 by omega] at hcut2 | rw [if_neg hcm] at hcut2
          go_enter Tryz.func197, Tryz.ntmps197
          go_wp2_with (with_reducible refine st_store ?_)
          refine StopOp.go rfl fun K hK => ?_
          refine wp_store1 (by kernel_rfl) (by rfl) (by rfl) ⟨rfl, rfl⟩ hB (by simp) ?_
          intro w1 hm1 hB1
          refine hK _ _ ?_
          clear hK K
          go_wp2_with fail
          go_ret
          exact ⟨_, rfl, hcut1.keepAt hB (by simp) hm1, ⟨_, hB1, hcut2.keepAt hB (by simp) hm1⟩, hm1⟩
  · have hz : (err == 0) = false := by simpa using he
    have hz' : (err != 0) = true := by simpa using he
    go_enter Tryz.func197, Tryz.ntmps197
    go_wp2_with (with_reducible refine st_store ?_)
    go_ret
    refine ⟨_, rfl, ?_, ?_, Mod.refl _ _⟩
    · rw [show tkGot l err n = [] by simp [tkGot, he]]; exact (Ob.nil w).bs
    · rw [show tkRest l err n = l by simp [tkRest, he], show tkErr l err n = err by simp [tkErr, he]]
      exact ⟨_, hB, hv⟩

/-- what bytes are worth, the lowest first -/
def val (l : List UInt8) : Nat := l.foldr (fun b n => b.toNat + 256 * n) 0
theorem val_cons (b : UInt8) (l : List UInt8) : val (b :: l) = b.toNat + 256 * val l := rfl
theorem val_lt : ∀ (l : List UInt8), val l < 256 ^ l.length
  | [] => by simp [val]
  | b :: l => by
    have := val_lt l
    have hb := b.toNat_lt
    rw [val_cons, List.length_cons, Nat.pow_succ]
    omega
theorem val_append : ∀ (l m : List UInt8), val (l ++ m) = val l + 256 ^ l.length * val m
  | [], m => by simp [val]
  | b :: l, m => by
    rw [List.cons_append, val_cons, val_cons, val_append l m, List.length_cons, Nat.pow_succ, Nat.mul_add]
    rw [Nat.mul_comm (256 ^ l.length) 256, Nat.mul_assoc]
    omega
theorem val_snoc (l : List UInt8) (b : UInt8) : val (l ++ [b]) = val l + 256 ^ l.length * b.toNat := by rw [val_append]; simp [val]

theorem or_step (g : List UInt8) (j : Nat) (hj : j < g.length) (h8 : g.length ≤ 8) :
    bits .or .u64 (val (g.take j)) (IntKind.u64.wrap (IntKind.u64.wrap (g[j].toNat : Nat) * 2 ^ (8 * j))) = (val (g.take (j + 1)) : Int) := by
  have hb := g[j].toNat_lt
  have hp : (256 : Nat) ^ j = 2 ^ (8 * j) := by rw [Nat.pow_mul]
  have hlt : val (g.take j) < 256 ^ j := by
    have := val_lt (g.take j)
    rwa [List.length_take, Nat.min_eq_left (by omega)] at this
  have hle : (256 : Nat) ^ j ≤ 256 ^ 7 := Nat.pow_le_pow_right (by omega) (by omega)
  have h7 : (256 : Nat) ^ 7 = 72057594037927936 := by decide
  have hmul : g[j].toNat * 256 ^ j ≤ 255 * 256 ^ j := Nat.mul_le_mul_right _ (by omega)
  have e1 : IntKind.u64.wrap ((g[j].toNat : Nat) : Int) = ((g[j].toNat : Nat) : Int) := IntWalk.u64_in _ (by omega)
  have e2 : ((g[j].toNat : Nat) : Int) * 2 ^ (8 * j) = ((g[j].toNat * 256 ^ j : Nat) : Int) := by rw [hp]; norm_cast
  have e3 : IntKind.u64.wrap ((g[j].toNat * 256 ^ j : Nat) : Int) = ((g[j].toNat * 256 ^ j : Nat) : Int) := IntWalk.u64_in _ (by omega)
  rw [e1, e2, e3, u64_or_nat _ _ (by omega) (by omega), List.take_succ_eq_append_getElem hj, val_snoc, List.length_take, Nat.min_eq_left (by omega)]
  apply congrArg Nat.cast
  rw [Nat.or_comm, Nat.mul_comm, hp, Nat.add_comm]
  rw [hp] at hlt
  exact (Nat.two_pow_add_eq_or_of_lt hlt _).symm

set_option maxHeartbeats 1000000 in
theorem rnumber_any (q : Nat) (l : List UInt8) (err : Int) (k : Nat) (kk : Int) (w : World) (hkk : kk = k) (hk : k ≤ 8) (hq : Rest w q l err) :
    Calls Tryz.prog 202 #[.pointer (some ⟨q, 0, none⟩), .int .i64 kk] w fun e w' => e = .returned (.int .u64 (val (tkGot l err k))) ∧ Rest w' q (tkRest l err k) (tkErr l err k) ∧ Mod [q] w w' := by
  subst hkk
  go_enter Tryz.func202, Tryz.ntmps202
  go_wp2_with (go_at_call 197; refine (take_any q l err k _ hq (by omega) (by omega)).mono ?_; rintro e w1 ⟨v, rfl, hv, hq1, hm1⟩; obtain ⟨ao, cap, rfl, hc1, hc2⟩ := hv.form)
  have hg8 : (tkGot l err k).length ≤ 8 := by unfold tkGot; split <;> simp; omega
  obtain ⟨g, hg⟩ : ∃ g, g = tkGot l err k := ⟨_, rfl⟩
  rw [← hg] at hv hc1 hg8 ⊢
  have Hg := Lib.hid hg
  clear hg
  go_loop [5, 12] (fun n i => ∃ j : Nat, j ≤ g.length ∧ n = .int .u64 (val (g.take j)) ∧ i = .int .i64 j) (fun _ i => g.length - (intOf i).toNat)
  case atStart => exact ⟨0, Nat.zero_le _, rfl, rfl⟩
  case round =>
    obtain ⟨j, hj, rfl, rfl⟩ := hrel
    by_cases hlt : j < g.length
    · obtain ⟨b, o, rfl, hc⟩ := hv.byte hlt
      go_wp2_with fail
      rw [or_step g j hlt hg8]
      go_round
      case rel => exact ⟨j + 1, by omega, rfl, by go_num⟩
      case measure => simp [intOf]; omega
    · go_wp2_with fail
      go_ret
      refine ⟨?_, hq1, hm1⟩
      rw [← Hg.out, List.take_of_length_le (by omega)]
      rfl
end Go.Proofs.YtfepggdljhiemaaGreatDoor

namespace Go.Proofs.YtfepggdljhiemaaGreatDoor
open Go.RowKit Gw

theorem ret_int {k : IntKind} {a b : Int} (h : a = b) : Ending.returned (.int k a) = .returned (.int k b) := by rw [h]
theorem Rd.mk {w : World} {r q : Nat} {l : List UInt8} {err : Int} (h1 : Blk w r 276 [.pointer (some ⟨q, 0, none⟩)]) (h2 : Rest w q l err) : Rd w r q l err := ⟨h1, h2⟩
theorem Rd.ne {w : World} {r q : Nat} {l : List UInt8} {err : Int} (h : Rd w r q l err) : r ≠ q := by
  obtain ⟨h1, v, h2, _⟩ := h
  exact h1.ne h2 (by decide)
theorem Rd.outer {w w' : World} {r q : Nat} {l l' : List UInt8} {err err' : Int} (h : Rd w r q l err) (hm : Mod [q] w w') (h2 : Rest w' q l' err') : Rd w' r q l' err' :=
  ⟨h.1.mod hm (by simpa using h.ne), h2⟩

set_option maxHeartbeats 400000 in
theorem made_any (r q : Nat) (l : List UInt8) (err : Int) (w : World) (h : Rd w r q l err) :
    Calls Tryz.prog 196 #[.pointer (some ⟨r, 0, none⟩)] w fun e w' => e = .returned (.bool true) ∧ w = w' := by
  have c0 := h.1.cell' (i := 0) rfl
  go_enter Tryz.func196, Tryz.ntmps196
  go_wp2_with fail
  go_ret
  exact ⟨rfl, rfl⟩

/-- what a call that takes leaves -/
def TakePost (w : World) (r q : Nat) (l : List UInt8) (err n : Int) (w' : World) : Prop := Rd w' r q (tkRest l err n) (tkErr l err n) ∧ Mod [q] w w'

/-- a number of so many bytes, as it was read -/
def got (l : List UInt8) (err : Int) (k : Nat) : Nat := val (tkGot l err k)
theorem got_lt (l : List UInt8) (err : Int) (k : Nat) : got l err k < 256 ^ k := by
  have h := val_lt (tkGot l err k)
  have h2 : (tkGot l err k).length ≤ k := by unfold tkGot; split <;> simp; omega
  exact Nat.lt_of_lt_of_le h (Nat.pow_le_pow_right (by omega) h2)

set_option maxHeartbeats 400000 in
theorem next_any (r q : Nat) (l : List UInt8) (err : Int) (k : Nat) (kk : Int) (w : World) (hkk : kk = k) (hk : k ≤ 8) (h : Rd w r q l err) :
    Calls Tryz.prog 195 #[.pointer (some ⟨r, 0, none⟩), .int .i64 kk] w fun e w' => e = .returned (.int .u64 (got l err k)) ∧ TakePost w r q l err k w' := by
  subst hkk
  have c0 := h.1.cell' (i := 0) rfl
  go_enter Tryz.func195, Tryz.ntmps195
  go_wp2_with (first | (go_at_call 196; refine (made_any r q l err _ h).mono ?_; rintro e w1 ⟨rfl, rfl⟩) | (go_at_call 202; refine (rnumber_any q l err k k _ rfl hk h.2).mono ?_; rintro e w2 ⟨rfl, h2, hm2⟩))
  go_ret
  exact ⟨rfl, h.outer hm2 h2, hm2⟩

set_option maxHeartbeats 400000 in
theorem rtwo_any (r q : Nat) (l : List UInt8) (err : Int) (w : World) (h : Rd w r q l err) :
    Calls Tryz.prog 179 #[.pointer (some ⟨r, 0, none⟩)] w fun e w' => e = .returned (.int .u16 (got l err 2)) ∧ TakePost w r q l err 2 w' := by
  have hg : (got l err 2 : Int) ≤ 65535 := by have := got_lt l err 2; omega
  have hg0 : (0 : Int) ≤ (got l err 2 : Int) := by omega
  go_enter Tryz.func179, Tryz.ntmps179
  go_wp2_with (go_at_call 195; refine (next_any r q l err 2 _ _ rfl (by omega) h).mono ?_; rintro e w1 ⟨rfl, h1⟩)
  go_ret
  exact ⟨ret_int (by first | rfl | omega), h1⟩
set_option maxHeartbeats 400000 in
theorem rfour_any (r q : Nat) (l : List UInt8) (err : Int) (w : World) (h : Rd w r q l err) :
    Calls Tryz.prog 183 #[.pointer (some ⟨r, 0, none⟩)] w fun e w' => e = .returned (.int .u32 (got l err 4)) ∧ TakePost w r q l err 4 w' := by
  have hg : (got l err 4 : Int) ≤ 4294967295 := by have := got_lt l err 4; omega
  have hg0 : (0 : Int) ≤ (got l err 4 : Int) := by omega
  go_enter Tryz.func183, Tryz.ntmps183
  go_wp2_with (go_at_call 195; refine (next_any r q l err 4 _ _ rfl (by omega) h).mono ?_; rintro e w1 ⟨rfl, h1⟩)
  go_ret
  exact ⟨ret_int (by first | rfl | omega), h1⟩
set_option maxHeartbeats 400000 in
theorem reight_any (r q : Nat) (l : List UInt8) (err : Int) (w : World) (h : Rd w r q l err) :
    Calls Tryz.prog 181 #[.pointer (some ⟨r, 0, none⟩)] w fun e w' => e = .returned (.int .u64 (got l err 8)) ∧ TakePost w r q l err 8 w' := by
  have hg : (got l err 8 : Int) ≤ 18446744073709551615 := by have := got_lt l err 8; omega
  have hg0 : (0 : Int) ≤ (got l err 8 : Int) := by omega
  go_enter Tryz.func181, Tryz.ntmps181
  go_wp2_with (go_at_call 195; refine (next_any r q l err 8 _ _ rfl (by omega) h).mono ?_; rintro e w1 ⟨rfl, h1⟩)
  go_ret
  exact ⟨ret_int (by first | rfl | omega), h1⟩

set_option maxHeartbeats 400000 in
theorem rtake_any (r q : Nat) (l : List UInt8) (err n : Int) (w : World) (h : Rd w r q l err) (hn1 : -9223372036854775808 ≤ n) (hn2 : n ≤ 9223372036854775807) (hl : l.length ≤ 140737488355328) :
    Calls Tryz.prog 182 #[.pointer (some ⟨r, 0, none⟩), .int .i64 n] w fun e w' => ∃ v, e = .returned v ∧ Ob w' v (tkGot l err n) ∧ New w v ∧ TakePost w r q l err n w' := by
  have c0 := h.1.cell' (i := 0) rfl
  have hgl : (tkGot l err n).length ≤ 140737488355328 := by unfold tkGot; split <;> simp; omega
  go_enter Tryz.func182, Tryz.ntmps182
  go_wp2_with (first | (go_at_call 196; refine (made_any r q l err _ h).mono ?_; rintro e w1 ⟨rfl, rfl⟩) | (go_at_call 197; refine (take_any q l err n _ h.2 hn1 hn2).mono ?_; rintro e w2 ⟨v, rfl, hv, h2, hm2⟩) | (go_at_call 142; refine (clone_any _ _ _ hv hgl).mono ?_; rintro e w3 ⟨v', rfl, h3, h4, hm3⟩))
  go_ret
  exact ⟨_, rfl, h3, h4.mono hm2.size, (h.outer hm2 h2).ext hm3, hm2.ext hm3⟩

set_option maxHeartbeats 400000 in
theorem err_any (r q : Nat) (l : List UInt8) (err : Int) (w : World) (h : Rd w r q l err) :
    Calls Tryz.prog 180 #[.pointer (some ⟨r, 0, none⟩)] w fun e w' => e = .returned (.int .i64 err) ∧ w = w' := by
  have c0 := h.1.cell' (i := 0) rfl
  obtain ⟨v, hB, hv⟩ := h.2
  have c1 := hB.cell' (i := 1) rfl
  go_enter Tryz.func180, Tryz.ntmps180
  go_wp2_with (go_at_call 196; refine (made_any r q l err _ h).mono ?_; rintro e w1 ⟨rfl, rfl⟩)
  go_ret
  exact ⟨rfl, rfl⟩

end Go.Proofs.YtfepggdljhiemaaGreatDoor

namespace Go.Proofs.YtfepggdljhiemaaGreatDoor
open Go.RowKit Gw

theorem same_yes (la lb : List UInt8) (va vb : Value) (w : World) (ha : Bs w va la) (hb : Bs w vb lb) (h : la = lb) :
    Calls Tryz.prog 44 #[va, vb] w fun e w' => e = .returned (.bool true) ∧ Mod [] w w' :=
  (same_any la lb va vb w ha hb).mono fun e w' ⟨he, hm⟩ => ⟨by rw [he, decide_eq_true h], hm⟩
theorem Wr.new {w : World} {g : Nat} (h : Blk w g 150 [.slice none 0 0]) : Wr w g [] := ⟨_, h, (Ob.nil w).bs⟩
theorem zero_writer : (Tryz.prog.info? 150).map (·.zero) = some (some (.agg #[.slice none 0 0])) := by kernel_rfl

end Go.Proofs.YtfepggdljhiemaaGreatDoor
