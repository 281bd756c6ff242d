import Derived.Test.YtboigcnpamldlaaDoorOctE
set_option linter.unusedVariables false
set_option linter.unusedSimpArgs false
set_option maxRecDepth 100000
namespace Go.Proofs.YtboigcnpamldlaaDoor
open Go.RowKit Gw

theorem ret_int {k : IntKind} {a b : Int} (h : a = b) : Ending.returned (.int k a) = .returned (.int k b) := by rw [h]
theorem Rd.mk {w : World} {r q : Nat} {l : List UInt8} {err : Int} (h1 : Blk w r 115 [.pointer (some ⟨q, 0, none⟩)]) (h2 : Rest w q l err) : Rd w r q l err := ⟨h1, h2⟩
theorem Rd.ne {w : World} {r q : Nat} {l : List UInt8} {err : Int} (h : Rd w r q l err) : r ≠ q := by
  obtain ⟨h1, v, h2, _⟩ := h
  exact h1.ne h2 (by decide)
theorem Rd.outer {w w' : World} {r q : Nat} {l l' : List UInt8} {err err' : Int} (h : Rd w r q l err) (hm : Mod [q] w w') (h2 : Rest w' q l' err') : Rd w' r q l' err' :=
  ⟨h.1.mod hm (by simpa using h.ne), h2⟩

set_option maxHeartbeats 400000 in
theorem made_any (r q : Nat) (l : List UInt8) (err : Int) (w : World) (h : Rd w r q l err) :
    Calls Tryd.prog 63 #[.pointer (some ⟨r, 0, none⟩)] w fun e w' => e = .returned (.bool true) ∧ w = w' := by
  have c0 := h.1.cell' (i := 0) rfl
  go_enter Tryd.func63, Tryd.ntmps63
  go_wp2_with fail
  go_ret
  exact ⟨rfl, rfl⟩

/-- what a call that takes leaves -/
def TakePost (w : World) (r q : Nat) (l : List UInt8) (err n : Int) (w' : World) : Prop := Rd w' r q (tkRest l err n) (tkErr l err n) ∧ Mod [q] w w'

/-- a number of so many bytes, as it was read -/
def got (l : List UInt8) (err : Int) (k : Nat) : Nat := val (tkGot l err k)
theorem got_lt (l : List UInt8) (err : Int) (k : Nat) : got l err k < 256 ^ k := by
  have h := val_lt (tkGot l err k)
  have h2 : (tkGot l err k).length ≤ k := by unfold tkGot; split <;> simp; omega
  exact Nat.lt_of_lt_of_le h (Nat.pow_le_pow_right (by omega) h2)

set_option maxHeartbeats 400000 in
theorem next_any (r q : Nat) (l : List UInt8) (err : Int) (k : Nat) (kk : Int) (w : World) (hkk : kk = k) (hk : k ≤ 8) (h : Rd w r q l err) :
    Calls Tryd.prog 62 #[.pointer (some ⟨r, 0, none⟩), .int .i64 kk] w fun e w' => e = .returned (.int .u64 (got l err k)) ∧ TakePost w r q l err k w' := by
  subst hkk
  have c0 := h.1.cell' (i := 0) rfl
  go_enter Tryd.func62, Tryd.ntmps62
  go_wp2_with (first | (go_at_call 63; refine (made_any r q l err _ h).mono ?_; rintro e w1 ⟨rfl, rfl⟩) | (go_at_call 86; refine (rnumber_any q l err k k _ rfl hk h.2).mono ?_; rintro e w2 ⟨rfl, h2, hm2⟩))
  go_ret
  exact ⟨rfl, h.outer hm2 h2, hm2⟩

set_option maxHeartbeats 400000 in
theorem rtwo_any (r q : Nat) (l : List UInt8) (err : Int) (w : World) (h : Rd w r q l err) :
    Calls Tryd.prog 45 #[.pointer (some ⟨r, 0, none⟩)] w fun e w' => e = .returned (.int .u16 (got l err 2)) ∧ TakePost w r q l err 2 w' := by
  have hg : (got l err 2 : Int) ≤ 65535 := by have := got_lt l err 2; omega
  have hg0 : (0 : Int) ≤ (got l err 2 : Int) := by omega
  go_enter Tryd.func45, Tryd.ntmps45
  go_wp2_with (go_at_call 62; refine (next_any r q l err 2 _ _ rfl (by omega) h).mono ?_; rintro e w1 ⟨rfl, h1⟩)
  go_ret
  exact ⟨ret_int (by first | rfl | omega), h1⟩
set_option maxHeartbeats 400000 in
theorem rfour_any (r q : Nat) (l : List UInt8) (err : Int) (w : World) (h : Rd w r q l err) :
    Calls Tryd.prog 49 #[.pointer (some ⟨r, 0, none⟩)] w fun e w' => e = .returned (.int .u32 (got l err 4)) ∧ TakePost w r q l err 4 w' := by
  have hg : (got l err 4 : Int) ≤ 4294967295 := by have := got_lt l err 4; omega
  have hg0 : (0 : Int) ≤ (got l err 4 : Int) := by omega
  go_enter Tryd.func49, Tryd.ntmps49
  go_wp2_with (go_at_call 62; refine (next_any r q l err 4 _ _ rfl (by omega) h).mono ?_; rintro e w1 ⟨rfl, h1⟩)
  go_ret
  exact ⟨ret_int (by first | rfl | omega), h1⟩
set_option maxHeartbeats 400000 in
theorem reight_any (r q : Nat) (l : List UInt8) (err : Int) (w : World) (h : Rd w r q l err) :
    Calls Tryd.prog 47 #[.pointer (some ⟨r, 0, none⟩)] w fun e w' => e = .returned (.int .u64 (got l err 8)) ∧ TakePost w r q l err 8 w' := by
  have hg : (got l err 8 : Int) ≤ 18446744073709551615 := by have := got_lt l err 8; omega
  have hg0 : (0 : Int) ≤ (got l err 8 : Int) := by omega
  go_enter Tryd.func47, Tryd.ntmps47
  go_wp2_with (go_at_call 62; refine (next_any r q l err 8 _ _ rfl (by omega) h).mono ?_; rintro e w1 ⟨rfl, h1⟩)
  go_ret
  exact ⟨ret_int (by first | rfl | omega), h1⟩

set_option maxHeartbeats 400000 in
theorem rtake_any (r q : Nat) (l : List UInt8) (err n : Int) (w : World) (h : Rd w r q l err) (hn1 : -9223372036854775808 ≤ n) (hn2 : n ≤ 9223372036854775807) (hl : l.length ≤ 140737488355328) :
    Calls Tryd.prog 48 #[.pointer (some ⟨r, 0, none⟩), .int .i64 n] w fun e w' => ∃ v, e = .returned v ∧ Ob w' v (tkGot l err n) ∧ New w v ∧ TakePost w r q l err n w' := by
  have c0 := h.1.cell' (i := 0) rfl
  have hgl : (tkGot l err n).length ≤ 140737488355328 := by unfold tkGot; split <;> simp; omega
  go_enter Tryd.func48, Tryd.ntmps48
  go_wp2_with (first | (go_at_call 63; refine (made_any r q l err _ h).mono ?_; rintro e w1 ⟨rfl, rfl⟩) | (go_at_call 64; refine (take_any q l err n _ h.2 hn1 hn2).mono ?_; rintro e w2 ⟨v, rfl, hv, h2, hm2⟩) | (go_at_call 59; refine (clone_any _ _ _ hv hgl).mono ?_; rintro e w3 ⟨v', rfl, h3, h4, hm3⟩))
  go_ret
  exact ⟨_, rfl, h3, h4.mono hm2.size, (h.outer hm2 h2).ext hm3, hm2.ext hm3⟩

set_option maxHeartbeats 400000 in
theorem err_any (r q : Nat) (l : List UInt8) (err : Int) (w : World) (h : Rd w r q l err) :
    Calls Tryd.prog 46 #[.pointer (some ⟨r, 0, none⟩)] w fun e w' => e = .returned (.int .i64 err) ∧ w = w' := by
  have c0 := h.1.cell' (i := 0) rfl
  obtain ⟨v, hB, hv⟩ := h.2
  have c1 := hB.cell' (i := 1) rfl
  go_enter Tryd.func46, Tryd.ntmps46
  go_wp2_with (go_at_call 63; refine (made_any r q l err _ h).mono ?_; rintro e w1 ⟨rfl, rfl⟩)
  go_ret
  exact ⟨rfl, rfl⟩

/-- what the end is -/
def endOf (l : List UInt8) (err : Int) : Int := if err = 0 then (if l = [] then 0 else 5) else err
end Go.Proofs.YtboigcnpamldlaaDoor
