import Derived.Test.YtfcoaiggpcjldaaDoorOctF
import Derived.Test.YtfcoaiggpcjldaaDoorOctG
import Derived.Test.YtfcoaiggpcjldaaDoorRegG
/-! Replies: the table of the kinds' fields, which fields a kind has. -/
set_option linter.unusedVariables false
set_option linter.unusedSimpArgs false
set_option maxRecDepth 100000
namespace Go.Proofs.YtfcoaiggpcjldaaDoor
open Go.RowKit Gw

/-- an operation that its guard lets through -/
theorem StopOp.gw {P : Program} {ops : Array Oper} {Q : Exit → Act → World → Prop} {rest : List Oper} {a : Act} {w : World} {o : Oper} (hw : Region.wanted o (yielded ops a.tmps) = true) (h : ∀ K : Act → World → Prop, (∀ a w, wpList P ops Q rest a w → K a w) → o.wp P a w K Q) : StopOp P ops Q (o :: rest) a w :=
  wpList_step fun K hK => by rw [if_pos hw]; exact h K hK
/-- a reply -/
structure Rp where
  tag : Int
  kind : Int
  err : Int
  id : Int
  seat : Int
  till : Int
  count : Int
def Rp.v (r : Rp) : Value := .agg #[.int .u32 r.tag, .int .i64 r.kind, .int .i64 r.err, .int .u32 r.id, .int .i64 r.seat, .int .i64 r.till, .int .i64 r.count]
structure Rp.ok (r : Rp) : Prop where
  t1 : 0 ≤ r.tag
  t2 : r.tag ≤ 4294967295
  k1 : -9223372036854775808 ≤ r.kind
  k2 : r.kind ≤ 9223372036854775807
  e1 : -9223372036854775808 ≤ r.err
  e2 : r.err ≤ 9223372036854775807
  i1 : 0 ≤ r.id
  i2 : r.id ≤ 4294967295
  s1 : -9223372036854775808 ≤ r.seat
  s2 : r.seat ≤ 9223372036854775807
  l1 : -9223372036854775808 ≤ r.till
  l2 : r.till ≤ 9223372036854775807
  c1 : -9223372036854775808 ≤ r.count
  c2 : r.count ≤ 9223372036854775807

/-- the table as it is laid -/
def tabL : List Int := [0, 5, 0, 0, 2, 6, 5, 4, 8, 8, 8]
def Tab (w : World) : Prop := 0 < w.heap.size ∧ ∀ (i : Nat) (n : Int), tabL[i]? = some n → w.cell? ⟨0, i, none⟩ = some (.int .i64 n)
theorem Tab.ext {w w' : World} (h : Tab w) (hm : Mod [] w w') : Tab w' :=
  ⟨Nat.lt_of_lt_of_le h.1 hm.size, fun i n hi => by
    rw [← h.2 i n hi]
    simp [World.cell?, hm.block 0 h.1 (by simp)]⟩
/-- the fields of a kind, if there was no error -/
def hI (k e : Int) : Bool := decide (e = 0 ∧ (k = 1 ∨ k = 6))
def hS (k e : Int) : Bool := decide (e = 0 ∧ (k = 4 ∨ k = 5))
def hU (k e : Int) : Bool := decide (e = 0 ∧ (k = 1 ∨ k = 5 ∨ k = 6 ∨ k = 7))
def hC (k e : Int) : Bool := decide (e = 0 ∧ (k = 8 ∨ k = 9 ∨ k = 10))
def fOf (k e : Int) : Int := if e ≠ 0 ∨ k < 0 ∨ 11 ≤ k then 0 else tabL.getD k.toNat 0
theorem fOf_out {k e : Int} (h : e ≠ 0 ∨ k < 0 ∨ 11 ≤ k) : fOf k e = 0 ∧ hI k e = false ∧ hS k e = false ∧ hU k e = false ∧ hC k e = false := by
  refine ⟨by unfold fOf; rw [if_pos h], ?_, ?_, ?_, ?_⟩ <;> refine decide_eq_false (fun hh => ?_) <;> omega
theorem kinds (k : Int) (h1 : 0 ≤ k) (h2 : k ≤ 10) : k = 0 ∨ k = 1 ∨ k = 2 ∨ k = 3 ∨ k = 4 ∨ k = 5 ∨ k = 6 ∨ k = 7 ∨ k = 8 ∨ k = 9 ∨ k = 10 := by omega
theorem fOf_and (k e : Int) : bits .and .i64 (fOf k e) 1 = (if hI k e = true then 1 else 0) ∧ bits .and .i64 (fOf k e) 2 = (if hS k e = true then 2 else 0) ∧ bits .and .i64 (fOf k e) 4 = (if hU k e = true then 4 else 0) ∧ bits .and .i64 (fOf k e) 8 = (if hC k e = true then 8 else 0) := by
  by_cases h : e ≠ 0 ∨ k < 0 ∨ 11 ≤ k
  · obtain ⟨h0, h1, h2, h3, h4⟩ := fOf_out h
    rw [h0, h1, h2, h3, h4]
    decide
  · obtain rfl : e = 0 := by omega
    rcases kinds k (by omega) (by omega) with rfl | rfl | rfl | rfl | rfl | rfl | rfl | rfl | rfl | rfl | rfl <;> decide
/-- which sets of fields there are -/
theorem flags_cases (k e : Int) : (hI k e = false ∧ hS k e = false ∧ hU k e = false ∧ hC k e = false) ∨ (hI k e = true ∧ hS k e = false ∧ hU k e = true ∧ hC k e = false) ∨ (hI k e = false ∧ hS k e = true ∧ hU k e = false ∧ hC k e = false) ∨ (hI k e = false ∧ hS k e = true ∧ hU k e = true ∧ hC k e = false) ∨ (hI k e = false ∧ hS k e = false ∧ hU k e = true ∧ hC k e = false) ∨ (hI k e = false ∧ hS k e = false ∧ hU k e = false ∧ hC k e = true) := by
  by_cases h : e ≠ 0 ∨ k < 0 ∨ 11 ≤ k
  · exact .inl (fOf_out h).2
  · obtain rfl : e = 0 := by omega
    rcases kinds k (by omega) (by omega) with rfl | rfl | rfl | rfl | rfl | rfl | rfl | rfl | rfl | rfl | rfl <;> decide

set_option maxHeartbeats 4000000 in
theorem off_any (k e : Int) (w : World) (hT : Tab w) : Calls Tryd.prog 24 #[.int .i64 k, .int .i64 e] w fun en w' => en = .returned (.int .i64 (fOf k e)) ∧ w = w' := by
  by_cases h : e ≠ 0 ∨ k < 0 ∨ 11 ≤ k
  · rw [(fOf_out h).1]
    by_cases he : e = 0
    · subst he
      by_cases hk : k < 0
      · have y1 : decide (k < 0) = true := decide_eq_true hk
        go_enter Tryd.func24, Tryd.ntmps24
        go_wp2
        go_ret
        exact ⟨rfl, rfl⟩
      · have y1 : decide (k < 0) = false := decide_eq_false hk
        have y2 : decide (11 ≤ k) = true := decide_eq_true (by omega)
        go_enter Tryd.func24, Tryd.ntmps24
        go_wp2
        go_ret
        exact ⟨rfl, rfl⟩
    · have y1 : (e != 0) = true := by simpa using he
      go_enter Tryd.func24, Tryd.ntmps24
      go_wp2
      go_ret
      exact ⟨rfl, rfl⟩
  · obtain rfl : e = 0 := by omega
    have c0 := hT.2 0 0 rfl
    have c1 := hT.2 1 5 rfl
    have c2 := hT.2 2 0 rfl
    have c3 := hT.2 3 0 rfl
    have c4 := hT.2 4 2 rfl
    have c5 := hT.2 5 6 rfl
    have c6 := hT.2 6 5 rfl
    have c7 := hT.2 7 4 rfl
    have c8 := hT.2 8 8 rfl
    have c9 := hT.2 9 8 rfl
    have c10 := hT.2 10 8 rfl
    rcases kinds k (by omega) (by omega) with rfl | rfl | rfl | rfl | rfl | rfl | rfl | rfl | rfl | rfl | rfl
    all_goals
      go_enter Tryd.func24, Tryd.ntmps24
      go_wp2
      go_ret
      exact ⟨rfl, rfl⟩
end Go.Proofs.YtfcoaiggpcjldaaDoor
