import Derived.Test.YtkhnemnpadhgoaaOctF
import Derived.Test.YtkhnemnpadhgoaaOctG
import Derived.Test.YtkhnemnpadhgoaaRegG
import Derived.Test.YtkhnemnpadhgoaaTkL
import Derived.Deep.DeepCutAuto
/-! Records: which fields a kind has, may a record be. -/
set_option linter.unusedVariables false
set_option linter.unusedSimpArgs false
set_option maxRecDepth 100000
namespace Go.Proofs.Ytkhnemnpadhgoaa
open Go.RowKit Gw

/-- an operation that its guard lets through -/
theorem StopOp.gw {P : Program} {ops : Array Oper} {Q : Exit → Act → World → Prop} {rest : List Oper} {a : Act} {w : World} {o : Oper} (hw : Region.wanted o (yielded ops a.tmps) = true) (h : ∀ K : Act → World → Prop, (∀ a w, wpList P ops Q rest a w → K a w) → o.wp P a w K Q) : StopOp P ops Q (o :: rest) a w :=
  wpList_step fun K hK => by rw [if_pos hw]; exact h K hK
/-- a record -/
structure Rc where
  kind : Int
  id : Int
  seat : Int
  till : Int
  clock : Int
def Rc.v (r : Rc) : Value := .agg #[.int .i64 r.kind, .int .u32 r.id, .int .i64 r.seat, .int .i64 r.till, .int .i64 r.clock]
structure Rc.ok (r : Rc) : Prop where
  k1 : -9223372036854775808 ≤ r.kind
  k2 : r.kind ≤ 9223372036854775807
  i1 : 0 ≤ r.id
  i2 : r.id ≤ 4294967295
  s1 : -9223372036854775808 ≤ r.seat
  s2 : r.seat ≤ 9223372036854775807
  l1 : -9223372036854775808 ≤ r.till
  l2 : r.till ≤ 9223372036854775807
  c1 : -9223372036854775808 ≤ r.clock
  c2 : r.clock ≤ 9223372036854775807
def cellsC (r : Rc) : List Value := [.int .i64 r.kind, .int .u32 r.id, .int .i64 r.seat, .int .i64 r.till, .int .i64 r.clock]
/-- the fields of a kind -/
def cI (k : Int) : Bool := decide (1 ≤ k ∧ k ≤ 4)
def cS (k : Int) : Bool := decide (k = 1 ∨ k = 4)
def cU (k : Int) : Bool := decide (k = 1)
def cC (k : Int) : Bool := decide (k = 5)
def okC (k : Int) : Bool := decide (1 ≤ k ∧ k ≤ 5)
/-- may a number that is there, or not, be so? -/
def within (b : Bool) (n lo hi : Int) : Prop := if b = true then lo ≤ n ∧ n ≤ hi else n = 0
instance (b : Bool) (n lo hi : Int) : Decidable (within b n lo hi) := by unfold within; infer_instance
def MayC (r : Rc) : Prop := (1 ≤ r.kind ∧ r.kind ≤ 5) ∧ within (cI r.kind) r.id 1 4294967295 ∧ within (cS r.kind) r.seat 0 1023 ∧ within (cU r.kind) r.till 1 1099511627776 ∧ within (cC r.kind) r.clock 1 1099511627776
instance (r : Rc) : Decidable (MayC r) := by unfold MayC; infer_instance
def mayC (r : Rc) : Bool := decide (MayC r)
def chkC (r : Rc) : Int := if mayC r = true then 0 else 160
theorem chkC_no {r : Rc} (h : ¬ MayC r) : chkC r = 160 := by unfold chkC mayC; rw [decide_eq_false h]; rfl
theorem chkC_yes {r : Rc} (h : MayC r) : chkC r = 0 := by unfold chkC mayC; rw [decide_eq_true h]; rfl
/-- how many bytes a kind's record has -/
def sizeC (k : Int) : Nat := if k = 1 then 15 else if k = 2 ∨ k = 3 then 5 else if k = 4 then 7 else if k = 5 then 9 else 0
/-- a record's bytes -/
def cbytes (r : Rc) : List UInt8 := low r.kind.toNat 1 ++ (if cI r.kind = true then low r.id.toNat 4 else []) ++ (if cS r.kind = true then low r.seat.toNat 2 else []) ++ (if cU r.kind = true then low r.till.toNat 8 else []) ++ (if cC r.kind = true then low r.clock.toNat 8 else [])
theorem kindsC (k : Int) (h : okC k = true) : k = 1 ∨ k = 2 ∨ k = 3 ∨ k = 4 ∨ k = 5 := by
  have := of_decide_eq_true h
  omega
theorem cbytes_len (r : Rc) (h : okC r.kind = true) : (cbytes r).length = sizeC r.kind := by
  unfold cbytes
  rcases kindsC _ h with e | e | e | e | e <;> rw [e] <;> simp [cI, cS, cU, cC, sizeC, low_length]
theorem mayC_ok {r : Rc} (h : MayC r) : okC r.kind = true := decide_eq_true h.1
theorem mayC_parts {r : Rc} (h : MayC r) : 1 ≤ r.kind ∧ r.kind ≤ 5 ∧ 0 ≤ r.id ∧ r.id ≤ 4294967295 ∧ 0 ≤ r.seat ∧ r.seat ≤ 1023 ∧ 0 ≤ r.till ∧ r.till ≤ 1099511627776 ∧ 0 ≤ r.clock ∧ r.clock ≤ 1099511627776 := by
  obtain ⟨h1, h2, h3, h4, h5⟩ := h
  unfold within at h2 h3 h4 h5
  split at h2 <;> split at h3 <;> split at h4 <;> split at h5 <;> omega
end Go.Proofs.Ytkhnemnpadhgoaa
