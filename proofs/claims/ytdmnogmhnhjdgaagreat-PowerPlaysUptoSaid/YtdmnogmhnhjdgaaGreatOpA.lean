import Derived.Test.YtdmnogmhnhjdgaaGreatOctO
import Derived.Deep.MidRow
set_option linter.unusedVariables false
set_option linter.unusedSimpArgs false
set_option maxRecDepth 100000
namespace Go.Proofs.YtdmnogmhnhjdgaaGreat
open Go.RowKit Gw

theorem st_load {P : Program} {ops : Array Oper} {a : Act} {w : World} {Q : Exit → Act → World → Prop} {rest : List Oper} {d : Option Tmp} {ty : TypeId} {ps : String} {af : Array Edge} {gd : Option (Nat × Bool)} (t : TypeId) {x : Operand}
    (h : StopOp P ops Q ({ dst := d, op := .load t x, type := ty, pos := ps, after := af, guard := gd } :: rest) a w) : wpList P ops Q ({ dst := d, op := .load t x, type := ty, pos := ps, after := af, guard := gd } :: rest) a w := h

/-- a step of a script -/
structure Opr where
  kind : Int
  n : Nat
  tk : Int
  ao : Option Addr
  cap : Nat
  l : List UInt8
def Opr.v (o : Opr) : Value := .slice o.ao o.l.length o.cap
def opCells (o : Opr) : List Value := [.int .i64 o.kind, .int .u64 o.n, .int .i64 o.tk, o.v]
structure OkOp (w : World) (o : Opr) : Prop where
  b : Bs w o.v o.l
  n : o.n < 18446744073709551616
  k1 : -9223372036854775808 ≤ o.kind
  k2 : o.kind ≤ 9223372036854775807
  t1 : -9223372036854775808 ≤ o.tk
  t2 : o.tk ≤ 9223372036854775807
theorem OkOp.ext {w w' : World} {o : Opr} (h : OkOp w o) (hm : Mod [] w w') : OkOp w' o := { h with b := h.b.ext hm }
/-- a script -/
structure Oprs (w : World) (v : Value) (os : List Opr) : Prop where
  s : Sl w 4 v os.length (os.flatMap opCells)
  e : ∀ o ∈ os, OkOp w o
theorem Oprs.ext {w w' : World} {v : Value} {os : List Opr} (h : Oprs w v os) (hm : Mod [] w w') : Oprs w' v os := ⟨h.s.ext hm, fun o ho => (h.e o ho).ext hm⟩
theorem flatMap_at {f : Opr → List Value} (hf : ∀ o, (f o).length = 4) : ∀ (os : List Opr) (i j : Nat) (hi : i < os.length), j < 4 → (os.flatMap f)[i * 4 + j]? = (f os[i])[j]?
  | o :: os, 0, j, _, hj => by
    rw [List.flatMap_cons, List.getElem?_append_left (by rw [hf]; omega)]
    simp
  | o :: os, i + 1, j, hi, hj => by
    rw [List.flatMap_cons, List.getElem?_append_right (by rw [hf]; omega), hf]
    rw [show (i + 1) * 4 + j - 4 = i * 4 + j by omega, flatMap_at hf os i j (by simpa using hi) hj]
    simp
theorem Oprs.elem {w : World} {ao : Option Addr} {n cap : Nat} {os : List Opr} (h : Oprs w (.slice ao n cap) os) {i : Nat} (hi : i < os.length) :
    ∃ b o, ao = some ⟨b, o, none⟩ ∧ w.rangeAt b (o + i * 4) (opCells os[i]) := by
  obtain ⟨b, o, c, hv, _, _, hc⟩ := h.s.at (fun h0 => by
    have := flatMap_at (f := opCells) (fun _ => rfl) os i 0 hi (by omega)
    rw [h0] at this
    simp [opCells] at this)
  injection hv with e1
  refine ⟨b, o, e1, fun j u hu => ?_⟩
  have hj : j < 4 := by have := (List.getElem?_eq_some_iff.1 hu).1; simpa [opCells] using this
  have := hc (i * 4 + j) u (by rw [flatMap_at (f := opCells) (fun _ => rfl) os i j hi hj]; exact hu)
  rwa [← Nat.add_assoc] at this

/-- what a step puts -/
def enc (o : Opr) : List UInt8 :=
  if o.kind = 1 then low (o.n % 256) 1 else if o.kind = 2 then low (o.n % 65536) 2 else if o.kind = 3 then low (o.n % 4294967296) 4 else if o.kind = 4 then low o.n 8 else if o.kind = 5 then o.l else []

end Go.Proofs.YtdmnogmhnhjdgaaGreat
