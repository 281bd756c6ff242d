import Derived.Test.YtkedbphdflhhlaaOctO
import Derived.Deep.MidRow
set_option linter.unusedVariables false
set_option linter.unusedSimpArgs false
set_option maxRecDepth 100000
namespace Go.Proofs.Ytkedbphdflhhlaa
open Go.RowKit Gw

theorem st_load {P : Program} {ops : Array Oper} {a : Act} {w : World} {Q : Exit → Act → World → Prop} {rest : List Oper} {d : Option Tmp} {ty : TypeId} {ps : String} {af : Array Edge} {gd : Option (Nat × Bool)} (t : TypeId) {x : Operand}
    (h : StopOp P ops Q ({ dst := d, op := .load t x, type := ty, pos := ps, after := af, guard := gd } :: rest) a w) : wpList P ops Q ({ dst := d, op := .load t x, type := ty, pos := ps, after := af, guard := gd } :: rest) a w := h

/-- a step of a script -/
structure Opr where
  kind : Int
  n : Nat
  tk : Int
  ao : Option Addr
  cap : Nat
  l : List UInt8
def Opr.v (o : Opr) : Value := .slice o.ao o.l.length o.cap
def opCells (o : Opr) : List Value := [.int .i64 o.kind, .int .u64 o.n, .int .i64 o.tk, o.v]
structure OkOp (w : World) (o : Opr) : Prop where
  b : Bs w o.v o.l
  n : o.n < 18446744073709551616
  k1 : -9223372036854775808 ≤ o.kind
  k2 : o.kind ≤ 9223372036854775807
  t1 : -9223372036854775808 ≤ o.tk
  t2 : o.tk ≤ 9223372036854775807
theorem OkOp.ext {w w' : World} {o : Opr} (h : OkOp w o) (hm : Mod [] w w') : OkOp w' o := { h with b := h.b.ext hm }
/-- a script -/
structure Oprs (w : World) (v : Value) (os : List Opr) : Prop where
  s : Sl w 4 v os.length (os.flatMap opCells)
  e : ∀ o ∈ os, OkOp w o
theorem Oprs.ext {w w' : World} {v : Value} {os : List Opr} (h : Oprs w v os) (hm : Mod [] w w') : Oprs w' v os := ⟨h.s.ext hm, fun o ho => (h.e o ho).ext hm⟩
theorem flatMap_at {f : Opr → List Value} (hf : ∀ o, (f o).length = 4) : ∀ (os : List Opr) (i j : Nat) (hi : i < os.length), j < 4 → (os.flatMap f)[i * 4 + j]? = (f os[i])[j]?
  | o :: os, 0, j, _, hj => by
    rw [List.flatMap_cons, List.getElem?_append_left (by rw [hf]; omega)]
    simp
  | o :: os, i + 1, j, hi, hj => by
    rw [List.flatMap_cons, List.getElem?_append_right (by rw [hf]; omega), hf]
    rw [show (i + 1) * 4 + j - 4 = i * 4 + j by omega, flatMap_at hf os i j (by simpa using hi) hj]
    simp
theorem Oprs.elem {w : World} {ao : Option Addr} {n cap : Nat} {os : List Opr} (h : Oprs w (.slice ao n cap) os) {i : Nat} (hi : i < os.length) :
    ∃ b o, ao = some ⟨b, o, none⟩ ∧ w.rangeAt b (o + i * 4) (opCells os[i]) := by
  obtain ⟨b, o, c, hv, _, _, hc⟩ := h.s.at (fun h0 => by
    have := flatMap_at (f := opCells) (fun _ => rfl) os i 0 hi (by omega)
    rw [h0] at this
    simp [opCells] at this)
  injection hv with e1
  refine ⟨b, o, e1, fun j u hu => ?_⟩
  have hj : j < 4 := by have := (List.getElem?_eq_some_iff.1 hu).1; simpa [opCells] using this
  have := hc (i * 4 + j) u (by rw [flatMap_at (f := opCells) (fun _ => rfl) os i j hi hj]; exact hu)
  rwa [← Nat.add_assoc] at this

/-- what a step puts -/
def enc (o : Opr) : List UInt8 :=
  if o.kind = 1 then low (o.n % 256) 1 else if o.kind = 2 then low (o.n % 65536) 2 else if o.kind = 3 then low (o.n % 4294967296) 4 else if o.kind = 4 then low o.n 8 else if o.kind = 5 then o.l else []

set_option maxHeartbeats 4000000 in
theorem put_op (o : Opr) (g : Nat) (xs : List UInt8) (w : World) (hw : Wr w g xs) (ho : OkOp w o) (hl : xs.length + o.l.length ≤ 140737488355320) :
    Calls Try.prog 51 #[.pointer (some ⟨g, 0, none⟩), .agg #[.int .i64 o.kind, .int .u64 o.n, .int .i64 o.tk, o.v]] w (PutPost w g (xs ++ enc o)) := by
  obtain ⟨kind, n, tk, ao, cap, l⟩ := o
  obtain ⟨hb, hn, k1, k2, t1, t2⟩ := ho
  dsimp only [Opr.v] at hb hn k1 k2 t1 t2 hl ⊢
  have hn1 : (n : Int) ≤ 18446744073709551615 := by omega
  have hn0 : (0 : Int) ≤ (n : Int) := by omega
  have z1 : ((n : Int) % 256).toNat = n % 256 := by omega
  have z2 : (IntKind.u16.wrap (n : Int)).toNat = n % 65536 := by rw [IntKind.wrap_u16]; omega
  have z3 : ((n : Int) % 4294967296).toNat = n % 4294967296 := by omega
  have Z1 := Lib.hid z1
  have Z2 := Lib.hid z2
  have Z3 := Lib.hid z3
  clear z1 z2 z3
  go_enter Try.func51, Try.ntmps51
  go_wp2_with (with_reducible refine st_box ?_)
  refine StopOp.go rfl fun K hK => ?_
  refine wp_box (v := .agg #[.int .i64 kind, .int .u64 n, .int .i64 tk, .slice ao l.length cap]) (by rfl) ?_
  intro c w1 hc1 hc2 hm1 hB1
  simp only [put_some, List.set_cons_succ, List.set_cons_zero]
  refine hK _ _ ?_
  clear hK K
  have c0 : w1.cell? ⟨c, 0, none⟩ = some (.int .i64 kind) := hB1.cell' (i := 0) rfl
  have c1 : w1.cell? ⟨c, 1, none⟩ = some (.int .u64 n) := hB1.cell' (i := 1) rfl
  have c3 : w1.cell? ⟨c, 3, none⟩ = some (.slice ao l.length cap) := hB1.cell' (i := 3) rfl
  have hw1 := hw.ext hm1
  have hb1 := hb.ext hm1
  have hmg : Mod [g] w w1 := hm1.weak (by simp)
  clear hB1 hm1
  go_wp2_with (first
                | (go_at_call 22; refine (byte_any g xs _ _ hw1 (by omega) (by omega) (by omega)).mono ?_; rintro e w2 ⟨rfl, hw2, hm2⟩)
                | (go_at_call 15; refine (two_any g xs _ _ hw1 (by rw [IntKind.wrap_u16]; omega) (by rw [IntKind.wrap_u16]; omega) (by omega)).mono ?_; rintro e w2 ⟨rfl, hw2, hm2⟩)
                | (go_at_call 16; refine (four_any g xs _ _ hw1 (by omega) (by omega) (by omega)).mono ?_; rintro e w2 ⟨rfl, hw2, hm2⟩)
                | (go_at_call 17; refine (eight_any g xs _ _ hw1 (by omega) (by omega) (by omega)).mono ?_; rintro e w2 ⟨rfl, hw2, hm2⟩)
                | (go_at_call 21; refine (copy_any l _ _ hb1 (by omega)).mono ?_; rintro e w3 ⟨v3, rfl, hb3, _, hm3⟩; obtain ⟨ao3, cap3, rfl, _, _⟩ := hb3.bs.form)
                | (go_at_call 20; refine (put_any g xs l _ _ (hw1.ext hm3) hb3.bs (by omega)).mono ?_; rintro e w2 ⟨rfl, hw2, hm2⟩))
  all_goals go_end0
  all_goals first
    | (refine ⟨rfl, ?_, hmg.trans hm2⟩; rw [Z1.out] at hw2; have en : enc ⟨kind, n, tk, ao, cap, l⟩ = low (n % 256) 1 := by (unfold enc; simp_all)
       rw [en]; exact hw2)
    | (refine ⟨rfl, ?_, hmg.trans hm2⟩; rw [Z2.out] at hw2; have en : enc ⟨kind, n, tk, ao, cap, l⟩ = low (n % 65536) 2 := by (unfold enc; simp_all)
       rw [en]; exact hw2)
    | (refine ⟨rfl, ?_, hmg.trans hm2⟩; rw [Z3.out] at hw2; have en : enc ⟨kind, n, tk, ao, cap, l⟩ = low (n % 4294967296) 4 := by (unfold enc; simp_all)
       rw [en]; exact hw2)
    | (refine ⟨rfl, ?_, hmg.trans hm2⟩; rw [Int.toNat_natCast] at hw2; have en : enc ⟨kind, n, tk, ao, cap, l⟩ = low n 8 := by (unfold enc; simp_all)
       rw [en]; exact hw2)
    | (refine ⟨rfl, ?_, (hmg.ext hm3).trans hm2⟩; have en : enc ⟨kind, n, tk, ao, cap, l⟩ = l := by (unfold enc; simp_all)
       rw [en]; exact hw2)
    | (refine ⟨rfl, ?_, hmg⟩; have en : enc ⟨kind, n, tk, ao, cap, l⟩ = [] := by (unfold enc; simp_all)
       rw [en, List.append_nil]; exact hw1)
end Go.Proofs.Ytkedbphdflhhlaa
