import Derived.Test.YtfepggdljhiemaaDoorGOe
import Derived.Deep.MidRow
import Derived.Test.YtfepggdljhiemaaDoorGDs
set_option linter.unusedVariables false
set_option linter.unusedSimpArgs false
set_option maxRecDepth 100000
namespace Go.Proofs.YtfepggdljhiemaaDoor
open Go.RowKit Gw

/-- what a call that only makes new memory leaves -/
def Quiet (w : World) (e : Ending) (w' : World) : Prop := e = .returned (.tuple #[]) ∧ Mod [] w w'

set_option maxHeartbeats 400000 in
theorem add_nil (v : Value) (w : World) : Calls Tryd.prog 74 #[.pointer none, v] w (Quiet w) := by
  go_enter Tryd.func74, Tryd.ntmps74
  go_wp2_with fail
  go_end0
  exact ⟨rfl, Mod.refl _ _⟩

set_option maxHeartbeats 400000 in
theorem put_nil (v : Value) (w : World) : Calls Tryd.prog 52 #[.pointer none, v] w (Quiet w) := by
  go_enter Tryd.func52, Tryd.ntmps52
  go_wp2_with (go_at_call 74; refine (add_nil _ _).mono ?_; rintro e w1 ⟨rfl, h1⟩)
  go_end0
  exact ⟨rfl, h1⟩

set_option maxHeartbeats 400000 in
theorem number_nil (n k : Nat) (w : World) (hk : k ≤ 8) (hn : n < 18446744073709551616) :
    Calls Tryd.prog 73 #[.pointer none, .int .u64 n, .int .i64 k] w (Quiet w) := by
  go_enter Tryd.func73, Tryd.ntmps73
  go_wp2_with (with_reducible refine st_make ?_)
  refine StopOp.go rfl fun K hK => ?_
  refine wp_make stB (by rfl) (by rfl) rfl rfl (Nat.le_refl _) (by omega) (by omega) ?_
  intro b w1 hb1 hb2 hm1 hB1
  simp only [put_some, List.set_cons_succ, List.set_cons_zero]
  refine hK _ _ ?_
  clear hK K
  go_wp2_with fail
  go_loopw [12] (fun i wr => ∃ j : Nat, j ≤ k ∧ i = .int .i64 j ∧ Mod [] w wr ∧ Blk wr b 5 (bv (low n j) ++ List.replicate (k - j) (.int .u8 0))) (fun i _ => k - (intOf i).toNat)
  case atStart => exact ⟨0, Nat.zero_le _, rfl, hm1, by simpa [low, bv, Value.cells, List.flatten_replicate_singleton] using hB1⟩
  case round =>
    obtain ⟨j, hj, rfl, hmr, hBr⟩ := hrel
    by_cases hlt : j < k
    · go_wp2_with (with_reducible refine st_store ?_)
      refine StopOp.go rfl fun K hK => ?_
      refine wp_store1 (by kernel_rfl) (by rfl) (u := .int .u8 ((n : Int) / 2 ^ (8 * j) % 256)) (by rfl) ⟨rfl, rfl⟩ hBr (by simp [bv_length, low_length]; omega) ?_
      intro w2 hm2 hB2
      refine hK _ _ ?_
      clear hK K
      rw [low_set n k j hlt] at hB2
      go_wp2_with fail
      go_roundw
      case rel => exact ⟨j + 1, by omega, by go_num, hmr.fresh hm2 (by simpa using hb1), hB2⟩
      case measure => simp [intOf]; omega
    · obtain rfl : j = k := by omega
      go_wp2_with (go_at_call 74; refine (add_nil _ _).mono ?_; rintro e w2 ⟨rfl, hm2⟩)
      go_end0
      exact ⟨rfl, hmr.ext hm2⟩
theorem number_nili (n : Int) (k : Nat) (kk : Int) (w : World) (hkk : kk = k) (hk : k ≤ 8) (h0 : 0 ≤ n) (hn : n ≤ 18446744073709551615) :
    Calls Tryd.prog 73 #[.pointer none, .int .u64 n, .int .i64 kk] w (Quiet w) := by
  subst hkk
  obtain ⟨m, rfl⟩ := Int.eq_ofNat_of_zero_le h0
  exact number_nil m k w hk (by omega)

set_option maxHeartbeats 400000 in
theorem two_nil (n : Int) (w : World) (h0 : 0 ≤ n) (hn : n ≤ 65535) :
    Calls Tryd.prog 50 #[.pointer none, .int .u16 n] w (Quiet w) := by
  go_enter Tryd.func50, Tryd.ntmps50
  go_wp2_with (go_at_call 73; refine (number_nili n 2 _ _ rfl (by omega) h0 (by omega)).mono ?_; rintro e w1 ⟨rfl, h1⟩)
  go_end0
  exact ⟨rfl, h1⟩

set_option maxHeartbeats 400000 in
theorem four_nil (n : Int) (w : World) (h0 : 0 ≤ n) (hn : n ≤ 4294967295) :
    Calls Tryd.prog 53 #[.pointer none, .int .u32 n] w (Quiet w) := by
  go_enter Tryd.func53, Tryd.ntmps53
  go_wp2_with (go_at_call 73; refine (number_nili n 4 _ _ rfl (by omega) h0 (by omega)).mono ?_; rintro e w1 ⟨rfl, h1⟩)
  go_end0
  exact ⟨rfl, h1⟩

set_option maxHeartbeats 400000 in
theorem eight_nil (n : Int) (w : World) (h0 : 0 ≤ n) (hn : n ≤ 18446744073709551615) :
    Calls Tryd.prog 51 #[.pointer none, .int .u64 n] w (Quiet w) := by
  go_enter Tryd.func51, Tryd.ntmps51
  go_wp2_with (go_at_call 73; refine (number_nili n 8 _ _ rfl (by omega) h0 (by omega)).mono ?_; rintro e w1 ⟨rfl, h1⟩)
  go_end0
  exact ⟨rfl, h1⟩

set_option maxHeartbeats 400000 in
theorem out_nil (w : World) : Calls Tryd.prog 55 #[.pointer none] w fun e w' => e = .returned (.slice none 0 0) ∧ w = w' := by
  go_enter Tryd.func55, Tryd.ntmps55
  go_wp2_with fail
  go_ret
  exact ⟨rfl, rfl⟩

/-- a reader that is none -/
def Rn (w : World) (v : Value) : Prop := v = .pointer none ∨ ∃ r, v = .pointer (some ⟨r, 0, none⟩) ∧ Blk w r 154 [.pointer none]
theorem Rn.ext {w w' : World} {v : Value} (h : Rn w v) (hm : Mod [] w w') : Rn w' v := by
  rcases h with h | ⟨r, h, hB⟩
  · exact .inl h
  · exact .inr ⟨r, h, hB.ext hm⟩

set_option maxHeartbeats 400000 in
theorem made_none (v : Value) (w : World) (h : Rn w v) : Calls Tryd.prog 97 #[v] w fun e w' => e = .returned (.bool false) ∧ w = w' := by
  rcases h with rfl | ⟨r, rfl, hB⟩
  · go_enter Tryd.func97, Tryd.ntmps97
    go_wp2_with fail
    go_ret
    exact ⟨rfl, rfl⟩
  · have c0 := hB.cell' (i := 0) rfl
    go_enter Tryd.func97, Tryd.ntmps97
    go_wp2_with fail
    go_ret
    exact ⟨rfl, rfl⟩
set_option maxHeartbeats 400000 in
theorem next_none (v : Value) (k : Int) (w : World) (h : Rn w v) : Calls Tryd.prog 96 #[v, .int .i64 k] w fun e w' => e = .returned (.int .u64 0) ∧ w = w' := by
  go_enter Tryd.func96, Tryd.ntmps96
  go_wp2_with (go_at_call 97; refine (made_none _ _ h).mono ?_; rintro e w1 ⟨rfl, rfl⟩)
  go_ret
  exact ⟨rfl, rfl⟩

set_option maxHeartbeats 400000 in
theorem rtwo_none (v : Value) (w : World) (h : Rn w v) : Calls Tryd.prog 91 #[v] w fun e w' => e = .returned (.int .u16 0) ∧ w = w' := by
  go_enter Tryd.func91, Tryd.ntmps91
  go_wp2_with (go_at_call 96; refine (next_none _ _ _ h).mono ?_; rintro e w1 ⟨rfl, rfl⟩)
  go_ret
  exact ⟨rfl, rfl⟩

set_option maxHeartbeats 400000 in
theorem rfour_none (v : Value) (w : World) (h : Rn w v) : Calls Tryd.prog 95 #[v] w fun e w' => e = .returned (.int .u32 0) ∧ w = w' := by
  go_enter Tryd.func95, Tryd.ntmps95
  go_wp2_with (go_at_call 96; refine (next_none _ _ _ h).mono ?_; rintro e w1 ⟨rfl, rfl⟩)
  go_ret
  exact ⟨rfl, rfl⟩

set_option maxHeartbeats 400000 in
theorem reight_none (v : Value) (w : World) (h : Rn w v) : Calls Tryd.prog 93 #[v] w fun e w' => e = .returned (.int .u64 0) ∧ w = w' := by
  go_enter Tryd.func93, Tryd.ntmps93
  go_wp2_with (go_at_call 96; refine (next_none _ _ _ h).mono ?_; rintro e w1 ⟨rfl, rfl⟩)
  go_ret
  exact ⟨rfl, rfl⟩

set_option maxHeartbeats 400000 in
theorem rtake_none (v : Value) (n : Int) (w : World) (h : Rn w v) : Calls Tryd.prog 94 #[v, .int .i64 n] w fun e w' => e = .returned (.slice none 0 0) ∧ w = w' := by
  go_enter Tryd.func94, Tryd.ntmps94
  go_wp2_with (go_at_call 97; refine (made_none _ _ h).mono ?_; rintro e w1 ⟨rfl, rfl⟩)
  go_ret
  exact ⟨rfl, rfl⟩
set_option maxHeartbeats 400000 in
theorem err_none (v : Value) (w : World) (h : Rn w v) : Calls Tryd.prog 92 #[v] w fun e w' => e = .returned (.int .i64 1) ∧ w = w' := by
  go_enter Tryd.func92, Tryd.ntmps92
  go_wp2_with (go_at_call 97; refine (made_none _ _ h).mono ?_; rintro e w1 ⟨rfl, rfl⟩)
  go_ret
  exact ⟨rfl, rfl⟩
end Go.Proofs.YtfepggdljhiemaaDoor

namespace Go.Proofs.YtfepggdljhiemaaDoor
open Go.RowKit Gw

theorem Rd.keep {w w' : World} {r q r1 q1 : Nat} {l l1 : List UInt8} {e e1 : Int} (h : Rd w r q l e) (h1 : Rd w r1 q1 l1 e1) (hm : Mod [q1] w w') (hr : r ≠ q1) (hq : q ≠ q1) : Rd w' r q l e := by
  obtain ⟨v, hB, hv⟩ := h.2
  obtain ⟨v1, hB1, hv1⟩ := h1.2
  obtain ⟨ao, cap, rfl, _, _⟩ := hv1.form
  exact ⟨h.1.mod hm (by simpa using hr), v, hB.mod hm (by simpa using hq), hv.keepAt hB1 (by simp) hm⟩
theorem rtake_val (r q : Nat) (l : List UInt8) (err n : Int) (l' : List UInt8) (err' : Int) (w : World) (h : Rd w r q l err) (hn1 : -9223372036854775808 ≤ n) (hn2 : n ≤ 9223372036854775807) (hl : l.length ≤ 140737488355328) (hl' : tkRest l err n = l') (he : tkErr l err n = err') :
    Calls Tryd.prog 94 #[.pointer (some ⟨r, 0, none⟩), .int .i64 n] w fun e w' => ∃ ao k cap, e = .returned (.slice ao k cap) ∧ Rd w' r q l' err' ∧ Mod [q] w w' :=
  (rtake_any r q l err n w h hn1 hn2 hl).mono fun e w' ⟨v, h1, h2, _, h4, h5⟩ => by
    obtain ⟨ao, cap, rfl, _, _⟩ := h2.bs.form
    exact ⟨ao, _, cap, h1, by rw [← hl', ← he]; exact h4, h5⟩

end Go.Proofs.YtfepggdljhiemaaDoor

namespace Go.Proofs.YtfepggdljhiemaaDoor
open Go.RowKit Gw

theorem st_load {P : Program} {ops : Array Oper} {a : Act} {w : World} {Q : Exit → Act → World → Prop} {rest : List Oper} {d : Option Tmp} {ty : TypeId} {ps : String} {af : Array Edge} {gd : Option (Nat × Bool)} (t : TypeId) {x : Operand}
    (h : StopOp P ops Q ({ dst := d, op := .load t x, type := ty, pos := ps, after := af, guard := gd } :: rest) a w) : wpList P ops Q ({ dst := d, op := .load t x, type := ty, pos := ps, after := af, guard := gd } :: rest) a w := h

/-- a step of a script -/
structure Opr where
  kind : Int
  n : Nat
  tk : Int
  ao : Option Addr
  cap : Nat
  l : List UInt8
def Opr.v (o : Opr) : Value := .slice o.ao o.l.length o.cap
def opCells (o : Opr) : List Value := [.int .i64 o.kind, .int .u64 o.n, .int .i64 o.tk, o.v]
structure OkOp (w : World) (o : Opr) : Prop where
  b : Bs w o.v o.l
  n : o.n < 18446744073709551616
  k1 : -9223372036854775808 ≤ o.kind
  k2 : o.kind ≤ 9223372036854775807
  t1 : -9223372036854775808 ≤ o.tk
  t2 : o.tk ≤ 9223372036854775807
theorem OkOp.ext {w w' : World} {o : Opr} (h : OkOp w o) (hm : Mod [] w w') : OkOp w' o := { h with b := h.b.ext hm }
/-- a script -/
structure Oprs (w : World) (v : Value) (os : List Opr) : Prop where
  s : Sl w 4 v os.length (os.flatMap opCells)
  e : ∀ o ∈ os, OkOp w o
theorem Oprs.ext {w w' : World} {v : Value} {os : List Opr} (h : Oprs w v os) (hm : Mod [] w w') : Oprs w' v os := ⟨h.s.ext hm, fun o ho => (h.e o ho).ext hm⟩
theorem flatMap_at {f : Opr → List Value} (hf : ∀ o, (f o).length = 4) : ∀ (os : List Opr) (i j : Nat) (hi : i < os.length), j < 4 → (os.flatMap f)[i * 4 + j]? = (f os[i])[j]?
  | o :: os, 0, j, _, hj => by
    rw [List.flatMap_cons, List.getElem?_append_left (by rw [hf]; omega)]
    simp
  | o :: os, i + 1, j, hi, hj => by
    rw [List.flatMap_cons, List.getElem?_append_right (by rw [hf]; omega), hf]
    rw [show (i + 1) * 4 + j - 4 = i * 4 + j by omega, flatMap_at hf os i j (by simpa using hi) hj]
    simp
theorem Oprs.elem {w : World} {ao : Option Addr} {n cap : Nat} {os : List Opr} (h : Oprs w (.slice ao n cap) os) {i : Nat} (hi : i < os.length) :
    ∃ b o, ao = some ⟨b, o, none⟩ ∧ w.rangeAt b (o + i * 4) (opCells os[i]) := by
  obtain ⟨b, o, c, hv, _, _, hc⟩ := h.s.at (fun h0 => by
    have := flatMap_at (f := opCells) (fun _ => rfl) os i 0 hi (by omega)
    rw [h0] at this
    simp [opCells] at this)
  injection hv with e1
  refine ⟨b, o, e1, fun j u hu => ?_⟩
  have hj : j < 4 := by have := (List.getElem?_eq_some_iff.1 hu).1; simpa [opCells] using this
  have := hc (i * 4 + j) u (by rw [flatMap_at (f := opCells) (fun _ => rfl) os i j hi hj]; exact hu)
  rwa [← Nat.add_assoc] at this

/-- what a step puts -/
def enc (o : Opr) : List UInt8 :=
  if o.kind = 1 then low (o.n % 256) 1 else if o.kind = 2 then low (o.n % 65536) 2 else if o.kind = 3 then low (o.n % 4294967296) 4 else if o.kind = 4 then low o.n 8 else if o.kind = 5 then o.l else []

end Go.Proofs.YtfepggdljhiemaaDoor

namespace Go.Proofs.YtfepggdljhiemaaDoor
open Go.RowKit Gw

end Go.Proofs.YtfepggdljhiemaaDoor

namespace Go.Proofs.YtfepggdljhiemaaDoor
open Go.RowKit Gw

theorem val_drop (l : List UInt8) (k : Nat) (hk : k < l.length) : val (l.drop k) = val (l.drop (k + 1)) * 256 + l[k].toNat := by
  rw [List.drop_eq_getElem_cons hk, val_cons]; omega
end Go.Proofs.YtfepggdljhiemaaDoor
