import Derived.Test.YtfepggdljhiemaaGreatDoorGOe
import Derived.Deep.MidRow
import Derived.Test.YtfepggdljhiemaaGreatDoorGDs
set_option linter.unusedVariables false
set_option linter.unusedSimpArgs false
set_option maxRecDepth 100000
namespace Go.Proofs.YtfepggdljhiemaaGreatDoor
open Go.RowKit Gw

/-- a reader that is none -/
def Rn (w : World) (v : Value) : Prop := v = .pointer none ∨ ∃ r, v = .pointer (some ⟨r, 0, none⟩) ∧ Blk w r 276 [.pointer none]
theorem Rn.ext {w w' : World} {v : Value} (h : Rn w v) (hm : Mod [] w w') : Rn w' v := by
  rcases h with h | ⟨r, h, hB⟩
  · exact .inl h
  · exact .inr ⟨r, h, hB.ext hm⟩

end Go.Proofs.YtfepggdljhiemaaGreatDoor

namespace Go.Proofs.YtfepggdljhiemaaGreatDoor
open Go.RowKit Gw

theorem Rd.keep {w w' : World} {r q r1 q1 : Nat} {l l1 : List UInt8} {e e1 : Int} (h : Rd w r q l e) (h1 : Rd w r1 q1 l1 e1) (hm : Mod [q1] w w') (hr : r ≠ q1) (hq : q ≠ q1) : Rd w' r q l e := by
  obtain ⟨v, hB, hv⟩ := h.2
  obtain ⟨v1, hB1, hv1⟩ := h1.2
  obtain ⟨ao, cap, rfl, _, _⟩ := hv1.form
  exact ⟨h.1.mod hm (by simpa using hr), v, hB.mod hm (by simpa using hq), hv.keepAt hB1 (by simp) hm⟩
end Go.Proofs.YtfepggdljhiemaaGreatDoor

namespace Go.Proofs.YtfepggdljhiemaaGreatDoor
open Go.RowKit Gw

/-- a step of a script -/
structure Opr where
  kind : Int
  n : Nat
  tk : Int
  ao : Option Addr
  cap : Nat
  l : List UInt8
def Opr.v (o : Opr) : Value := .slice o.ao o.l.length o.cap
def opCells (o : Opr) : List Value := [.int .i64 o.kind, .int .u64 o.n, .int .i64 o.tk, o.v]
structure OkOp (w : World) (o : Opr) : Prop where
  b : Bs w o.v o.l
  n : o.n < 18446744073709551616
  k1 : -9223372036854775808 ≤ o.kind
  k2 : o.kind ≤ 9223372036854775807
  t1 : -9223372036854775808 ≤ o.tk
  t2 : o.tk ≤ 9223372036854775807
theorem OkOp.ext {w w' : World} {o : Opr} (h : OkOp w o) (hm : Mod [] w w') : OkOp w' o := { h with b := h.b.ext hm }
/-- a script -/
structure Oprs (w : World) (v : Value) (os : List Opr) : Prop where
  s : Sl w 4 v os.length (os.flatMap opCells)
  e : ∀ o ∈ os, OkOp w o
theorem Oprs.ext {w w' : World} {v : Value} {os : List Opr} (h : Oprs w v os) (hm : Mod [] w w') : Oprs w' v os := ⟨h.s.ext hm, fun o ho => (h.e o ho).ext hm⟩
theorem flatMap_at {f : Opr → List Value} (hf : ∀ o, (f o).length = 4) : ∀ (os : List Opr) (i j : Nat) (hi : i < os.length), j < 4 → (os.flatMap f)[i * 4 + j]? = (f os[i])[j]?
  | o :: os, 0, j, _, hj => by
    rw [List.flatMap_cons, List.getElem?_append_left (by rw [hf]; omega)]
    simp
  | o :: os, i + 1, j, hi, hj => by
    rw [List.flatMap_cons, List.getElem?_append_right (by rw [hf]; omega), hf]
    rw [show (i + 1) * 4 + j - 4 = i * 4 + j by omega, flatMap_at hf os i j (by simpa using hi) hj]
    simp
theorem Oprs.elem {w : World} {ao : Option Addr} {n cap : Nat} {os : List Opr} (h : Oprs w (.slice ao n cap) os) {i : Nat} (hi : i < os.length) :
    ∃ b o, ao = some ⟨b, o, none⟩ ∧ w.rangeAt b (o + i * 4) (opCells os[i]) := by
  obtain ⟨b, o, c, hv, _, _, hc⟩ := h.s.at (fun h0 => by
    have := flatMap_at (f := opCells) (fun _ => rfl) os i 0 hi (by omega)
    rw [h0] at this
    simp [opCells] at this)
  injection hv with e1
  refine ⟨b, o, e1, fun j u hu => ?_⟩
  have hj : j < 4 := by have := (List.getElem?_eq_some_iff.1 hu).1; simpa [opCells] using this
  have := hc (i * 4 + j) u (by rw [flatMap_at (f := opCells) (fun _ => rfl) os i j hi hj]; exact hu)
  rwa [← Nat.add_assoc] at this

/-- what a step puts -/
def enc (o : Opr) : List UInt8 :=
  if o.kind = 1 then low (o.n % 256) 1 else if o.kind = 2 then low (o.n % 65536) 2 else if o.kind = 3 then low (o.n % 4294967296) 4 else if o.kind = 4 then low o.n 8 else if o.kind = 5 then o.l else []

end Go.Proofs.YtfepggdljhiemaaGreatDoor

namespace Go.Proofs.YtfepggdljhiemaaGreatDoor
open Go.RowKit Gw

set_option maxHeartbeats 1000000 in
theorem refNumber_any (N k : Nat) (w : World) (hk : k ≤ 8) (hN : N < 18446744073709551616) :
    Calls Tryz.prog 191 #[.int .u64 N, .int .i64 k] w fun e w' => ∃ v, e = .returned v ∧ Ob w' v (low N k) ∧ New w v ∧ Mod [] w w' := by
  go_enter Tryz.func191, Tryz.ntmps191
  go_wp2_with fail
  go_loopw [0, 5, 6] (fun n out i wr => ∃ (j M : Nat) (ao : Option Addr) (cap : Nat), j ≤ k ∧ n = .int .u64 M ∧ RowKit.Hid (M = N / 256 ^ j) ∧ M < 18446744073709551616 ∧ out = .slice ao j cap ∧ i = .int .i64 j ∧ Mod [] w wr ∧ Ow wr 5 1 (.slice ao j cap) j (bv (low N j)) ∧ ∀ k ∈ blks (.slice ao j cap), w.heap.size ≤ k) (fun _ _ i _ => k - (intOf i).toNat)
  case atStart => exact ⟨0, N, none, 0, by omega, rfl, Lib.hid (by simp), hN, rfl, rfl, Mod.refl _ _, Ow.nil _ _ _, by simp [blks]⟩
  case round =>
    obtain ⟨j, M, ao, cap, hj, rfl, hM, hM2, rfl, rfl, hmr, hor, hnr⟩ := hrel
    by_cases hlt : j < k
    · have y0 : (j : Int) < k := by omega
      have y1 : (M : Int) ≤ 18446744073709551615 := by omega
      have y2 : (0 : Int) ≤ (M : Int) := by omega
      have y3 : (M : Int) % 256 = ((UInt8.ofNat M).toNat : Int) := by rw [UInt8.toNat_ofNat']; omega
      have Y3 := Lib.hid y3
      clear y3
      go_wp2_with (with_reducible refine st_bslice ?_)
      refine StopOp.go rfl fun K hK => ?_
      refine wp_bslice stB [.int .u8 ((M : Int) % 256)] rfl (by decide) (by rfl) (by simp [Value.cells]) ?_
      intro c w4 hc1 hc2 hm4 hB4
      simp only [put_some, List.set_cons_succ, List.set_cons_zero]
      refine hK _ _ ?_
      clear hK K
      simp only [Y3.out] at hB4
      have hb4 : Bs w4 (.slice (some ⟨c, 0, none⟩) 1 1) [UInt8.ofNat M] := Bs.of_blk (l := [UInt8.ofNat M]) (rest := []) hB4 (by simp) (by omega)
      have hor4 := hor.ext hm4
      go_wp2_with (with_reducible refine st_append ?_)
      refine StopOp.go rfl fun K hK => ?_
      refine wp_append_ow stB (by rfl) (by rfl) hor4 hb4 (bv_one _) (by simp; omega) (by simp; omega) ?_
      intro v5 w5 ho5 hm5 hb5
      simp only [put_some, List.set_cons_succ, List.set_cons_zero]
      refine hK _ _ ?_
      clear hK K
      rw [List.length_singleton] at ho5
      obtain ⟨ao5, cap5, rfl, _, _⟩ := ho5.sl.form
      have s4 := hm4.size
      have sr := hmr.size
      go_wp2_with fail
      go_roundw
      case rel =>
        refine ⟨j + 1, M / 256, ao5, cap5, by omega, by go_num, Lib.hid (by rw [hM.out, Nat.div_div_eq_div_mul, Nat.pow_succ]), by omega, rfl, by go_num, (hmr.ext hm4).fresh hm5 hnr, ?_, fun k hk => (hb5 k hk).elim (hnr k) fun h => by omega⟩
        rw [low_succ, bv_append, ← hM.out]
        exact ho5
      case measure => simp [intOf]; omega
    · obtain rfl : j = k := by omega
      go_wp2_with fail
      go_ret
      refine ⟨_, rfl, ?_, hnr, hmr⟩
      unfold Ob
      rw [low_length]
      exact hor
end Go.Proofs.YtfepggdljhiemaaGreatDoor

namespace Go.Proofs.YtfepggdljhiemaaGreatDoor
open Go.RowKit Gw

theorem val_drop (l : List UInt8) (k : Nat) (hk : k < l.length) : val (l.drop k) = val (l.drop (k + 1)) * 256 + l[k].toNat := by
  rw [List.drop_eq_getElem_cons hk, val_cons]; omega
set_option maxHeartbeats 1000000 in
theorem refValue_any (l : List UInt8) (v : Value) (w : World) (hv : Bs w v l) (hl : l.length ≤ 8) :
    Calls Tryz.prog 200 #[v] w fun e w' => e = .returned (.int .u64 (val l)) ∧ w = w' := by
  obtain ⟨ao, cap, rfl, hc1, hc2⟩ := hv.form
  go_enter Tryz.func200, Tryz.ntmps200
  go_wp2_with fail
  go_loop [3, 4] (fun n i => ∃ k : Nat, k ≤ l.length ∧ n = .int .u64 (val (l.drop k)) ∧ i = .int .i64 ((k : Int) - 1)) (fun _ i => (intOf i + 1).toNat)
  case atStart => exact ⟨l.length, Nat.le_refl _, by rw [List.drop_length]; rfl, rfl⟩
  case round =>
    obtain ⟨k, hk, rfl, rfl⟩ := hrel
    by_cases hlt : 0 < k
    · obtain ⟨j, rfl⟩ : ∃ j, k = j + 1 := ⟨k - 1, by omega⟩
      obtain ⟨b, o, rfl, hc⟩ := hv.byte (show j < l.length by omega)
      have hd := val_drop l j (by omega)
      have hlt2 := val_lt (l.drop j)
      have hp : (256 : Nat) ^ (l.drop j).length ≤ 256 ^ 8 := Nat.pow_le_pow_right (by omega) (by rw [List.length_drop]; omega)
      have h8 : (256 : Nat) ^ 8 = 18446744073709551616 := by decide
      rw [hd] at hlt2
      have HD := Lib.hid hd
      clear hd
      obtain ⟨V, hV⟩ : ∃ V, V = val (l.drop (j + 1)) := ⟨_, rfl⟩
      rw [← hV] at hlt2 ⊢
      have HV := Lib.hid hV
      have ht := l[j].toNat_lt
      have y1 : (V : Int) * 256 + l[j].toNat ≤ 18446744073709551615 := by omega
      have y2 : (0 : Int) ≤ (V : Int) * 256 := by omega
      have y3 : (V : Int) * 256 ≤ 18446744073709551615 := by omega
      have y4 : (((j + 1 : Nat) : Int) - 1) = (j : Int) := by omega
      rw [y4]
      clear hV hp h8 hlt2 y4
      have y5 : (0 : Int) ≤ j := by omega
      go_wp2_with fail
      go_round
      case rel => exact ⟨j, by omega, by rw [HD.out, ← HV.out]; go_num, rfl⟩
      case measure => simp [intOf]
    · obtain rfl : k = 0 := by omega
      go_wp2_with fail
      go_ret
      exact ⟨rfl, rfl⟩

end Go.Proofs.YtfepggdljhiemaaGreatDoor
