import Derived.Test.YtkedbphdflhhlaaProg
import Derived.Test.YtkedbphdflhhlaaOps
import Derived.WalkSpells
import Derived.WalkLawsBesides
import Derived.Lib.Hide
set_option linter.unusedVariables false
set_option linter.unusedSimpArgs false
set_option maxRecDepth 100000
namespace Go.Proofs.Ytkedbphdflhhlaa
open Go.RowKit Gw
theorem stB : ST Try.prog 23 5 (.int .u8 0) 1 1 := ⟨Try.underlying23, by kernel_rfl, rfl, by decide⟩

/-- bytes as cells -/
def bv (l : List UInt8) : List Value := l.map fun b => .int .u8 b.toNat
theorem bv_one (l : List UInt8) : ∀ u ∈ bv l, u.oneCell' = true := by
  intro u hu
  obtain ⟨b, _, rfl⟩ := List.mem_map.1 hu
  rfl
theorem bv_length (l : List UInt8) : (bv l).length = l.length := by simp [bv]
theorem bv_append (l m : List UInt8) : bv (l ++ m) = bv l ++ bv m := by simp [bv]

/-- a slice of bytes -/
def Bs (w : World) (v : Value) (l : List UInt8) : Prop := Sl w 1 v l.length (bv l)

theorem not_bv {c : Value} {l : List UInt8} (h : ∀ n, c ≠ .int .u8 n) : c ∉ bv l := by
  intro hc
  obtain ⟨b, _, rfl⟩ := List.mem_map.1 hc
  exact h _ rfl
theorem Bs.keepAt {w w' : World} {v : Value} {l : List UInt8} {g : Nat} {t : TypeId} {cs : List Value} (h : Bs w v l) (hb : Blk w g t cs) (hk : ∀ c ∈ cs, ∀ n, c ≠ .int .u8 n) (hm : Mod [g] w w') : Bs w' v l :=
  Sl.keepAt h hb (fun c hc => not_bv (hk c hc)) hm

/-- a writer -/
def Wr (w : World) (g : Nat) (l : List UInt8) : Prop := ∃ v, Blk w g 25 [v] ∧ Bs w v l

theorem Wr.ext {w w' : World} {g : Nat} {l : List UInt8} (h : Wr w g l) (hm : Mod [] w w') : Wr w' g l := by
  obtain ⟨v, hB, hv⟩ := h
  exact ⟨v, hB.ext hm, Sl.ext hv hm⟩
theorem Bs.ext {w w' : World} {v : Value} {l : List UInt8} (h : Bs w v l) (hm : Mod [] w w') : Bs w' v l := Sl.ext h hm
/-- a block whose first cells are bytes -/
theorem Bs.of_blk {w : World} {b : Nat} {l : List UInt8} {rest : List Value} {c : Nat} (h : Blk w b 5 (bv l ++ rest)) (hc : l.length ≤ c) (hm : c ≤ 9223372036854775807) : Bs w (.slice (some ⟨b, 0, none⟩) l.length c) l := by
  refine ⟨_, _, rfl, by simp [bv_length], hc, hm, (fun h => by cases h), fun ad had => ?_⟩
  cases had
  refine ⟨fun _ => rfl, fun j u hu => ?_⟩
  rw [h.cell, Nat.zero_add, List.getElem?_append_left]
  · exact hu
  · exact (List.getElem?_eq_some_iff.1 hu).1

/-- a writer, its list told -/
def Wv (w : World) (g : Nat) (v : Value) (l : List UInt8) : Prop := Blk w g 25 [v] ∧ Bs w v l
/-- what every method that puts leaves, and where the list then lies -/
def PutV (w : World) (g : Nat) (v : Value) (xs l : List UInt8) (e : Ending) (w' : World) : Prop :=
  e = .returned (.tuple #[]) ∧ ∃ v', Wv w' g v' l ∧ ((∀ k ∈ blks v', k ∈ blks v) ∧ l = xs ∨ ∀ k ∈ blks v', w.heap.size ≤ k) ∧ Mod [g] w w'
/-- what every method that puts leaves -/
def PutPost (w : World) (g : Nat) (l : List UInt8) (e : Ending) (w' : World) : Prop := e = .returned (.tuple #[]) ∧ Wr w' g l ∧ Mod [g] w w'
theorem of_v {P : Program} {f : FuncId} {args : Array Value} {w : World} {g : Nat} {xs l : List UInt8} (h : ∀ v, Wv w g v xs → Calls P f args w (PutV w g v xs l)) (hw : Wr w g xs) : Calls P f args w (PutPost w g l) := by
  obtain ⟨v, hv⟩ := hw
  exact (h v hv).mono fun e w' ⟨h1, v', h2, _, h3⟩ => ⟨h1, ⟨v', h2⟩, h3⟩

set_option maxRecDepth 100000 in
set_option maxHeartbeats 400000 in
theorem add_v (g : Nat) (v : Value) (xs ys : List UInt8) (bvv : Value) (w : World) (hw : Wv w g v xs) (hb : Bs w bvv ys) (hn : xs.length + ys.length ≤ 140737488355328) :
    Calls Try.prog 71 #[.pointer (some ⟨g, 0, none⟩), bvv] w (PutV w g v xs (xs ++ ys)) := by
  obtain ⟨hB, hv⟩ := hw
  obtain ⟨ao, cap, rfl, hnc, hcap⟩ := hv.form
  have hc0 := hB.cell' (i := 0) rfl
  have l0 : (xs.length : Int) ≤ 9223372036854775807 := by omega
  go_enter Try.func71, Try.ntmps71
  go_wp2
  refine wp_region_T [⟨0, true, []⟩, ⟨1, true, []⟩, ⟨2, true, []⟩, ⟨3, true, []⟩, ⟨4, true, []⟩, ⟨5, true, []⟩, ⟨6, true, []⟩, ⟨7, true, []⟩, ⟨8, true, []⟩, ⟨9, true, []⟩, ⟨10, true, []⟩, ⟨11, true, []⟩, ⟨12, true, []⟩, ⟨13, true, []⟩, ⟨14, true, []⟩, ⟨15, true, []⟩, ⟨16, true, []⟩, ⟨17, false, []⟩, ⟨18, true, []⟩, ⟨19, true, []⟩, ⟨20, false, []⟩] (by kernel_rfl) (by kernel_rfl) ?_
  go_wp2_with (first | (refine wpT_q rfl rfl (fun K hK => ?_)) | (refine wpT_nil ?_) | (refine wpT_skip rfl rfl ?_))
  refine wpT_e0 rfl rfl (fun K hK => ?_)
  refine wp_append_cp stB (by rfl) (by rfl) hv.clip hb (bv_one ys) (by omega) (by omega) (by omega) ?_
  intro v' w1 hv1 hm1 hz1 hn1
  have hloc : (∀ k ∈ blks v', k ∈ blks (.slice ao xs.length cap)) ∧ xs ++ ys = xs ∨ ∀ k ∈ blks v', w.heap.size ≤ k := by
    by_cases h0 : ys.length = 0
    · refine .inl ⟨fun k hk => ?_, by rw [List.eq_nil_of_length_eq_zero h0, List.append_nil]⟩
      rw [(hz1 h0).1] at hk
      cases ao with
      | none => simp [blks] at hk
      | some ad => simpa [blks] using hk
    · exact .inr (fun k hk => by have := (hn1 h0).2 k hk; simpa using this)
  clear hz1 hn1
  simp only [put_some, List.set_cons_succ, List.set_cons_zero]
  refine hK _ _ ?_
  clear hK K
  go_wp2_with (first | (refine wpT_q rfl rfl (fun K hK => ?_)) | (refine wpT_nil ?_) | (refine wpT_skip rfl rfl ?_))
  refine wpT_e0 rfl rfl (fun K hK => ?_)
  refine wp_store1 (by kernel_rfl) (by rfl) (by rfl) hv1.one (hB.ext ((Mod.drew [] w).ext hm1)) (by simp) ?_
  intro w2 hm2 hB2
  refine hK _ _ ?_
  clear hK K
  go_wp2_with (first | (refine wpT_q rfl rfl (fun K hK => ?_)) | (refine wpT_nil ?_) | (refine wpT_skip rfl rfl ?_))
  have hv1' : Bs w1 v' (xs ++ ys) := by unfold Bs; rw [bv_append, List.length_append]; exact hv1
  go_end0
  exact ⟨rfl, v', ⟨by simpa using hB2, hv1'.keepAt (hB.ext ((Mod.drew [] w).ext hm1)) (by simp) hm2⟩, hloc, (((Mod.drew [g] w).ext hm1).trans hm2)⟩
theorem add_any (g : Nat) (xs ys : List UInt8) (bvv : Value) (w : World) (hw : Wr w g xs) (hb : Bs w bvv ys) (hn : xs.length + ys.length ≤ 140737488355328) :
    Calls Try.prog 71 #[.pointer (some ⟨g, 0, none⟩), bvv] w (PutPost w g (xs ++ ys)) := of_v (fun v h => add_v g v xs ys bvv w h hb hn) hw
end Go.Proofs.Ytkedbphdflhhlaa
