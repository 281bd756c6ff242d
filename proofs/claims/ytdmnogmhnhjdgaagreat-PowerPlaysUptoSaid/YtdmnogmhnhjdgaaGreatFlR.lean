import Derived.Test.YtdmnogmhnhjdgaaGreatFlatB
import Derived.Test.YtdmnogmhnhjdgaaGreatGOe
import Derived.Test.YtdmnogmhnhjdgaaGreatTkL
import Derived.Lib.ConvBytes
/-! Lists of rows: marks of rows; what is known of them. -/
set_option linter.unusedVariables false
set_option linter.unusedSimpArgs false
set_option maxRecDepth 100000
namespace Go.Proofs.YtdmnogmhnhjdgaaGreat
open Go.RowKit Gw

theorem stRR : ST Tryz.prog 77 38 (.slice none 0 0) 1 24 := ⟨Tryz.underlying77, by kernel_rfl, rfl, by decide⟩
theorem ne_r1 : 32 ≠ 38 := by decide
theorem ne_b2 : 5 ≠ 38 := by decide
/-- bytes of a number -/
def txb (x : Int) : UInt8 := UInt8.ofNat (x % 256).toNat
/-- the mark of a row -/
def tx (k i : Int) : List UInt8 := [35, txb k, txb (k / 256), txb (k / 65536), 47, txb i, txb (i / 256), txb (i / 65536)]
theorem txb_eq (x : Int) : ((txb x).toNat : Int) = x % 256 := by
  unfold txb
  have h1 : 0 ≤ x % 256 := Int.emod_nonneg _ (by decide)
  have h2 : x % 256 < 256 := Int.emod_lt_of_pos _ (by decide)
  rw [UInt8.toNat_ofNat']
  omega
/-- bytes in a block of bytes, of whatever mark -/
structure Fz (w : World) (v : Value) (l : List UInt8) : Prop where
  b : Bs w v l
  f : ∀ g ∈ blks v, ∃ c f, w.heap[g]? = some (.cells c 5 f)
section
variable {w w' : World} {v u : Value} {l : List UInt8} {L : List Nat} {g n : Nat} {e : TypeId} {xs : List Value}
theorem Fz.lt (h : Fz w v l) : ∀ g ∈ blks v, g < w.heap.size := fun g hg => by
  obtain ⟨c, f, e⟩ := h.f g hg
  exact (Array.getElem?_eq_some_iff.1 e).1
theorem Fz.mod (h : Fz w v l) (hm : Mod L w w') (hL : ∀ g ∈ blks v, g ∉ L) : Fz w' v l :=
  ⟨Sl.mod h.b hm hL, fun g hg => by
    obtain ⟨c, f, e⟩ := h.f g hg
    exact ⟨c, f, (hm.block g (h.lt g hg) (hL g hg)).trans e⟩⟩
theorem Fz.ext (h : Fz w v l) (hm : Mod [] w w') : Fz w' v l := h.mod hm (by simp)
theorem Fz.ne (h : Fz w v l) (hB : Blk w g e xs) (hne : 5 ≠ e) : g ∉ blks v := fun hg => by
  obtain ⟨c, f, h1⟩ := h.f g hg
  unfold Blk at hB
  rw [hB] at h1
  injection h1 with h1
  injection h1 with _ h2
  exact hne h2.symm
theorem Fz.apart (h : Fz w v l) (ho : Ow w e 1 u n xs) (hne : 5 ≠ e) : ∀ b ∈ blks v, b ∉ blks u := fun b hb => by
  rcases ho.blk with ⟨rfl, _⟩ | ⟨g, c, r, rfl, hB, _⟩
  · simp [blks]
  · intro hb2
    obtain rfl : b = g := by simpa [blks] using hb2
    exact h.ne hB hne hb
theorem Fz.one (h : Fz w v l) : v.oneCell' = true := by
  obtain ⟨ao, cap, rfl, _, _⟩ := h.b.form
  rfl
/-- a list of marks -/
def Mk (w : World) (k : Int) (l : List Value) : Prop := ∀ (i : Nat) (h : i < l.length), Fz w l[i] (tx k i)
theorem Mk.ext {k : Int} (h : Mk w k xs) (hm : Mod [] w w') : Mk w' k xs := fun i hi => (h i hi).ext hm
theorem Mk.blk {k : Int} {ys : List Value} (h : Mk w k xs) (hm : Mod [g] w w') (hB : Blk w g e ys) (hne : 5 ≠ e) : Mk w' k xs := fun i hi =>
  (h i hi).mod hm fun b hb hbg => (h i hi).ne hB hne (by have e : b = g := (by simpa using hbg); exact e ▸ hb)
theorem Mk.own {k : Int} {ys : List Value} (h : Mk w k xs) (hm : Mod (blks u) w w') (ho : Ow w e 1 u n ys) (hne : 5 ≠ e) : Mk w' k xs := fun i hi =>
  (h i hi).mod hm ((h i hi).apart ho hne)
theorem Mk.set {k : Int} {i : Nat} (h : Mk w k (xs.take i)) (hi : i < xs.length) (hv : Fz w v (tx k i)) : Mk w k ((xs.set i v).take (i + 1)) := fun j hj => by
  rw [List.length_take, List.length_set] at hj
  rw [List.getElem_take]
  by_cases e : i = j
  · subst e
    rw [List.getElem_set_self]
    exact hv
  · rw [List.getElem_set_ne e]
    have := h j (by rw [List.length_take]; omega)
    rw [List.getElem_take] at this
    exact this
theorem Mk.snoc {k : Int} (h : Mk w k xs) (hv : Fz w v (tx k xs.length)) : Mk w k (xs ++ [v]) := fun j hj => by
  rw [List.length_append, List.length_singleton] at hj
  by_cases e : j < xs.length
  · rw [List.getElem_append_left e]
    exact h j e
  · obtain rfl : j = xs.length := by omega
    rw [List.getElem_append_right (Nat.le_refl _)]
    simpa using hv
/-- a row of marks -/
def RowOk (w : World) (v : Value) (m : Nat) (k : Int) : Prop := ∃ c, Ow w 32 1 v m c ∧ Mk w k c
theorem RowOk.ext {m : Nat} {k : Int} (h : RowOk w v m k) (hm : Mod [] w w') : RowOk w' v m k := by
  obtain ⟨c, h1, h2⟩ := h
  exact ⟨c, h1.ext hm, h2.ext hm⟩
theorem RowOk.blk {m : Nat} {k : Int} {ys : List Value} (h : RowOk w v m k) (hm : Mod [g] w w') (hB : Blk w g 38 ys) : RowOk w' v m k := by
  obtain ⟨c, h1, h2⟩ := h
  exact ⟨c, Ow.mod h1 hm fun b hb hg => Ow.ne h1 hB ne_r1 (by have e : b = g := (by simpa using hg); exact e ▸ hb), h2.blk hm hB ne_b2⟩
theorem RowOk.lt {m : Nat} {k : Int} (h : RowOk w v m k) : ∀ b ∈ blks v, b < w.heap.size := by
  obtain ⟨c, h1, _⟩ := h
  exact Ow.lt h1
theorem RowOk.form {m : Nat} {k : Int} (h : RowOk w v m k) : ∃ ao cap, v = .slice ao m cap ∧ m ≤ cap ∧ cap ≤ 9223372036854775807 := by
  obtain ⟨c, h1, _⟩ := h
  exact h1.sl.form
/-- a cell of it -/
theorem RowOk.at {ao : Option Addr} {m cap : Nat} {k : Int} (h : RowOk w (.slice ao m cap) m k) {i : Nat} (hi : i < m) :
    ∃ b x, ao = some ⟨b, 0, none⟩ ∧ Fz w x (tx k i) ∧ (∃ c t f, w.heap[b]? = some (.cells c t f)) ∧ b < w.heap.size ∧ ∀ w', Mod [] w w' → w'.cell? ⟨b, i, none⟩ = some x := by
  obtain ⟨c, h1, h2⟩ := h
  have hl := h1.sl.len
  rw [Nat.mul_one] at hl
  rcases h1.blk with ⟨_, h, _⟩ | ⟨g, cp, rest, hv, hB, _⟩
  · omega
  · injection hv with e1 e2 e3
    exact ⟨g, c[i], e1, h2 i (by omega), hB.kinds, hB.lt, fun w' hm => (hB.ext hm).cell' (by rw [List.getElem?_append_left (by omega)]; exact List.getElem?_eq_getElem (by omega))⟩
end
/-- a row's value, and a cell of the list, of any kind -/
theorem row_atG {w : World} {e : TypeId} {N : Nat} {V : Nat → Value} {ao : Option Addr} {n cap : Nat} (hl : Ow w e 1 (.slice ao n cap) N (rc V N)) {a : Nat} (ha : a < N) :
    ∃ b, ao = some ⟨b, 0, none⟩ ∧ (∃ c t f, w.heap[b]? = some (.cells c t f)) ∧ b < w.heap.size ∧ ∀ w', Mod [] w w' → w'.cell? ⟨b, a, none⟩ = some (V a) := by
  rcases hl.blk with ⟨_, h, _⟩ | ⟨g, c, r, h, hB, _⟩
  · omega
  · injection h with e1
    exact ⟨g, e1, hB.kinds, hB.lt, fun w' hm => (hB.ext hm).cell' (by rw [List.getElem?_append_left (by rw [rc_length]; exact ha)]; exact rc_at V ha)⟩
/-- the bytes of a string -/
theorem bytes_new (w : World) (l : List UInt8) (hl : l.length ≤ 1000000) : ∃ g cap w', (convert 9 32 (.string ⟨l.toArray⟩)).run Tryz.prog w = .ok (.slice (some ⟨g, 0, none⟩) l.length cap) w' ∧ Fz w' (.slice (some ⟨g, 0, none⟩) l.length cap) l ∧ w.heap.size ≤ g ∧ Mod [] w w' := by
  have hs : (⟨l.toArray⟩ : ByteArray).size = l.length := by simp [ByteArray.size]
  have hge := grownCap_ge w l.length 0 5
  have hle := grownCap_le_maxLen w l.length 0 5 (by unfold maxLen; omega)
  have hr := Lib.run_convert_string_bytes (P := Tryz.prog) w 9 32 5 ⟨l.toArray⟩ Tryz.underlying9 Tryz.underlying32 Tryz.underlying5
  rw [hs] at hr
  have hnew := Lib.bytesWorld_at_new w 5 ⟨l.toArray⟩
  refine ⟨_, _, _, hr, ⟨⟨_, _, rfl, by rw [bv_length, Nat.mul_one], hge, by unfold maxLen at hle; omega, (fun h => nomatch h), fun ad had => ?_⟩, fun g hg => ?_⟩, Nat.le_refl _, ⟨rfl, rfl, rfl, by rw [Lib.bytesWorld_size]; omega, fun k hk _ => Lib.bytesWorld_at_old w _ _ k hk⟩⟩
  · cases had
    refine ⟨fun _ => rfl, fun j u hu => ?_⟩
    have hj : j < l.length := by have := (List.getElem?_eq_some_iff.1 hu).1; rwa [bv_length] at this
    rw [Nat.zero_add, Lib.bytesWorld_cell w _ _ j (by rw [hs]; exact hj)]
    unfold bv at hu
    rw [List.getElem?_map, List.getElem?_eq_getElem hj] at hu
    simp only [Option.map_some] at hu
    rw [← hu]
    simp [List.getD_eq_getElem?_getD, List.getElem?_eq_getElem hj]
  · obtain rfl : g = w.heap.size := by simpa [blks] using hg
    exact ⟨_, _, hnew⟩
set_option maxHeartbeats 2000000 in
theorem markText_any (k i : Int) (w : World) (h1 : 0 ≤ k) (h2 : k ≤ 1099511627776) (h3 : 0 ≤ i) (h4 : i ≤ 281474976710656) :
    Calls Tryz.prog 109 #[.int .i64 k, .int .i64 i] w fun e w' => e = .returned (.string ⟨(tx k i).toArray⟩) ∧ Mod [] w w' := by
  have e1 := txb_eq k
  have e2 := txb_eq (k / 256)
  have e3 := txb_eq (k / 65536)
  have e4 := txb_eq i
  have e5 := txb_eq (i / 256)
  have e6 := txb_eq (i / 65536)
  have hbv : bv (tx k i) = [.int .u8 35, .int .u8 (k % 256), .int .u8 (k / 256 % 256), .int .u8 (k / 65536 % 256), .int .u8 47, .int .u8 (i % 256), .int .u8 (i / 256 % 256), .int .u8 (i / 65536 % 256)] := by
    unfold bv tx
    simp only [List.map_cons, List.map_nil, e1, e2, e3, e4, e5, e6]
    rfl
  have hL : ∀ g w', Blk w' g 5 (bv (tx k i)) → Bs w' (.slice (some ⟨g, 0, none⟩) 8 8) (tx k i) := fun g w' hB => Ob.bs (Ow.of_blk (rest := []) (by rw [List.append_nil]; exact hB) (Nat.le_refl _) (by omega) (by rw [List.append_nil, bv_length]; rfl) (by rw [bv_length]; rfl))
  go_enter Tryz.func109, Tryz.ntmps109
  go_wp2_with (with_reducible refine st_bslice ?_)
  refine StopOp.go rfl fun K hK => ?_
  refine wp_bslice stB [.int .u8 35, .int .u8 (k % 256), .int .u8 (k / 256 % 256), .int .u8 (k / 65536 % 256), .int .u8 47, .int .u8 (i % 256), .int .u8 (i / 256 % 256), .int .u8 (i / 65536 % 256)] rfl (by decide) (by rfl) (by simp [Value.cells]) ?_
  intro q w5 hq1 hq2 hm5 hB5
  simp only [put_some, List.set_cons_succ, List.set_cons_zero]
  refine hK _ _ ?_
  clear hK K
  have hB6 : Blk w5 q 5 (bv (tx k i)) := by rw [hbv]; exact hB5
  have hs := (hL q w5 hB6).str
  go_wp2_with fail
  go_ret
  exact ⟨rfl, hm5⟩
set_option maxHeartbeats 2000000 in
theorem markRow_any (k i : Int) (w : World) (h1 : 0 ≤ k) (h2 : k ≤ 1099511627776) (h3 : 0 ≤ i) (h4 : i ≤ 281474976710656) :
    Calls Tryz.prog 108 #[.int .i64 k, .int .i64 i] w fun e w' => ∃ g cap, e = .returned (.slice (some ⟨g, 0, none⟩) 8 cap) ∧ Fz w' (.slice (some ⟨g, 0, none⟩) 8 cap) (tx k i) ∧ w.heap.size ≤ g ∧ Mod [] w w' := by
  obtain ⟨X, hX⟩ : ∃ X, X = tx k i := ⟨_, rfl⟩
  have hXl : X.length = 8 := by rw [hX]; rfl
  have MT := fun w => markText_any k i w h1 h2 h3 h4
  rw [← hX] at MT ⊢
  clear hX
  go_enter Tryz.func108, Tryz.ntmps108
  go_wp2_with (go_at_call 109; (with_reducible refine (MT _).mono ?_); rintro e w2 ⟨rfl, hm2⟩; obtain ⟨g, cap, w3, hr3, hf3, hg3, hm3⟩ := bytes_new w2 X (by omega); rw [hXl] at hr3 hf3)
  go_ret
  exact ⟨g, cap, rfl, hf3, Nat.le_trans hm2.size hg3, hm2.ext hm3⟩
end Go.Proofs.YtdmnogmhnhjdgaaGreat
