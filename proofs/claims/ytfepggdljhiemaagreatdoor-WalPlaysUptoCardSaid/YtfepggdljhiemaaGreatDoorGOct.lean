import Derived.Test.YtfepggdljhiemaaGreatDoorProg
import Derived.Test.YtfepggdljhiemaaGreatDoorGMem
import Derived.WalkSpells
import Derived.WalkLawsBesides
import Derived.Lib.Hide
set_option linter.unusedVariables false
set_option linter.unusedSimpArgs false
set_option maxRecDepth 100000
namespace Go.Proofs.YtfepggdljhiemaaGreatDoor
open Go.RowKit Gw
theorem stB : ST Tryz.prog 33 5 (.int .u8 0) 1 1 := ⟨Tryz.underlying33, by kernel_rfl, rfl, by decide⟩

/-- bytes as cells -/
def bv (l : List UInt8) : List Value := l.map fun b => .int .u8 b.toNat
theorem bv_one (l : List UInt8) : ∀ u ∈ bv l, u.oneCell' = true := by
  intro u hu
  obtain ⟨b, _, rfl⟩ := List.mem_map.1 hu
  rfl
theorem bv_length (l : List UInt8) : (bv l).length = l.length := by simp [bv]
theorem bv_append (l m : List UInt8) : bv (l ++ m) = bv l ++ bv m := by simp [bv]

/-- a slice of bytes -/
def Bs (w : World) (v : Value) (l : List UInt8) : Prop := Sl w 1 v l.length (bv l)

theorem not_bv {c : Value} {l : List UInt8} (h : ∀ n, c ≠ .int .u8 n) : c ∉ bv l := by
  intro hc
  obtain ⟨b, _, rfl⟩ := List.mem_map.1 hc
  exact h _ rfl
theorem Bs.keepAt {w w' : World} {v : Value} {l : List UInt8} {g : Nat} {t : TypeId} {cs : List Value} (h : Bs w v l) (hb : Blk w g t cs) (hk : ∀ c ∈ cs, ∀ n, c ≠ .int .u8 n) (hm : Mod [g] w w') : Bs w' v l :=
  Sl.keepAt h hb (fun c hc => not_bv (hk c hc)) hm

/-- a writer -/
def Wr (w : World) (g : Nat) (l : List UInt8) : Prop := ∃ v, Blk w g 150 [v] ∧ Bs w v l

theorem Wr.ext {w w' : World} {g : Nat} {l : List UInt8} (h : Wr w g l) (hm : Mod [] w w') : Wr w' g l := by
  obtain ⟨v, hB, hv⟩ := h
  exact ⟨v, hB.ext hm, Sl.ext hv hm⟩
theorem Bs.ext {w w' : World} {v : Value} {l : List UInt8} (h : Bs w v l) (hm : Mod [] w w') : Bs w' v l := Sl.ext h hm
/-- a block whose first cells are bytes -/
theorem Bs.of_blk {w : World} {b : Nat} {l : List UInt8} {rest : List Value} {c : Nat} (h : Blk w b 5 (bv l ++ rest)) (hc : l.length ≤ c) (hm : c ≤ 9223372036854775807) : Bs w (.slice (some ⟨b, 0, none⟩) l.length c) l := by
  refine ⟨_, _, rfl, by simp [bv_length], hc, hm, (fun h => by cases h), fun ad had => ?_⟩
  cases had
  refine ⟨fun _ => rfl, fun j u hu => ?_⟩
  rw [h.cell, Nat.zero_add, List.getElem?_append_left]
  · exact hu
  · exact (List.getElem?_eq_some_iff.1 hu).1

/-- a writer, its list told -/
def Wv (w : World) (g : Nat) (v : Value) (l : List UInt8) : Prop := Blk w g 150 [v] ∧ Bs w v l
/-- what every method that puts leaves, and where the list then lies -/
def PutV (w : World) (g : Nat) (v : Value) (xs l : List UInt8) (e : Ending) (w' : World) : Prop :=
  e = .returned (.tuple #[]) ∧ ∃ v', Wv w' g v' l ∧ ((∀ k ∈ blks v', k ∈ blks v) ∧ l = xs ∨ ∀ k ∈ blks v', w.heap.size ≤ k) ∧ Mod [g] w w'
/-- what every method that puts leaves -/
def PutPost (w : World) (g : Nat) (l : List UInt8) (e : Ending) (w' : World) : Prop := e = .returned (.tuple #[]) ∧ Wr w' g l ∧ Mod [g] w w'
theorem of_v {P : Program} {f : FuncId} {args : Array Value} {w : World} {g : Nat} {xs l : List UInt8} (h : ∀ v, Wv w g v xs → Calls P f args w (PutV w g v xs l)) (hw : Wr w g xs) : Calls P f args w (PutPost w g l) := by
  obtain ⟨v, hv⟩ := hw
  exact (h v hv).mono fun e w' ⟨h1, v', h2, _, h3⟩ => ⟨h1, ⟨v', h2⟩, h3⟩

set_option maxRecDepth 100000 in
set_option maxHeartbeats 400000 in
theorem add_v (g : Nat) (v : Value) (xs ys : List UInt8) (bvv : Value) (w : World) (hw : Wv w g v xs) (hb : Bs w bvv ys) (hn : xs.length + ys.length ≤ 140737488355328) :
    Calls Tryz.prog 140 #[.pointer (some ⟨g, 0, none⟩), bvv] w (PutV w g v xs (xs ++ ys)) := by
  obtain ⟨hB, hv⟩ := hw
  obtain ⟨ao, cap, rfl, hnc, hcap⟩ := hv.form
  have hc0 := hB.cell' (i := 0) rfl
  have l0 : (xs.length : Int) ≤ 9223372036854775807 := by omega
  go_enter Tryz.func140, Tryz.ntmps140
  go_wp2
  refine wp_region_T [⟨0, true, []⟩, ⟨1, true, []⟩, ⟨2, true, []⟩, ⟨3, true, []⟩, ⟨4, true, []⟩, ⟨5, true, []⟩, ⟨6, true, []⟩, ⟨7, true, []⟩, ⟨8, true, []⟩, ⟨9, true, []⟩, ⟨10, true, []⟩, ⟨11, true, []⟩, ⟨12, true, []⟩, ⟨13, true, []⟩, ⟨14, true, []⟩, ⟨15, true, []⟩, ⟨16, true, []⟩, ⟨17, false, []⟩, ⟨18, true, []⟩, ⟨19, true, []⟩, ⟨20, false, []⟩] (by kernel_rfl) (by kernel_rfl) ?_
  go_wp2_with (first | (refine wpT_q rfl rfl (fun K hK => ?_)) | (refine wpT_nil ?_) | (refine wpT_skip rfl rfl ?_))
  refine wpT_e0 rfl rfl (fun K hK => ?_)
  refine wp_append_cp stB (by rfl) (by rfl) hv.clip hb (bv_one ys) (by omega) (by omega) (by omega) ?_
  intro v' w1 hv1 hm1 hz1 hn1
  have hloc : (∀ k ∈ blks v', k ∈ blks (.slice ao xs.length cap)) ∧ xs ++ ys = xs ∨ ∀ k ∈ blks v', w.heap.size ≤ k := by
    by_cases h0 : ys.length = 0
    · refine .inl ⟨fun k hk => ?_, by rw [List.eq_nil_of_length_eq_zero h0, List.append_nil]⟩
      rw [(hz1 h0).1] at hk
      cases ao with
      | none => simp [blks] at hk
      | some ad => simpa [blks] using hk
    · exact .inr (fun k hk => by have := (hn1 h0).2 k hk; simpa using this)
  clear hz1 hn1
  simp only [put_some, List.set_cons_succ, List.set_cons_zero]
  refine hK _ _ ?_
  clear hK K
  go_wp2_with (first | (refine wpT_q rfl rfl (fun K hK => ?_)) | (refine wpT_nil ?_) | (refine wpT_skip rfl rfl ?_))
  refine wpT_e0 rfl rfl (fun K hK => ?_)
  refine wp_store1 (by kernel_rfl) (by rfl) (by rfl) hv1.one (hB.ext ((Mod.drew [] w).ext hm1)) (by simp) ?_
  intro w2 hm2 hB2
  refine hK _ _ ?_
  clear hK K
  go_wp2_with (first | (refine wpT_q rfl rfl (fun K hK => ?_)) | (refine wpT_nil ?_) | (refine wpT_skip rfl rfl ?_))
  have hv1' : Bs w1 v' (xs ++ ys) := by unfold Bs; rw [bv_append, List.length_append]; exact hv1
  go_end0
  exact ⟨rfl, v', ⟨by simpa using hB2, hv1'.keepAt (hB.ext ((Mod.drew [] w).ext hm1)) (by simp) hm2⟩, hloc, (((Mod.drew [g] w).ext hm1).trans hm2)⟩
end Go.Proofs.YtfepggdljhiemaaGreatDoor

namespace Go.Proofs.YtfepggdljhiemaaGreatDoor
open Go.RowKit Gw

/-- the lowest k bytes of a number -/
def low (n k : Nat) : List UInt8 := (List.range k).map fun i => UInt8.ofNat (n / 256 ^ i)
theorem low_length (n k : Nat) : (low n k).length = k := by simp [low]
theorem low_succ (n j : Nat) : low n (j + 1) = low n j ++ [UInt8.ofNat (n / 256 ^ j)] := by simp [low, List.range_succ]
theorem low_cell (n j : Nat) : (n : Int) / 2 ^ (8 * j) % 256 = ((UInt8.ofNat (n / 256 ^ j)).toNat : Int) := by
  have h : (2 : Int) ^ (8 * j) = ((256 ^ j : Nat) : Int) := by rw [Int.pow_mul]; norm_cast
  rw [h, UInt8.toNat_ofNat']
  norm_cast
theorem low_set (n k j : Nat) (hj : j < k) : (bv (low n j) ++ List.replicate (k - j) (Value.int .u8 0)).set j (Value.int .u8 ((n : Int) / 2 ^ (8 * j) % 256)) = bv (low n (j + 1)) ++ List.replicate (k - (j + 1)) (Value.int .u8 0) := by
  obtain ⟨m, hm⟩ : ∃ m, k - j = m + 1 := ⟨k - j - 1, by omega⟩
  rw [List.set_append_right _ _ (by simp [bv_length, low_length])]
  rw [hm, bv_length, low_length, Nat.sub_self, List.replicate_succ, List.set_cons_zero, low_succ, bv_append, List.append_assoc, low_cell]
  rw [show k - (j + 1) = m by omega]
  rfl

theorem Wv.ext {w w' : World} {g : Nat} {v : Value} {l : List UInt8} (h : Wv w g v l) (hm : Mod [] w w') : Wv w' g v l := ⟨h.1.ext hm, h.2.ext hm⟩
set_option maxHeartbeats 400000 in
theorem number_v (g : Nat) (v : Value) (xs : List UInt8) (n k : Nat) (w : World) (hw : Wv w g v xs) (hk : k ≤ 8) (hn : n < 18446744073709551616) (hl : xs.length + k ≤ 140737488355328) :
    Calls Tryz.prog 139 #[.pointer (some ⟨g, 0, none⟩), .int .u64 n, .int .i64 k] w (PutV w g v xs (xs ++ low n k)) := by
  go_enter Tryz.func139, Tryz.ntmps139
  go_wp2_with (with_reducible refine st_make ?_)
  refine StopOp.go rfl fun K hK => ?_
  refine wp_make stB (by rfl) (by rfl) rfl rfl (Nat.le_refl _) (by omega) (by omega) ?_
  intro b w1 hb1 hb2 hm1 hB1
  simp only [put_some, List.set_cons_succ, List.set_cons_zero]
  refine hK _ _ ?_
  clear hK K
  go_wp2_with fail
  go_loopw [12] (fun i wr => ∃ j : Nat, j ≤ k ∧ i = .int .i64 j ∧ Mod [] w wr ∧ Blk wr b 5 (bv (low n j) ++ List.replicate (k - j) (.int .u8 0))) (fun i _ => k - (intOf i).toNat)
  case atStart => exact ⟨0, Nat.zero_le _, rfl, hm1, by simpa [low, bv, Value.cells, List.flatten_replicate_singleton] using hB1⟩
  case round =>
    obtain ⟨j, hj, rfl, hmr, hBr⟩ := hrel
    by_cases hlt : j < k
    · go_wp2_with (with_reducible refine st_store ?_)
      refine StopOp.go rfl fun K hK => ?_
      refine wp_store1 (by kernel_rfl) (by rfl) (u := .int .u8 ((n : Int) / 2 ^ (8 * j) % 256)) (by rfl) ⟨rfl, rfl⟩ hBr (by simp [bv_length, low_length]; omega) ?_
      intro w2 hm2 hB2
      refine hK _ _ ?_
      clear hK K
      rw [low_set n k j hlt] at hB2
      go_wp2_with fail
      go_roundw
      case rel => exact ⟨j + 1, by omega, by go_num, hmr.fresh hm2 (by simpa using hb1), hB2⟩
      case measure => simp [intOf]; omega
    · obtain rfl : j = k := by omega
      simp only [Nat.sub_self, List.replicate_zero] at hBr
      have hbs : Bs wr (.slice (some ⟨b, 0, none⟩) j j) (low n j) := by
        have := Bs.of_blk hBr (c := j) (by simp [low_length]) (by omega)
        rwa [low_length] at this
      go_wp2_with (go_at_call 140; refine (add_v g v xs (low n j) _ _ (hw.ext hmr) hbs (by rw [low_length]; omega)).mono ?_; rintro e w2 ⟨rfl, v2, hw2, hl2, hm2⟩)
      go_end0
      exact ⟨rfl, v2, hw2, hl2.imp id fun h k hk => Nat.le_trans hmr.size (h k hk), (hmr.weak (by simp)).trans hm2⟩
end Go.Proofs.YtfepggdljhiemaaGreatDoor

namespace Go.Proofs.YtfepggdljhiemaaGreatDoor
open Go.RowKit Gw

/-- new memory: none of its blocks was there -/
def New (w : World) (v : Value) : Prop := ∀ k ∈ blks v, w.heap.size ≤ k
/-- a slice of bytes of the call's own -/
def Ob (w : World) (v : Value) (l : List UInt8) : Prop := Ow w 5 1 v l.length (bv l)
theorem Ob.bs {w : World} {v : Value} {l : List UInt8} (h : Ob w v l) : Bs w v l := Ow.sl h
theorem Ob.ext {w w' : World} {v : Value} {l : List UInt8} (h : Ob w v l) (hm : Mod [] w w') : Ob w' v l := Ow.ext h hm
theorem Ob.nil (w : World) : Ob w (.slice none 0 0) [] := Ow.nil w _ _
theorem New.mono {w w' : World} {v : Value} (h : New w' v) (hm : w.heap.size ≤ w'.heap.size) : New w v := fun k hk => Nat.le_trans hm (h k hk)

set_option maxHeartbeats 400000 in
theorem clone_any (l : List UInt8) (v : Value) (w : World) (hv : Bs w v l) (hl : l.length ≤ 140737488355328) :
    Calls Tryz.prog 142 #[v] w fun e w' => ∃ v', e = .returned v' ∧ Ob w' v' l ∧ New w v' ∧ Mod [] w w' := by
  obtain ⟨ao, cap, rfl, hnc, hcap⟩ := hv.form
  rcases ao with _ | ad
  · have h0 : cap = 0 := by
      obtain ⟨ao2, cap2, hv2, _, _, _, hn, _⟩ := hv
      injection hv2 with e1 e2 e3
      exact e3 ▸ hn e1.symm
    subst h0
    obtain rfl : l = [] := List.eq_nil_of_length_eq_zero (by omega)
    go_enter Tryz.func142, Tryz.ntmps142
    go_wp2_with fail
    go_ret
    exact ⟨_, rfl, Ob.nil w, (by simp [New, blks]), Mod.refl _ _⟩
  · go_enter Tryz.func142, Tryz.ntmps142
    go_wp2_with (with_reducible first | refine st_bslice ?_ | refine st_append ?_)
    refine StopOp.go rfl fun K hK => ?_
    refine wp_bslice stB [] rfl (by decide) (by rfl) (by simp) ?_
    intro g w1 hg1 hg2 hm1 hB1
    simp only [put_some, List.set_cons_succ, List.set_cons_zero]
    refine hK _ _ ?_
    clear hK K
    go_wp2_with (with_reducible first | refine st_bslice ?_ | refine st_append ?_)
    refine StopOp.go rfl fun K hK => ?_
    have ho : Ow w1 5 1 (.slice (some ⟨g, 0, none⟩) 0 0) 0 [] := Ow.of_blk (rest := []) hB1 (Nat.le_refl _) (by omega) rfl rfl
    refine wp_append_ow stB (by rfl) (by rfl) ho (hv.ext hm1) (bv_one l) (by omega) (by omega) ?_
    intro v' w2 ho2 hm2 hn2
    simp only [put_some, List.set_cons_succ, List.set_cons_zero]
    refine hK _ _ ?_
    clear hK K
    go_wp2_with fail
    go_ret
    refine ⟨_, rfl, by simpa [Ob] using ho2, fun k hk => ?_, hm1.fresh hm2 (by simpa [blks] using hg1)⟩
    rcases hn2 k hk with h | h
    · have : k = g := by simpa [blks] using h
      omega
    · have := hm1.size; omega

set_option maxHeartbeats 400000 in
theorem out_any (g : Nat) (l : List UInt8) (w : World) (hw : Wr w g l) (hl : l.length ≤ 140737488355328) :
    Calls Tryz.prog 92 #[.pointer (some ⟨g, 0, none⟩)] w fun e w' => ∃ v', e = .returned v' ∧ Ob w' v' l ∧ New w v' ∧ Mod [] w w' := by
  obtain ⟨v, hB, hv⟩ := hw
  have hc0 := hB.cell' (i := 0) rfl
  go_enter Tryz.func92, Tryz.ntmps92
  go_wp2_with (go_at_call 142; refine (clone_any l _ _ hv hl).mono ?_; rintro e w1 ⟨v', rfl, h1, h2, h3⟩)
  go_ret
  exact ⟨_, rfl, h1, h2, h3⟩

theorem number_int (g : Nat) (v : Value) (xs : List UInt8) (n : Int) (k : Nat) (kk : Int) (w : World) (hkk : kk = k) (hw : Wv w g v xs) (hk : k ≤ 8) (h0 : 0 ≤ n) (hn : n ≤ 18446744073709551615) (hl : xs.length ≤ 140737488355320) :
    Calls Tryz.prog 139 #[.pointer (some ⟨g, 0, none⟩), .int .u64 n, .int .i64 kk] w (PutV w g v xs (xs ++ low n.toNat k)) := by
  subst hkk
  obtain ⟨m, rfl⟩ := Int.eq_ofNat_of_zero_le h0
  exact number_v g v xs m k w hw hk (by omega) (by omega)

set_option maxHeartbeats 400000 in
theorem two_v (g : Nat) (v : Value) (xs : List UInt8) (n : Int) (w : World) (hw : Wv w g v xs) (h0 : 0 ≤ n) (hn : n ≤ 65535) (hl : xs.length ≤ 140737488355320) :
    Calls Tryz.prog 87 #[.pointer (some ⟨g, 0, none⟩), .int .u16 n] w (PutV w g v xs (xs ++ low n.toNat 2)) := by
  go_enter Tryz.func87, Tryz.ntmps87
  go_wp2_with (go_at_call 139; refine (number_int g v xs n 2 _ _ rfl hw (by omega) h0 (by omega) hl).mono ?_; rintro e w1 ⟨rfl, v1, h1, h2, h3⟩)
  go_end0
  exact ⟨rfl, v1, h1, h2, h3⟩
theorem two_any (g : Nat) (xs : List UInt8) (n : Int) (w : World) (hw : Wr w g xs) (h0 : 0 ≤ n) (hn : n ≤ 65535) (hl : xs.length ≤ 140737488355320) :
    Calls Tryz.prog 87 #[.pointer (some ⟨g, 0, none⟩), .int .u16 n] w (PutPost w g (xs ++ low n.toNat 2)) := of_v (fun v h => two_v g v xs n w h h0 hn hl) hw
set_option maxHeartbeats 400000 in
theorem four_v (g : Nat) (v : Value) (xs : List UInt8) (n : Int) (w : World) (hw : Wv w g v xs) (h0 : 0 ≤ n) (hn : n ≤ 4294967295) (hl : xs.length ≤ 140737488355320) :
    Calls Tryz.prog 90 #[.pointer (some ⟨g, 0, none⟩), .int .u32 n] w (PutV w g v xs (xs ++ low n.toNat 4)) := by
  go_enter Tryz.func90, Tryz.ntmps90
  go_wp2_with (go_at_call 139; refine (number_int g v xs n 4 _ _ rfl hw (by omega) h0 (by omega) hl).mono ?_; rintro e w1 ⟨rfl, v1, h1, h2, h3⟩)
  go_end0
  exact ⟨rfl, v1, h1, h2, h3⟩
theorem four_any (g : Nat) (xs : List UInt8) (n : Int) (w : World) (hw : Wr w g xs) (h0 : 0 ≤ n) (hn : n ≤ 4294967295) (hl : xs.length ≤ 140737488355320) :
    Calls Tryz.prog 90 #[.pointer (some ⟨g, 0, none⟩), .int .u32 n] w (PutPost w g (xs ++ low n.toNat 4)) := of_v (fun v h => four_v g v xs n w h h0 hn hl) hw
set_option maxHeartbeats 400000 in
theorem eight_v (g : Nat) (v : Value) (xs : List UInt8) (n : Int) (w : World) (hw : Wv w g v xs) (h0 : 0 ≤ n) (hn : n ≤ 18446744073709551615) (hl : xs.length ≤ 140737488355320) :
    Calls Tryz.prog 88 #[.pointer (some ⟨g, 0, none⟩), .int .u64 n] w (PutV w g v xs (xs ++ low n.toNat 8)) := by
  go_enter Tryz.func88, Tryz.ntmps88
  go_wp2_with (go_at_call 139; refine (number_int g v xs n 8 _ _ rfl hw (by omega) h0 (by omega) hl).mono ?_; rintro e w1 ⟨rfl, v1, h1, h2, h3⟩)
  go_end0
  exact ⟨rfl, v1, h1, h2, h3⟩
theorem eight_any (g : Nat) (xs : List UInt8) (n : Int) (w : World) (hw : Wr w g xs) (h0 : 0 ≤ n) (hn : n ≤ 18446744073709551615) (hl : xs.length ≤ 140737488355320) :
    Calls Tryz.prog 88 #[.pointer (some ⟨g, 0, none⟩), .int .u64 n] w (PutPost w g (xs ++ low n.toNat 8)) := of_v (fun v h => eight_v g v xs n w h h0 hn hl) hw
set_option maxHeartbeats 400000 in
theorem put_v (g : Nat) (v : Value) (xs l : List UInt8) (u : Value) (w : World) (hw : Wv w g v xs) (hv : Bs w u l) (hl : xs.length + l.length ≤ 140737488355328) :
    Calls Tryz.prog 89 #[.pointer (some ⟨g, 0, none⟩), u] w (PutV w g v xs (xs ++ l)) := by
  go_enter Tryz.func89, Tryz.ntmps89
  go_wp2_with (go_at_call 140; refine (add_v g v xs l _ _ hw hv hl).mono ?_; rintro e w1 ⟨rfl, v1, h1, h2, h3⟩)
  go_end0
  exact ⟨rfl, v1, h1, h2, h3⟩
theorem put_any (g : Nat) (xs l : List UInt8) (v : Value) (w : World) (hw : Wr w g xs) (hv : Bs w v l) (hl : xs.length + l.length ≤ 140737488355328) :
    Calls Tryz.prog 89 #[.pointer (some ⟨g, 0, none⟩), v] w (PutPost w g (xs ++ l)) := of_v (fun u h => put_v g u xs l v w h hv hl) hw
end Go.Proofs.YtfepggdljhiemaaGreatDoor

/-! Slices of bytes that lie apart, as a list. -/
namespace Go.Proofs.YtfepggdljhiemaaGreatDoor
open Go.RowKit Gw

/-- rows that lie apart, none of whose blocks was there below base -/
structure Fam (w : World) (base : Nat) (L : List (Value × List UInt8)) : Prop where
  ob : ∀ p ∈ L, Ob w p.1 p.2 ∧ ∀ b ∈ blks p.1, base ≤ b
  dj : L.Pairwise fun p q => ∀ b ∈ blks p.1, b ∉ blks q.1
section
variable {w w' : World} {base : Nat} {L A B : List (Value × List UInt8)} {v : Value} {l : List UInt8}
theorem Fam.nil (w : World) (base : Nat) : Fam w base [] := ⟨fun p hp => (nomatch hp), List.Pairwise.nil⟩
theorem Fam.mod {M : List Nat} (h : Fam w base L) (hm : Mod M w w') (hM : ∀ p ∈ L, ∀ b ∈ blks p.1, b ∉ M) : Fam w' base L :=
  ⟨fun p hp => ⟨Ow.mod (h.ob p hp).1 hm (hM p hp), (h.ob p hp).2⟩, h.dj⟩
theorem Fam.ext (h : Fam w base L) (hm : Mod [] w w') : Fam w' base L := h.mod hm fun _ _ _ _ h => nomatch h
/-- what is turned is a block of other cells -/
theorem Fam.at {g : Nat} {t : TypeId} {cs : List Value} (h : Fam w base L) (hm : Mod [g] w w') (hb : Blk w g t cs) (hne : 5 ≠ t) : Fam w' base L :=
  h.mod hm fun p hp b hb2 hg => Ow.ne (h.ob p hp).1 hb hne (by have : b = g := (by simpa using hg); exact this ▸ hb2)
/-- one more, in new memory, at any place of the list -/
theorem Fam.ins (h : Fam w base (A ++ B)) (hb : base ≤ w.heap.size) (hm : Mod [] w w') (ho : Ob w' v l) (hn : New w v) : Fam w' base (A ++ (v, l) :: B) := by
  have h' := h.ext hm
  have hlt : ∀ p ∈ A ++ B, ∀ b ∈ blks p.1, b < w.heap.size := fun p hp => Ow.lt (h.ob p hp).1
  refine ⟨fun p hp => ?_, ?_⟩
  · rw [List.mem_append, List.mem_cons] at hp
    rcases hp with hp | rfl | hp
    · exact h'.ob p (List.mem_append_left _ hp)
    · exact ⟨ho, fun b hb2 => Nat.le_trans hb (hn b hb2)⟩
    · exact h'.ob p (List.mem_append_right _ hp)
  · have hd := h.dj
    rw [List.pairwise_append] at hd ⊢
    refine ⟨hd.1, List.pairwise_cons.2 ⟨fun q hq b hb1 hb2 => ?_, hd.2.1⟩, fun p hp q hq b hb1 hb2 => ?_⟩
    · have h1 := hn b hb1
      have h2 := hlt q (List.mem_append_right _ hq) b hb2
      omega
    · rcases List.mem_cons.1 hq with rfl | hq
      · have h1 := hn b hb2
        have h2 := hlt p (List.mem_append_left _ hp) b hb1
        omega
      · exact hd.2.2 p hp q hq b hb1 hb2
theorem Fam.sub (h : Fam w base (A ++ B)) : Fam w base A := ⟨fun p hp => h.ob p (List.mem_append_left _ hp), (List.pairwise_append.1 h.dj).1⟩
end
end Go.Proofs.YtfepggdljhiemaaGreatDoor

namespace Go.Proofs.YtfepggdljhiemaaGreatDoor
open Go.RowKit Gw

theorem Bs.form {w : World} {v : Value} {l : List UInt8} (h : Bs w v l) : ∃ ao cap, v = .slice ao l.length cap ∧ l.length ≤ cap ∧ cap ≤ 9223372036854775807 := Sl.form h
/-- a byte of it -/
theorem Bs.byte {w : World} {ao : Option Addr} {n cap : Nat} {l : List UInt8} (h : Bs w (.slice ao n cap) l) {j : Nat} (hj : j < l.length) :
    ∃ b o, ao = some ⟨b, o, none⟩ ∧ w.cell? ⟨b, o + j, none⟩ = some (.int .u8 (l[j].toNat : Nat)) := by
  obtain ⟨b, o, c, hv, _, _, hc⟩ := Sl.at h (fun h0 => by have := congrArg List.length h0; rw [bv_length] at this; simp at this; rw [this] at hj; simp at hj)
  injection hv with e1
  exact ⟨b, o, e1, hc j _ (by simp [bv, hj])⟩

theorem ret_bool {a b : Bool} (h : a = b) : Ending.returned (.bool a) = .returned (.bool b) := by rw [h]
set_option maxHeartbeats 1000000 in
theorem same_any (la lb : List UInt8) (va vb : Value) (w : World) (ha : Bs w va la) (hb : Bs w vb lb) :
    Calls Tryz.prog 44 #[va, vb] w fun e w' => e = .returned (.bool (decide (la = lb))) ∧ Mod [] w w' := by
  obtain ⟨ao, ca, rfl, h1, h2⟩ := ha.form
  obtain ⟨bo, cb, rfl, h3, h4⟩ := hb.form
  by_cases hlen : la.length = lb.length
  · go_enter Tryz.func44, Tryz.ntmps44
    have Hlen := Lib.hid hlen
    have hl1 : lb.length ≤ la.length := by omega
    have hl2 : la.length ≤ lb.length := by omega
    clear hlen
    go_wp2_with fail
    go_loopw [5] (fun i wr => ∃ j : Nat, j ≤ la.length ∧ i = .int .i64 j ∧ la.take j = lb.take j ∧ Mod [] w wr) (fun i _ => la.length - (intOf i).toNat)
    case atStart => exact ⟨0, Nat.zero_le _, rfl, rfl, Mod.refl _ _⟩
    case round =>
      obtain ⟨j, hj, rfl, htake, hmr⟩ := hrel
      have Ht := Lib.hid htake
      clear htake
      by_cases hlt : j < la.length
      · obtain ⟨b1, o1, rfl, hc1⟩ := (ha.ext hmr).byte hlt
        obtain ⟨b2, o2, rfl, hc2⟩ := (hb.ext hmr).byte (show j < lb.length by omega)
        go_wp2_with fail
        refine wp_region_T [⟨0, true, []⟩, ⟨1, true, []⟩, ⟨2, true, []⟩, ⟨3, true, []⟩, ⟨4, true, []⟩, ⟨5, true, []⟩, ⟨6, true, []⟩, ⟨7, true, []⟩, ⟨8, true, []⟩] (by kernel_rfl) (by kernel_rfl) ?_
        go_wp2_with (first | (refine wpT_q rfl rfl (fun K hK => ?_)) | (refine wpT_nil ?_))
        · have hne : ((la[j].toNat : Nat) != ((lb[j]'(by omega)).toNat : Int)) = true := by assumption
          go_ret
          refine ⟨ret_bool (Eq.symm (decide_eq_false fun e => ?_)), hmr.ext (Mod.drew [] _)⟩
          subst e
          simp at hne
        · have hne : ((la[j].toNat : Nat) != ((lb[j]'(by omega)).toNat : Int)) = false := by assumption
          go_roundw
          case rel =>
            refine ⟨j + 1, by omega, by go_num, ?_, hmr.ext (Mod.drew [] _)⟩
            have he : la[j] = lb[j]'(by omega) := by
              apply UInt8.toNat_inj.1
              have := by simpa using hne
              omega
            rw [List.take_succ_eq_append_getElem (by omega), List.take_succ_eq_append_getElem (by omega), Ht.out, he]
          case measure => simp [intOf]; omega
      · go_wp2_with fail
        go_ret
        refine ⟨ret_bool (Eq.symm (decide_eq_true ?_)), hmr⟩
        have h := Ht.out
        rwa [List.take_of_length_le (by omega), List.take_of_length_le (by omega)] at h
  · go_enter Tryz.func44, Tryz.ntmps44
    go_wp2_with fail
    go_ret
    exact ⟨ret_bool (Eq.symm (decide_eq_false fun e => hlen (by rw [e]))), Mod.refl _ _⟩

end Go.Proofs.YtfepggdljhiemaaGreatDoor

namespace Go.Proofs.YtfepggdljhiemaaGreatDoor
open Go.RowKit Gw

set_option maxHeartbeats 400000 in
theorem mark_any (k i : Int) (w : World) (h1 : 0 ≤ k) (h2 : k ≤ 1099511627776) (h3 : 0 ≤ i) (h4 : i ≤ 281474976710656) :
    Calls Tryz.prog 85 #[.int .i64 k, .int .i64 i] w fun e w' => e = .returned (.int .i64 (1000003 * (k + 7) + i)) ∧ w = w' := by
  go_enter Tryz.func85, Tryz.ntmps85
  go_wp2_with fail
  go_ret
  exact ⟨rfl, rfl⟩

/-- the mark of a place in a list of bytes -/
def mbI (k i : Int) : Int := IntKind.u64.wrap ((1000003 * (k + 7) + i) * 11400714819323198485) / 72057594037927936 % 256
def mb (k i : Int) : UInt8 := UInt8.ofNat (mbI k i).toNat
theorem mb_eq (k i : Int) : mbI k i = ((mb k i).toNat : Nat) := by
  have h1 : 0 ≤ mbI k i := Int.emod_nonneg _ (by decide)
  have h2 : mbI k i < 256 := Int.emod_lt_of_pos _ (by decide)
  unfold mb
  rw [UInt8.toNat_ofNat']
  omega

set_option maxHeartbeats 400000 in
theorem markByte_any (k i : Int) (w : World) (h1 : 0 ≤ k) (h2 : k ≤ 1099511627776) (h3 : 0 ≤ i) (h4 : i ≤ 281474976710656) :
    Calls Tryz.prog 34 #[.int .i64 k, .int .i64 i] w fun e w' => e = .returned (.int .u8 ((mb k i).toNat : Nat)) ∧ w = w' := by
  have g1 : (0 : Int) ≤ 1000003 * (k + 7) + i := by omega
  have g2 : 1000003 * (k + 7) + i ≤ 1100000000000000000 := by omega
  go_enter Tryz.func34, Tryz.ntmps34
  go_wp2_with (go_at_call 85; refine (mark_any k i _ h1 h2 h3 h4).mono ?_; rintro e w1 ⟨rfl, rfl⟩)
  go_ret
  refine ⟨?_, rfl⟩
  rw [← mb_eq]
  rfl
end Go.Proofs.YtfepggdljhiemaaGreatDoor

namespace Go.Proofs.YtfepggdljhiemaaGreatDoor
open Go.RowKit Gw

/-- the marks behind a lent list -/
def marks (k : Int) (n : Nat) : List UInt8 := (List.range n).map fun i : Nat => mb k i
theorem marks_length (k : Int) (n : Nat) : (marks k n).length = n := by simp [marks]
theorem marks_succ (k : Int) (n : Nat) : marks k (n + 1) = marks k n ++ [mb k n] := by simp [marks, List.range_succ]
theorem marks_at (k : Int) (n i : Nat) (h : i < (marks k n).length) : (marks k n)[i] = mb k i := by simp [marks]
/-- a lent list: it lies at the head of a block of its own, with marks behind -/
def Lt (w : World) (g cap : Nat) (l : List UInt8) : Prop :=
  ∃ rest, Blk w g 5 (bv (l ++ marks 1 12) ++ rest) ∧ (bv (l ++ marks 1 12) ++ rest).length = cap ∧ cap ≤ 9223372036854775807
theorem Lt.ext {w w' : World} {g cap : Nat} {l : List UInt8} (h : Lt w g cap l) (hm : Mod [] w w') : Lt w' g cap l := by
  obtain ⟨r, h1, h2, h3⟩ := h
  exact ⟨r, h1.ext hm, h2, h3⟩
theorem Lt.mod {w w' : World} {g cap : Nat} {l : List UInt8} {L : List Nat} (h : Lt w g cap l) (hm : Mod L w w') (hg : g ∉ L) : Lt w' g cap l := by
  obtain ⟨r, h1, h2, h3⟩ := h
  exact ⟨r, h1.mod hm hg, h2, h3⟩
theorem Lt.cap {w : World} {g cap : Nat} {l : List UInt8} (h : Lt w g cap l) : l.length + 12 ≤ cap ∧ cap ≤ 9223372036854775807 := by
  obtain ⟨r, h1, h2, h3⟩ := h
  rw [List.length_append, bv_length, List.length_append, marks_length] at h2
  omega
theorem Lt.bs {w : World} {g cap : Nat} {l : List UInt8} (h : Lt w g cap l) : Bs w (.slice (some ⟨g, 0, none⟩) l.length cap) l := by
  have hc := h.cap
  obtain ⟨r, h1, h2, h3⟩ := h
  rw [bv_append, List.append_assoc] at h1
  exact Bs.of_blk h1 (by omega) (by omega)

set_option maxHeartbeats 1000000 in
theorem lent_any (l : List UInt8) (v : Value) (w : World) (hv : Bs w v l) (hl : l.length ≤ 140737488355300) :
    Calls Tryz.prog 7 #[v] w fun e w' => ∃ g cap, e = .returned (.slice (some ⟨g, 0, none⟩) l.length cap) ∧ w.heap.size ≤ g ∧ Lt w' g cap l ∧ Mod [] w w' := by
  obtain ⟨ao0, cap0, rfl, hn0, hc0⟩ := hv.form
  go_enter Tryz.func7, Tryz.ntmps7
  go_wp2_with (with_reducible refine st_make ?_)
  refine StopOp.go rfl fun K hK => ?_
  refine wp_make (nl := 0) (nc := l.length + 12) stB (by rfl) (by rfl) rfl (by omega) (by omega) (by omega) (by omega) ?_
  intro g w1 hg1 hg2 hm1 hB1
  simp only [put_some, List.set_cons_succ, List.set_cons_zero]
  refine hK _ _ ?_
  clear hK K
  have ho1 : Ow w1 5 1 (.slice (some ⟨g, 0, none⟩) 0 (l.length + 12)) 0 [] := Ow.of_blk (xs := []) hB1 (by omega) (by omega) (by simp [Value.cells, List.flatten_replicate_singleton]) (by simp)
  have hv1 := hv.ext hm1
  have s1 := hm1.size
  clear hB1
  go_wp2_with (with_reducible refine st_append ?_)
  refine StopOp.go rfl fun K hK => ?_
  refine wp_append_ow stB (by rfl) (by rfl) ho1 hv1 (bv_one l) (by omega) (by omega) ?_
  intro v2 w2 ho2 hm2 hb2
  simp only [put_some, List.set_cons_succ, List.set_cons_zero]
  refine hK _ _ ?_
  clear hK K
  rw [Nat.zero_add] at ho2
  obtain ⟨ao2, cap2, rfl, _, _⟩ := ho2.sl.form
  have hmA : Mod [] w w2 := hm1.fresh hm2 (by simpa [blks] using hg1)
  have hnA : ∀ k ∈ blks (.slice ao2 l.length cap2), w.heap.size ≤ k := fun k hk => (hb2 k hk).elim (fun h => by simp [blks] at h; omega) (fun h => by omega)
  clear ho1 hv1 hm1 hm2 hb2
  go_wp2_with fail
  go_loopw [3, 4] (fun out i wr => ∃ (j : Nat) (ao : Option Addr) (cap : Nat), j ≤ 12 ∧ i = .int .i64 j ∧ out = .slice ao (l.length + j) cap ∧ Mod [] w wr ∧ Ow wr 5 1 (.slice ao (l.length + j) cap) (l.length + j) (bv (l ++ marks 1 j)) ∧ ∀ k ∈ blks (.slice ao (l.length + j) cap), w.heap.size ≤ k) (fun _ i _ => 12 - (intOf i).toNat)
  case atStart => exact ⟨0, ao2, cap2, by omega, rfl, by simp, hmA, by simpa [marks] using ho2, by simpa using hnA⟩
  case round =>
    obtain ⟨j, ao, cap, hj, rfl, rfl, hmr, hor, hnr⟩ := hrel
    by_cases hlt : j < 12
    · have y1 : (j : Int) < 12 := by omega
      go_wp2_with (first | (with_reducible refine st_bslice ?_) | (go_at_call 34; refine (markByte_any 1 j _ (by omega) (by omega) (by omega) (by omega)).mono ?_; rintro e w3 ⟨rfl, rfl⟩))
      refine StopOp.go rfl fun K hK => ?_
      refine wp_bslice stB [.int .u8 ((mb 1 j).toNat : Nat)] rfl (by decide) (by rfl) (by simp [Value.cells]) ?_
      intro c w4 hc1 hc2 hm4 hB4
      simp only [put_some, List.set_cons_succ, List.set_cons_zero]
      refine hK _ _ ?_
      clear hK K
      have hb4 : Bs w4 (.slice (some ⟨c, 0, none⟩) 1 1) [mb 1 j] := Bs.of_blk (l := [mb 1 j]) (rest := []) hB4 (by simp) (by omega)
      have hor4 := hor.ext hm4
      go_wp2_with (with_reducible refine st_append ?_)
      refine StopOp.go rfl fun K hK => ?_
      refine wp_append_ow stB (by rfl) (by rfl) hor4 hb4 (bv_one _) (by simp; omega) (by simp; omega) ?_
      intro v5 w5 ho5 hm5 hb5
      simp only [put_some, List.set_cons_succ, List.set_cons_zero]
      refine hK _ _ ?_
      clear hK K
      rw [List.length_singleton, Nat.add_assoc] at ho5
      obtain ⟨ao5, cap5, rfl, _, _⟩ := ho5.sl.form
      have s4 := hm4.size
      have sr := hmr.size
      go_wp2_with fail
      go_roundw
      case rel =>
        refine ⟨j + 1, ao5, cap5, by omega, by go_num, rfl, (hmr.ext hm4).fresh hm5 hnr, ?_, fun k hk => (hb5 k hk).elim (hnr k) fun h => by omega⟩
        rw [marks_succ, ← List.append_assoc, bv_append]
        exact ho5
      case measure => simp [intOf]; omega
    · obtain rfl : j = 12 := by omega
      rcases hor.blk with ⟨h, _⟩ | ⟨b, cap', rest, h, hB, h1, h2, h3, h4⟩
      · injection h with _ h; omega
      · injection h with e1 e2 e3
        subst e1 e3
        go_wp2_with fail
        go_ret
        exact ⟨b, cap, rfl, hnr b (by simp [blks]), ⟨rest, hB, by simpa using h3, h2⟩, hmr⟩
end Go.Proofs.YtfepggdljhiemaaGreatDoor
