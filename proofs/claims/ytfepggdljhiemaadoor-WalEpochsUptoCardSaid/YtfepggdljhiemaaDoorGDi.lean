import Derived.Test.YtfepggdljhiemaaDoorGDs
import Derived.Test.YtfepggdljhiemaaDoorGFl
import Derived.Test.YtfepggdljhiemaaDoorRegT
/-! Small laws about what lies apart. -/
set_option linter.unusedVariables false
set_option linter.unusedSimpArgs false
set_option maxRecDepth 100000
namespace Go.Proofs.YtfepggdljhiemaaDoor
open Go.RowKit Gw

section
variable {w0 w w' : World} {v : Value} {l : List UInt8} {L L' : List Nat}
/-- bytes that lie apart from a disk keep through what turns it, and lie apart from it still -/
theorem Ob.far (h : Ob w v l) (hd : ∀ b ∈ blks v, b ∉ L) (hm : Mod L w w') (hL : ∀ k ∈ L', k ∈ L ∨ w.heap.size ≤ k) : Ob w' v l ∧ ∀ b ∈ blks v, b ∉ L' :=
  ⟨Ow.mod h hm hd, fun b hb hh => (hL b hh).elim (hd b hb) fun h2 => by have := Ow.lt h b hb; omega⟩
theorem own_step (h0 : Mod [] w0 w) (hO : ∀ k ∈ L, w0.heap.size ≤ k) (hm : Mod L w w') (hL : ∀ k ∈ L', k ∈ L ∨ w.heap.size ≤ k) : Mod [] w0 w' ∧ ∀ k ∈ L', w0.heap.size ≤ k :=
  ⟨h0.fresh hm hO, fun k hk => (hL k hk).elim (hO k) fun h => Nat.le_trans h0.size h⟩
end
theorem cell_eq {w w' : World} {b i : Nat} (hm : Mod [] w w') (hb : b < w.heap.size) : w'.cell? ⟨b, i, none⟩ = w.cell? ⟨b, i, none⟩ := by
  unfold World.cell?
  rw [hm.block b hb (by simp)]
theorem Blk.far {w w' : World} {L L' : List Nat} {g : Nat} {t : TypeId} {cs : List Value} (h : Blk w g t cs) (hd : g ∉ L) (hm : Mod L w w') (hL : ∀ k ∈ L', k ∈ L ∨ w.heap.size ≤ k) : Blk w' g t cs ∧ g ∉ L' :=
  ⟨h.mod hm hd, fun hh => (hL g hh).elim hd fun h2 => by have := h.lt; omega⟩
theorem cell_u8 {w : World} {g : Nat} {l : List UInt8} {rest : List Value} (h : Blk w g 5 (bv l ++ rest)) {i : Nat} (hi : i < l.length) : w.cell? ⟨g, i, none⟩ = some (.int .u8 (l[i].toNat : Nat)) := by
  refine h.cell' ?_
  rw [List.getElem?_append_left (by rw [bv_length]; omega)]
  simp [bv, hi]
end Go.Proofs.YtfepggdljhiemaaDoor

/-! Disks: Image, Copy. -/
namespace Go.Proofs.YtfepggdljhiemaaDoor
open Go.RowKit Gw

/-- rows of bytes of one's own: the list and what lies in it, all of it younger than base -/
structure RowsO (w : World) (base : Nat) (v : Value) (L : List (Value × List UInt8)) : Prop where
  ow : Ow w 23 1 v L.length (L.map (·.1))
  fam : Fam w base L
  nw : ∀ k ∈ blks v, base ≤ k
section
variable {w w0 w1 w2 w3 w' : World} {base : Nat} {v v' u : Value} {L : List (Value × List UInt8)} {l : List UInt8} {M : List Nat}
theorem RowsO.nil (w : World) (base : Nat) : RowsO w base (.slice none 0 0) [] := ⟨Ow.nil _ _ _, Fam.nil _ _, by simp [blks]⟩
theorem RowsO.mod (h : RowsO w base v L) (hm : Mod M w w') (hM : ∀ k ∈ M, k < base) : RowsO w' base v L :=
  ⟨h.ow.mod hm fun b hb hM' => by have := h.nw b hb; have := hM b hM'; omega, h.fam.mod hm fun p hp b hb hM' => by have := (h.fam.ob p hp).2 b hb; have := hM b hM'; omega, h.nw⟩
theorem RowsO.ext (h : RowsO w base v L) (hm : Mod [] w w') : RowsO w' base v L := h.mod hm (by simp)
/-- one more row -/
theorem RowsO.snoc (h : RowsO w base v L) (hb : base ≤ w.heap.size) (hm1 : Mod [] w w1) (ho : Ob w1 u l) (hn : New w u) (hm2 : Mod [] w1 w2) (hO : Ow w3 23 1 v' (L.length + 1) (L.map (·.1) ++ [u])) (hm3 : Mod (blks v) w2 w3)
    (hb3 : ∀ k ∈ blks v', k ∈ blks v ∨ w2.heap.size ≤ k) : RowsO w3 base v' (L ++ [(u, l)]) := by
  have h2 := h.ext (hm1.ext hm2)
  refine ⟨by simpa using hO, ?_, fun k hk => (hb3 k hk).elim (h.nw k) fun h => Nat.le_trans hb (Nat.le_trans (hm1.ext hm2).size h)⟩
  have hf : Fam w2 base (L ++ (u, l) :: []) := Fam.ins (by simpa using h.fam) hb (hm1.ext hm2) (ho.ext hm2) hn
  exact hf.atOw h2.ow hm3 (by decide)
theorem RowsO.row (h : RowsO w base v L) {i : Nat} (hi : i < L.length) : Ob w L[i].1 L[i].2 := (h.fam.ob _ (List.getElem_mem hi)).1
end
theorem sl_at {w : World} {ao : Option Addr} {n cap : Nat} {xs : List Value} (h : Sl w 1 (.slice ao n cap) n xs) {i : Nat} (hi : i < xs.length) : ∃ b o, ao = some ⟨b, o, none⟩ ∧ w.cell? ⟨b, o + i, none⟩ = some xs[i] := by
  obtain ⟨b, o, c, hv, _, _, hcell⟩ := h.at (by intro h0; rw [h0] at hi; simp at hi)
  injection hv with e1 e2 e3
  exact ⟨b, o, e1, hcell i _ (List.getElem?_eq_getElem hi)⟩
/-- what Image tells -/
def ImgPost (w : World) (rows : List (List UInt8)) (e : Ending) (w' : World) : Prop := ∃ v dq, e = .returned v ∧ RowsO w' w.heap.size v dq ∧ dq.map (·.2) = rows ∧ Mod [] w w'
end Go.Proofs.YtfepggdljhiemaaDoor

/-! Disks: Copy. -/
namespace Go.Proofs.YtfepggdljhiemaaDoor
open Go.RowKit Gw

theorem zero_waits2 : (Tryd.prog.info? 141).map (·.zero) = some (some (.agg #[.int .i64 0, .slice none 0 0])) := by kernel_rfl
/-- a disk of which the first writes wait -/
def Dm.upto (m : Dm) (j : Nat) : Dm := ⟨m.sz, m.dur, m.row.take j⟩
theorem Dm.ok.upto {m : Dm} (h : m.ok) (j : Nat) : (m.upto j).ok := ⟨h.s1, h.s2, h.n1, h.n2, h.d, fun x hx => h.r x (List.mem_of_mem_take hx)⟩
theorem Dm.upto_succ (m : Dm) {j : Nat} (h : j < m.row.length) : (m.upto j).write m.row[j].1 m.row[j].2 = m.upto (j + 1) := by
  unfold Dm.upto Dm.write
  simp only
  rw [List.take_succ_eq_append_getElem h]
theorem Dm.upto_all (m : Dm) : m.upto m.row.length = m := by unfold Dm.upto; rw [List.take_length]
/-- a copy lies in new memory -/
def CopyPost (w : World) (m : Dm) (e : Ending) (w' : World) : Prop := ∃ p L, e = .returned (.pointer (some ⟨p, 0, none⟩)) ∧ Own w w' p m L ∧ Mod [] w w'
theorem Fam.low {w : World} {base : Nat} {L : List (Value × List UInt8)} (h : Fam w base L) : Fam w 0 L := ⟨fun p hp => ⟨(h.ob p hp).1, fun _ _ => Nat.zero_le _⟩, h.dj⟩
theorem RowsO.weak {w : World} {b c : Nat} {v : Value} {L : List (Value × List UInt8)} (h : RowsO w b v L) (hc : c ≤ b) : RowsO w c v L := ⟨h.ow, ⟨fun p hp => ⟨(h.fam.ob p hp).1, fun k hk => Nat.le_trans hc ((h.fam.ob p hp).2 k hk)⟩, h.fam.dj⟩, fun k hk => Nat.le_trans hc (h.nw k hk)⟩
end Go.Proofs.YtfepggdljhiemaaDoor

/-! The kit's functions over rows and fates: SameRows, LentFates, KeptFates, CopyFates. -/
namespace Go.Proofs.YtfepggdljhiemaaDoor
open Go.RowKit Gw

/-- rows of bytes, readable -/
def RowsR (w : World) (v : Value) (L : List (Value × List UInt8)) : Prop := Sl w 1 v L.length (L.map (·.1)) ∧ ∀ p ∈ L, Bs w p.1 p.2
theorem RowsR.ext {w w' : World} {v : Value} {L : List (Value × List UInt8)} (h : RowsR w v L) (hm : Mod [] w w') : RowsR w' v L := ⟨Sl.ext h.1 hm, fun p hp => (h.2 p hp).ext hm⟩
theorem RowsR.nil (w : World) : RowsR w (.slice none 0 0) [] := ⟨Sl.nil w 1, fun _ h => nomatch h⟩
theorem sl_at' {w : World} {ao : Option Addr} {n cap : Nat} {xs : List Value} (h : Sl w 1 (.slice ao n cap) n xs) {i : Nat} (hi : i < xs.length) : ∃ b o, ao = some ⟨b, o, none⟩ ∧ w.cell? ⟨b, o + i, none⟩ = some xs[i] := by
  obtain ⟨b, o, c, hv, _, _, hcell⟩ := h.at (by intro h0; rw [h0] at hi; simp at hi)
  injection hv with e1 e2 e3
  exact ⟨b, o, e1, hcell i _ (List.getElem?_eq_getElem hi)⟩
/-! ### Fates -/
def fmark (k : Int) (i : Nat) : Int × Int := (0, 1000003 * (k + 7) + i)
def fmarks (k : Int) (n : Nat) : List (Int × Int) := (List.range n).map (fmark k)
theorem fmarks_length (k : Int) (n : Nat) : (fmarks k n).length = n := by simp [fmarks]
theorem fmarks_succ (k : Int) (n : Nat) : fmarks k (n + 1) = fmarks k n ++ [fmark k n] := by simp [fmarks, List.range_succ]
theorem fmarks_at (k : Int) (n i : Nat) (h : i < (fmarks k n).length) : (fmarks k n)[i] = fmark k i := by simp [fmarks]
theorem fcells_append (A B : List (Int × Int)) : fcells (A ++ B) = fcells A ++ fcells B := by unfold fcells; rw [List.flatMap_append]
theorem fcells_one (A : List (Int × Int)) : ∀ u ∈ fcells A, u.oneCell' = true := by
  intro u hu
  unfold fcells at hu
  obtain ⟨x, _, hx⟩ := List.mem_flatMap.1 hu
  simp at hx
  rcases hx with rfl | rfl <;> rfl
/-- lent fates -/
def LtF (w : World) (g cap : Nat) (F : List (Int × Int)) : Prop :=
  ∃ rest, Blk w g 131 (fcells (F ++ fmarks 1 12) ++ rest) ∧ (fcells (F ++ fmarks 1 12) ++ rest).length = cap * 2 ∧ cap ≤ 9223372036854775807
theorem LtF.mod {w w' : World} {g cap : Nat} {F : List (Int × Int)} {L : List Nat} (h : LtF w g cap F) (hm : Mod L w w') (hg : g ∉ L) : LtF w' g cap F := by
  obtain ⟨r, h1, h2, h3⟩ := h
  exact ⟨r, h1.mod hm hg, h2, h3⟩
theorem LtF.ext {w w' : World} {g cap : Nat} {F : List (Int × Int)} (h : LtF w g cap F) (hm : Mod [] w w') : LtF w' g cap F := h.mod hm (by simp)
theorem LtF.cap {w : World} {g cap : Nat} {F : List (Int × Int)} (h : LtF w g cap F) : F.length + 12 ≤ cap ∧ cap ≤ 9223372036854775807 := by
  obtain ⟨r, h1, h2, h3⟩ := h
  rw [List.length_append, fcells_len, List.length_append, fmarks_length] at h2
  omega
theorem LtF.fs {w : World} {g cap : Nat} {F : List (Int × Int)} (h : LtF w g cap F) : Fs w (.slice (some ⟨g, 0, none⟩) F.length cap) F := by
  have hc := h.cap
  obtain ⟨r, h1, h2, h3⟩ := h
  rw [fcells_append, List.append_assoc] at h1
  exact (Ow.of_blk (n := F.length) (cap := cap) h1 (by omega) h3 (by rw [← List.append_assoc, ← fcells_append]; exact h2) (by rw [fcells_len])).sl
theorem LtF.cell {w : World} {g cap : Nat} {F : List (Int × Int)} (h : LtF w g cap F) {i : Nat} (hi : i < F.length + 12) : ∃ x : Int × Int, x = (F ++ fmarks 1 12)[i]'(by rw [List.length_append, fmarks_length]; exact hi) ∧ w.cell? ⟨g, i * 2, none⟩ = some (.int .i64 x.1) ∧ w.cell? ⟨g, i * 2 + 1, none⟩ = some (.int .i64 x.2) := by
  obtain ⟨r, h1, h2, h3⟩ := h
  have hl : i < (F ++ fmarks 1 12).length := by rw [List.length_append, fmarks_length]; exact hi
  have hc := fcells_at _ i hl
  have hlen := fcells_len (F ++ fmarks 1 12)
  exact ⟨_, rfl, h1.cell' (by rw [List.getElem?_append_left (by omega)]; exact hc.1), h1.cell' (by rw [List.getElem?_append_left (by omega)]; exact hc.2)⟩
theorem fate_eql_same (k a : Int) (w : World) : (binOp .eql 131 (.agg #[.int .i64 k, .int .i64 a]) (.agg #[.int .i64 k, .int .i64 a])).run Tryd.prog w = .ok (.bool true) w := by
  rw [run_eql_struct, run_equalIn_agg w 9999 _ _ _ (by kernel_rfl) (by kernel_rfl)]
  go_simp
theorem Fs.at2 {w : World} {ao : Option Addr} {n cap : Nat} {F : List (Int × Int)} (h : Fs w (.slice ao n cap) F) {j : Nat} (hj : j < F.length) : ∃ b o, ao = some ⟨b, o, none⟩ ∧ w.cell? ⟨b, o + j * 2, none⟩ = some (.int .i64 F[j].1) ∧ w.cell? ⟨b, o + j * 2 + 1, none⟩ = some (.int .i64 F[j].2) := by
  obtain ⟨b, o, c, hv, _, _, hcell⟩ := Sl.at h (by intro h; have := congrArg List.length h; rw [fcells_len] at this; simp only [List.length_nil] at this; omega)
  injection hv with e1 e2 e3
  refine ⟨b, o, e1, hcell _ _ (fcells_at F j hj).1, ?_⟩
  rw [Nat.add_assoc]
  exact hcell _ _ (fcells_at F j hj).2
theorem copyF_any (F : List (Int × Int)) (v : Value) (w : World) (hv : Fs w v F) (hl : F.length ≤ 8000000000) :
    Calls Tryd.prog 28 #[v] w fun e w' => ∃ v', e = .returned v' ∧ Fs w' v' F ∧ (∀ k ∈ blks v', w.heap.size ≤ k) ∧ Mod [] w w' := by
  go_enter Tryd.func28, Tryd.ntmps28
  go_wp2_with (with_reducible refine st_append ?_)
  refine StopOp.go rfl fun K hK => ?_
  refine wp_append_ow stF (by rfl) (by rfl) (Ow.nil w _ 2) hv (fcells_one F) (by omega) (by omega) ?_
  intro v' w2 ho2 hm2 hn2
  simp only [put_some, List.set_cons_succ, List.set_cons_zero]
  refine hK _ _ ?_
  clear hK K
  go_wp2_with fail
  go_ret
  exact ⟨_, rfl, by simpa [Fs] using ho2.sl, fun k hk => (hn2 k hk).elim (fun h => by simp [blks] at h) id, hm2⟩
end Go.Proofs.YtfepggdljhiemaaDoor
