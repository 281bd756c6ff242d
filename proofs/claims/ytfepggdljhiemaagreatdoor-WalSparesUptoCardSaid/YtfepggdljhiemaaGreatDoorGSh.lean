import Derived.Test.YtfepggdljhiemaaGreatDoorGOct
import Derived.Laws.IdiomCopy
import Derived.Lib.SlBytesConst
import Derived.Test.YtfepggdljhiemaaGreatDoorGCr
import Derived.Test.YtfepggdljhiemaaGreatDoorGOe
import Derived.Deep.DeepCutAuto
import Derived.Test.YtfepggdljhiemaaGreatDoorGOn
/-! Bytes made of a string that is known: a block whose mark lies behind its cells; appends onto it. -/
set_option linter.unusedVariables false
set_option linter.unusedSimpArgs false
set_option maxRecDepth 100000
namespace Go.Proofs.YtfepggdljhiemaaGreatDoor
open Go.RowKit Gw

theorem setCells_row (g : Nat) (t : TypeId) (f : Nat × Nat) : ∀ (vs : List Value) (o : Nat) (cur : Array Value) (w : World), w.heap[g]? = some (.cells cur t f) → o + vs.length ≤ cur.size →
    w.setCells g o vs = w.setRow g (cur.toList.take o ++ vs ++ cur.toList.drop (o + vs.length)).toArray
  | [], o, cur, w, hg, _ => by
    simp only [World.setCells, List.append_nil, List.length_nil, Nat.add_zero, List.take_append_drop, Array.toArray_toList]
    rw [setRow_self w g cur t f hg]
  | v :: r, o, cur, w, hg, hl => by
    have ih := setCells_row g t f r (o + 1) (cur.setIfInBounds o v) (w.setRow g (cur.setIfInBounds o v)) (setRow_heap w g cur _ t f hg) (by simp at hl ⊢; omega)
    rw [World.setCells, setCell_eq_setRow w g o cur t f v hg, ih, setRow_setRow]
    congr 2
    have e := list_seg_step cur.toList o v r (by simp at hl ⊢; omega)
    simpa [Array.toList_setIfInBounds, Nat.add_assoc] using e
/-- bytes at the head of a block of their own, its mark behind its cells -/
structure Oz (w : World) (v : Value) (l : List UInt8) : Prop where
  own : ∃ g cap cur f, v = .slice (some ⟨g, 0, none⟩) l.length cap ∧ w.heap[g]? = some (.cells cur 5 f) ∧ (∀ j, j < cur.size → ¬ (f.1 ≤ j ∧ j < f.2)) ∧ l.length ≤ cap ∧ cap ≤ 9223372036854775807 ∧ cur.size = cap ∧ cur.toList.take l.length = bv l
theorem Oz.bs {w : World} {v : Value} {l : List UInt8} (h : Oz w v l) : Bs w v l := by
  obtain ⟨g, cap, cur, f, rfl, hg, hf, h1, h2, h3, h4⟩ := h.own
  refine ⟨_, _, rfl, by rw [bv_length, Nat.mul_one], h1, h2, (fun h => nomatch h), fun ad had => ?_⟩
  cases had
  refine ⟨fun _ => rfl, fun j u hu => ?_⟩
  rw [cell_of_row w g (0 + j) cur 5 f hg]
  rw [← h4, List.getElem?_take] at hu
  split at hu
  · simpa using hu
  · cases hu
theorem Oz.lt {w : World} {v : Value} {l : List UInt8} (h : Oz w v l) : ∀ g ∈ blks v, g < w.heap.size := fun k hk => by
  obtain ⟨g, cap, cur, f, rfl, hg, _⟩ := h.own
  obtain rfl : k = g := by simpa [blks] using hk
  exact (Array.getElem?_eq_some_iff.1 hg).1
theorem Oz.mod {w w' : World} {v : Value} {l : List UInt8} {L : List Nat} (h : Oz w v l) (hm : Mod L w w') (hL : ∀ g ∈ blks v, g ∉ L) : Oz w' v l := by
  have hlt := h.lt
  obtain ⟨g, cap, cur, f, rfl, hg, h1⟩ := h.own
  have hk : g ∈ blks (.slice (some ⟨g, 0, none⟩) l.length cap) := by simp [blks]
  exact ⟨g, cap, cur, f, rfl, (hm.block g (hlt g hk) (hL g hk)).trans hg, h1⟩
theorem Oz.ext {w w' : World} {v : Value} {l : List UInt8} (h : Oz w v l) (hm : Mod [] w w') : Oz w' v l := h.mod hm (by simp)
theorem Oz.of {w : World} {v : Value} {l : List UInt8} (h : Ob w v l) (hl : l ≠ []) : Oz w v l := by
  obtain ⟨hl', ⟨_, h0⟩ | ⟨g, cap, cur, rfl, _, hg, hc, hm, hs, ht⟩⟩ := (show w.ownsRow 0 5 1 v l.length (bv l) from h)
  · exact absurd (List.eq_nil_of_length_eq_zero h0) hl
  · exact ⟨g, cap, cur, (0, 0), rfl, hg, fun j _ => by simp, hc, by unfold maxLen at hm; omega, by simpa using hs, by simpa using ht⟩
theorem Oz.frm {w : World} {v : Value} {l : List UInt8} {n : Nat} (h : Oz w v l) (hl : l.length = n) : ∃ ao cap, v = .slice ao n cap ∧ n ≤ cap ∧ cap ≤ 9223372036854775807 := by
  subst hl; exact Sl.form h.bs
theorem Oz.ne {w : World} {v : Value} {l : List UInt8} {g : Nat} {t : TypeId} {cs : List Value} (h : Oz w v l) (hb : Blk w g t cs) (hne : 5 ≠ t) : g ∉ blks v := fun hg => by
  obtain ⟨k, cap, cur, f, rfl, hk, _⟩ := h.own
  obtain rfl : g = k := by simpa [blks] using hg
  unfold Blk at hb
  rw [hb] at hk
  injection hk with hk
  injection hk with _ h2
  exact hne h2.symm
/-- the bytes of a string that is known: the slice's block gets its mark -/
theorem bytes_const {w : World} {g : Nat} {l : List UInt8} {n : Nat} (hB : Blk w g 5 (bv l)) (hn : l.length = n) (hl : n ≤ 1000000) : ∃ w', (convert 33 33 (.slice (some ⟨g, 0, none⟩) n n)).run Tryz.prog w = .ok (.slice (some ⟨g, 0, none⟩) n n) w' ∧ Oz w' (.slice (some ⟨g, 0, none⟩) n n) l ∧ Mod [g] w w' := by
  subst hn
  have hlt := hB.lt
  have hB' : w.heap[g]? = some (.cells (bv l).toArray 5 (0, 0)) := hB
  have hsh : w.shape? g = some (5, (bv l).length) := by
    unfold World.shape?
    rw [hB']
    simp
  have hnew : (w.freeze ⟨g, (bv l).length, none⟩ 1).heap[g]? = some (.cells (bv l).toArray 5 ((bv l).length, (bv l).length + 1)) := by
    unfold World.freeze
    rw [if_neg (by decide)]
    simp only [Array.getElem?_modify, if_pos, hB', Option.map_some]
    rfl
  refine ⟨w.freeze ⟨g, (bv l).length, none⟩ 1, ?_, ⟨g, l.length, _, _, rfl, hnew, fun j hj => ?_, Nat.le_refl _, by omega, by simp [bv_length], ?_⟩, ⟨rfl, rfl, rfl, ?_, fun k _ hk => ?_⟩⟩
  · simp [convert, run_underlying Tryz.underlying33, run_underlying Tryz.underlying5, markStringish, hsh]
  · simp at hj
    dsimp only
    omega
  · exact List.take_of_length_le (by rw [bv_length]; exact Nat.le_refl _)
  · unfold World.freeze
    rw [if_neg (by decide)]
    simp
  · unfold World.freeze
    rw [if_neg (by decide)]
    simp only [Array.getElem?_modify]
    rw [if_neg (fun e => hk (by simp [e]))]
theorem run_append_oz (w : World) (ty : TypeId) {v x : Value} {m : Nat} {l ys : List UInt8} (hv : Oz w v l) (hx : Sl w 1 x m (bv ys)) (hb : l.length + m ≤ 140737488355328) :
    ∃ v' w', (Builtin.append_ #[33, 33] ty #[v, x]).run Tryz.prog w = .ok v' w' ∧ Oz w' v' (l ++ ys) ∧ Mod (blks v) w w' ∧ (∀ k ∈ blks v', k ∈ blks v ∨ w.heap.size ≤ k) := by
  have hvS := hv.bs
  have hym : ys.length = m := by have := hx.len; rw [bv_length, Nat.mul_one] at this; exact this
  subst hym
  have hv0 := hv
  obtain ⟨g, cap, cur, f, rfl, hg, hf, hnc, hcm, hcs, ht⟩ := hv.own
  have hll : (l ++ ys).length = l.length + ys.length := List.length_append
  by_cases hfull : ys.length = 0 ∨ cap < l.length + ys.length
  · obtain ⟨v', w', hr, h2, h3, h4, h5⟩ := run_append_cp stB w ty (by unfold Bs at hvS; exact hvS) hx (bv_one _) (by omega) (by omega) hfull
    by_cases hm : ys.length = 0
    · obtain ⟨rfl, rfl⟩ := h4 hm
      obtain rfl : ys = [] := List.eq_nil_of_length_eq_zero hm
      rw [List.append_nil]
      exact ⟨_, _, hr, hv0, Mod.refl _ _, fun k hk => .inl hk⟩
    · obtain ⟨h6, h7⟩ := h5 hm
      refine ⟨v', w', hr, Oz.of (by unfold Ob; rw [hll, bv_append]; exact h6) (fun h0 => hm (by rw [(List.append_eq_nil_iff.1 h0).2]; rfl)), h3.weak (by simp), fun k hk => .inr (h7 k hk)⟩
  · obtain ⟨i, hi, hz, hs, hby⟩ := info_parts stB.info
    have hne : bv ys ≠ [] := fun h0 => hfull (.inl (by rw [← bv_length, h0]; rfl))
    obtain ⟨b, off, cap', rfl, _, _, hcell⟩ := hx.at hne
    have hfc := run_firstCells_some (P := Tryz.prog) w i.size ys.length ⟨b, off, none⟩ ys.length cap' (bv ys) (by rw [bv_length, hs, Nat.mul_one]) (fun j u hu => by rw [Addr.add_lit]; exact hcell j u hu)
    have hst := run_storeCells_cells (P := Tryz.prog) g l.length (bv ys) 0 w (fun j hj => by
        rw [bv_length] at hj
        rw [cell_of_row w g _ cur 5 f hg, Array.getElem?_eq_getElem (by omega)]
        rfl) (fun j hj => by
        rw [bv_length] at hj
        have := hf (l.length + 0 + j) (by omega)
        simp only [World.frozen?, hg, Bool.and_eq_false_iff, decide_eq_false_iff_not]
        omega) (bv_one _)
    rw [Nat.add_zero, setCells_row g 5 f (bv ys) l.length cur w hg (by rw [bv_length]; omega)] at hst
    have hroom : l.length + ys.length ≤ cap := by omega
    refine ⟨.slice (some ⟨g, 0, none⟩) (l.length + ys.length) cap, w.setRow g (cur.toList.take l.length ++ bv ys ++ cur.toList.drop (l.length + (bv ys).length)).toArray, ?_, ⟨g, cap, _, f, by rw [hll], setRow_heap w g cur _ 5 f hg, fun j hj => hf j (by simp [bv_length] at hj; omega), by omega, hcm, by simp [bv_length]; omega, ?_⟩, ⟨rfl, rfl, rfl, by simp, fun k _ hk => setRow_other w g k _ (by simpa [blks] using hk)⟩, fun k hk => .inl (by simpa [blks] using hk)⟩
    · rw [hs] at hfc
      simp [Builtin.append_, run_underlying stB.under, sizeOf, typeInfo, hi, hs, Builtin.lenOf, hroom, Addr.add_lit, hfc, hst]
    · rw [ht, bv_append, hll]
      exact List.take_left' (by rw [List.length_append, bv_length, bv_length])
section
variable {a : Act} {w : World} {K : Act → World → Prop} {Q : Exit → Act → World → Prop} {d : Option Tmp} {ty : TypeId} {ps : String} {af : Array Edge} {gd : Option (Nat × Bool)}
theorem wp_append_oz {s x : Operand} {v xv : Value} {m : Nat} {l ys : List UInt8} (hs : a.eval s = v) (hx : a.eval x = xv) (hv : Oz w v l) (hy : Sl w 1 xv m (bv ys)) (hb : l.length + m ≤ 140737488355328)
    (h : ∀ v' w', Oz w' v' (l ++ ys) → Mod (blks v) w w' → (∀ k ∈ blks v', k ∈ blks v ∨ w.heap.size ≤ k) → K (a.put d v') w') :
    Oper.wp Tryz.prog { dst := d, op := .call { callee := .builtin .append, args := #[s, x], argTypes := #[33, 33] }, type := ty, pos := ps, after := af, guard := gd } a w K Q := by
  obtain ⟨v', w', hr, h2, h3, h4⟩ := run_append_oz w ty hv hy hb
  unfold Oper.wp execOp
  simp only [resolve, invoke, builtin, Sem.run_bind, Sem.run_pure, Result.andThen_ok, List.map_toArray, List.map_cons, List.map_nil, hs, hx, hr]
  exact h v' w' h2 h3 h4
end
end Go.Proofs.YtfepggdljhiemaaGreatDoor

/-! Slots: may a header be; Header. -/
namespace Go.Proofs.YtfepggdljhiemaaGreatDoor
open Go.RowKit Gw

def Hd.cells (h : Hd) : List Value := [.int .u64 (h.g : Nat), .int .u64 (h.c : Nat), .int .i64 h.l, .int .u32 (h.s : Nat)]
def Hd.v (h : Hd) : Value := .agg #[.int .u64 (h.g : Nat), .int .u64 (h.c : Nat), .int .i64 h.l, .int .u32 (h.s : Nat)]
def HputP (h : Hd) (w : World) (e : Ending) (w' : World) : Prop := ∃ v, e = .returned (.tuple #[v, .int .i64 (putE h)]) ∧ Ob w' v (putB h) ∧ New w v ∧ Mod [] w w'
end Go.Proofs.YtfepggdljhiemaaGreatDoor

/-! Numbers that a reader takes, where they are there. -/
namespace Go.Proofs.YtfepggdljhiemaaGreatDoor
open Go.RowKit Gw

/-! a number that is there -/
theorem tkn_drop (b : List UInt8) (p k : Nat) (h : p + k ≤ b.length) : tkGot (b.drop p) 0 k = (b.drop p).take k ∧ got (b.drop p) 0 k = nb b p k ∧ tkRest (b.drop p) 0 k = b.drop (p + k) ∧ tkErr (b.drop p) 0 k = 0 := by
  have h1 : (0 : Int) ≤ (k : Int) ∧ (k : Int) ≤ ((b.drop p).length : Int) := by rw [List.length_drop]; omega
  have e : tkGot (b.drop p) 0 k = (b.drop p).take k := by unfold tkGot; rw [if_pos ⟨rfl, h1.1, h1.2⟩, Int.toNat_natCast]
  refine ⟨e, ?_, ?_, ?_⟩
  · unfold got nb; rw [e]
  · unfold tkRest; rw [if_pos rfl, if_pos h1, Int.toNat_natCast, List.drop_drop]
  · unfold tkErr; rw [if_pos rfl, if_neg (by omega), if_neg (by omega)]
def NextN (b : List UInt8) (r q p k : Nat) (kd : IntKind) (w : World) (e : Ending) (w' : World) : Prop := e = .returned (.int kd (nb b p k)) ∧ Rd w' r q (b.drop (p + k)) 0 ∧ Mod [q] w w'
theorem nextN_of {b : List UInt8} {r q p k : Nat} {kd : IntKind} {w : World} (h : p + k ≤ b.length) {e : Ending} {w' : World} (he : e = .returned (.int kd (got (b.drop p) 0 k))) (hp : TakePost w r q (b.drop p) 0 k w') : NextN b r q p k kd w e w' := by
  obtain ⟨_, t1, t2, t3⟩ := tkn_drop b p k h
  unfold TakePost at hp
  rw [t2, t3] at hp
  exact ⟨by rw [he, t1], hp⟩
theorem nn2 (r q : Nat) (b : List UInt8) (p : Nat) (w : World) (h : Rd w r q (b.drop p) 0) (hp : p + 2 ≤ b.length) : Calls Tryz.prog 179 #[.pointer (some ⟨r, 0, none⟩)] w (NextN b r q p 2 .u16 w) :=
  (rtwo_any r q _ 0 w h).mono fun e w' ⟨h1, h2⟩ => nextN_of hp h1 h2
theorem nn4 (r q : Nat) (b : List UInt8) (p : Nat) (w : World) (h : Rd w r q (b.drop p) 0) (hp : p + 4 ≤ b.length) : Calls Tryz.prog 183 #[.pointer (some ⟨r, 0, none⟩)] w (NextN b r q p 4 .u32 w) :=
  (rfour_any r q _ 0 w h).mono fun e w' ⟨h1, h2⟩ => nextN_of hp h1 h2
theorem nn8 (r q : Nat) (b : List UInt8) (p : Nat) (w : World) (h : Rd w r q (b.drop p) 0) (hp : p + 8 ≤ b.length) : Calls Tryz.prog 181 #[.pointer (some ⟨r, 0, none⟩)] w (NextN b r q p 8 .u64 w) :=
  (reight_any r q _ 0 w h).mono fun e w' ⟨h1, h2⟩ => nextN_of hp h1 h2
theorem nntake (r q : Nat) (b : List UInt8) (p k : Nat) (w : World) (h : Rd w r q (b.drop p) 0) (hp : p + k ≤ b.length) (hl : b.length ≤ 140737488355328) :
    Calls Tryz.prog 182 #[.pointer (some ⟨r, 0, none⟩), .int .i64 (k : Nat)] w fun e w' => ∃ v, e = .returned v ∧ Ob w' v ((b.drop p).take k) ∧ New w v ∧ Rd w' r q (b.drop (p + k)) 0 ∧ Mod [q] w w' := by
  obtain ⟨t0, _, t2, t3⟩ := tkn_drop b p k hp
  refine (rtake_any r q (b.drop p) 0 k w h (by omega) (by omega) (by rw [List.length_drop]; omega)).mono ?_
  rintro e w' ⟨v, he, ho, hn, hp'⟩
  unfold TakePost at hp'
  rw [t2, t3] at hp'
  rw [t0] at ho
  exact ⟨v, he, ho, hn, hp'⟩
theorem Ob.nx {w : World} {v : Value} {l : List UInt8} {n : Nat} (h : Ob w v l) (hl : l.length = n) : ∃ ao cap, v = .slice ao n cap ∧ n ≤ cap ∧ cap ≤ 9223372036854775807 := by
  subst hl; exact h.sl.form
end Go.Proofs.YtfepggdljhiemaaGreatDoor

/-! Slots: Read. -/
namespace Go.Proofs.YtfepggdljhiemaaGreatDoor
open Go.RowKit Gw

def HgetP (b : List UInt8) (w : World) (e : Ending) (w' : World) : Prop := e = .returned (.tuple #[(getH b).v, .int .i64 (errH b)]) ∧ Mod [] w w'
theorem gang_len : gang.length = 4 := rfl
theorem Ob.frn {w : World} {v : Value} {l : List UInt8} {n : Nat} (h : Ob w v l) (hl : l.length = n) : ∃ ao cap, v = .slice ao n cap ∧ n ≤ cap ∧ cap ≤ 9223372036854775807 := by
  subst hl; exact h.sl.form
theorem Bs.prefz {w : World} {ao : Option Addr} {n cap k : Nat} {l : List UInt8} (h : Bs w (.slice ao n cap) l) (hn : n = l.length) (hk : k ≤ n) (hc : k ≤ cap) : Bs w (.slice ao k cap) (l.take k) := by
  subst hn
  have h2 := Sl.cut (lo := 0) (hi := k) (m := cap) h (Nat.zero_le _) hk hc (Nat.le_refl _)
  have hl : (l.take k).length = k := by rw [List.length_take]; omega
  unfold Bs
  rw [hl]
  have e : bv (l.take k) = ((bv l).drop (0 * 1)).take ((k - 0) * 1) := by unfold bv; simp
  rw [e]
  have e2 : ao.map (·.add (0 * 1)) = ao := by cases ao <;> simp [Addr.add]
  rw [e2] at h2
  simpa using h2
end Go.Proofs.YtfepggdljhiemaaGreatDoor

/-! Slots: the document's May, Header. -/
namespace Go.Proofs.YtfepggdljhiemaaGreatDoor
open Go.RowKit Gw

theorem Bs.onn {w : World} {v : Value} {l : List UInt8} {n : Nat} (h : Bs w v l) (hn : l.length = n) : Sl w 1 v n (bv l) := by
  subst hn
  exact h
theorem Ob.frm {w : World} {v : Value} {l : List UInt8} {n : Nat} (h : Ob w v l) (hl : l.length = n) : ∃ ao cap, v = .slice ao n cap ∧ n ≤ cap ∧ cap ≤ 9223372036854775807 := by
  subst hl; exact h.sl.form
def HputR (h : Hd) (w : World) (e : Ending) (w' : World) : Prop := ∃ v, e = .returned (.tuple #[v, .int .i64 (putE h)]) ∧ Bs w' v (putB h) ∧ New w v ∧ (∀ g ∈ blks v, g < w'.heap.size) ∧ Mod [] w w'
end Go.Proofs.YtfepggdljhiemaaGreatDoor

/-! Slots: the document's Read. -/
namespace Go.Proofs.YtfepggdljhiemaaGreatDoor
open Go.RowKit Gw

theorem Bs.subz {w : World} {b o : Nat} {n cap lo hi : Nat} {l : List UInt8} (h : Bs w (.slice (some ⟨b, o, none⟩) n cap) l) (h1 : lo ≤ hi) (h2 : hi ≤ l.length) (hc : n ≤ cap) (hn : n = l.length) (hcm : lo < cap) : Bs w (.slice (some ⟨b, o + lo, none⟩) (hi - lo) (cap - lo)) ((l.drop lo).take (hi - lo)) := by
  subst hn
  have h3 := Sl.cut (lo := lo) (hi := hi) (m := cap) h h1 h2 (by omega) (Nat.le_refl _)
  have hl : ((l.drop lo).take (hi - lo)).length = hi - lo := by rw [List.length_take, List.length_drop]; omega
  unfold Bs
  rw [hl]
  have e : bv ((l.drop lo).take (hi - lo)) = ((bv l).drop (lo * 1)).take ((hi - lo) * 1) := by
    unfold bv
    rw [Nat.mul_one, Nat.mul_one, List.map_take, List.map_drop]
  rw [e]
  rw [if_neg (by omega)] at h3
  simpa only [Nat.mul_one, Option.map_some, Addr.add_lit] using h3
end Go.Proofs.YtfepggdljhiemaaGreatDoor
