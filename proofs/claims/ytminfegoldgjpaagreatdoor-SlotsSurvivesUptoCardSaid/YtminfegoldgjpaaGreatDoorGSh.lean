import Derived.Test.YtminfegoldgjpaaGreatDoorGOct
import Derived.Laws.IdiomCopy
import Derived.Lib.SlBytesConst
import Derived.Test.YtminfegoldgjpaaGreatDoorGCr
import Derived.Test.YtminfegoldgjpaaGreatDoorGOe
import Derived.Deep.DeepCutAuto
import Derived.Test.YtminfegoldgjpaaGreatDoorGOn
set_option linter.unusedVariables false
set_option linter.unusedSimpArgs false
set_option maxRecDepth 100000
namespace Go.Proofs.YtminfegoldgjpaaGreatDoor
open Go.RowKit Gw
theorem setCells_row (g : Nat) (t : TypeId) (f : Nat × Nat) : ∀ (vs : List Value) (o : Nat) (cur : Array Value) (w : World), w.heap[g]? = some (.cells cur t f) → o + vs.length ≤ cur.size →
   w.setCells g o vs = w.setRow g (cur.toList.take o ++ vs ++ cur.toList.drop (o + vs.length)).toArray
 | [], o, cur, w, hg, _ => by
   simp only [World.setCells, List.append_nil, List.length_nil, Nat.add_zero, List.take_append_drop, Array.toArray_toList]
   rw [setRow_self w g cur t f hg]
 | v :: r, o, cur, w, hg, hl => by
   have ih := setCells_row g t f r (o + 1) (cur.setIfInBounds o v) (w.setRow g (cur.setIfInBounds o v)) (setRow_heap w g cur _ t f hg) (by simp at hl ⊢; omega)
   rw [World.setCells, setCell_eq_setRow w g o cur t f v hg, ih, setRow_setRow]
   congr 2
   have e := list_seg_step cur.toList o v r (by simp at hl ⊢; omega)
   simpa [Array.toList_setIfInBounds, Nat.add_assoc] using e
structure Oz (w : World) (v : Value) (l : List UInt8) : Prop where
 own : ∃ g cap cur f, v = .slice (some ⟨g, 0, none⟩) l.length cap ∧ w.heap[g]? = some (.cells cur 5 f) ∧ (∀ j, j < cur.size → ¬ (f.1 ≤ j ∧ j < f.2)) ∧ l.length ≤ cap ∧ cap ≤ 9223372036854775807 ∧ cur.size = cap ∧ cur.toList.take l.length = bv l
theorem Oz.bs {w : World} {v : Value} {l : List UInt8} (h : Oz w v l) : Bs w v l := by
 obtain ⟨g, cap, cur, f, rfl, hg, hf, h1, h2, h3, h4⟩ := h.own
 refine ⟨_, _, rfl, by rw [bv_length, Nat.mul_one], h1, h2, (fun h => nomatch h), fun ad had => ?_⟩
 cases had
 refine ⟨fun _ => rfl, fun j u hu => ?_⟩
 rw [cell_of_row w g (0 + j) cur 5 f hg]
 rw [← h4, List.getElem?_take] at hu
 split at hu
 · simpa using hu
 · cases hu
theorem Oz.lt {w : World} {v : Value} {l : List UInt8} (h : Oz w v l) : ∀ g ∈ blks v, g < w.heap.size := fun k hk => by
 obtain ⟨g, cap, cur, f, rfl, hg, _⟩ := h.own
 obtain rfl : k = g := by simpa [blks] using hk
 exact (Array.getElem?_eq_some_iff.1 hg).1
theorem Oz.mod {w w' : World} {v : Value} {l : List UInt8} {L : List Nat} (h : Oz w v l) (hm : Mod L w w') (hL : ∀ g ∈ blks v, g ∉ L) : Oz w' v l := by
 have hlt := h.lt
 obtain ⟨g, cap, cur, f, rfl, hg, h1⟩ := h.own
 have hk : g ∈ blks (.slice (some ⟨g, 0, none⟩) l.length cap) := by simp [blks]
 exact ⟨g, cap, cur, f, rfl, (hm.block g (hlt g hk) (hL g hk)).trans hg, h1⟩
theorem Oz.ext {w w' : World} {v : Value} {l : List UInt8} (h : Oz w v l) (hm : Mod [] w w') : Oz w' v l := h.mod hm (by simp)
theorem Oz.of {w : World} {v : Value} {l : List UInt8} (h : Ob w v l) (hl : l ≠ []) : Oz w v l := by
 obtain ⟨hl', ⟨_, h0⟩ | ⟨g, cap, cur, rfl, _, hg, hc, hm, hs, ht⟩⟩ := (show w.ownsRow 0 5 1 v l.length (bv l) from h)
 · exact absurd (List.eq_nil_of_length_eq_zero h0) hl
 · exact ⟨g, cap, cur, (0, 0), rfl, hg, fun j _ => by simp, hc, by unfold maxLen at hm; omega, by simpa using hs, by simpa using ht⟩
theorem Oz.frm {w : World} {v : Value} {l : List UInt8} {n : Nat} (h : Oz w v l) (hl : l.length = n) : ∃ ao cap, v = .slice ao n cap ∧ n ≤ cap ∧ cap ≤ 9223372036854775807 := by
 subst hl; exact Sl.form h.bs
theorem Oz.ne {w : World} {v : Value} {l : List UInt8} {g : Nat} {t : TypeId} {cs : List Value} (h : Oz w v l) (hb : Blk w g t cs) (hne : 5 ≠ t) : g ∉ blks v := fun hg => by
 obtain ⟨k, cap, cur, f, rfl, hk, _⟩ := h.own
 obtain rfl : g = k := by simpa [blks] using hg
 unfold Blk at hb
 rw [hb] at hk
 injection hk with hk
 injection hk with _ h2
 exact hne h2.symm
theorem bytes_const {w : World} {g : Nat} {l : List UInt8} {n : Nat} (hB : Blk w g 5 (bv l)) (hn : l.length = n) (hl : n ≤ 1000000) : ∃ w', (convert 39 39 (.slice (some ⟨g, 0, none⟩) n n)).run Tryz.prog w = .ok (.slice (some ⟨g, 0, none⟩) n n) w' ∧ Oz w' (.slice (some ⟨g, 0, none⟩) n n) l ∧ Mod [g] w w' := by
 subst hn
 have hlt := hB.lt
 have hB' : w.heap[g]? = some (.cells (bv l).toArray 5 (0, 0)) := hB
 have hsh : w.shape? g = some (5, (bv l).length) := by
   unfold World.shape?
   rw [hB']
   simp
 have hnew : (w.freeze ⟨g, (bv l).length, none⟩ 1).heap[g]? = some (.cells (bv l).toArray 5 ((bv l).length, (bv l).length + 1)) := by
   unfold World.freeze
   rw [if_neg (by decide)]
   simp only [Array.getElem?_modify, if_pos, hB', Option.map_some]
   rfl
 refine ⟨w.freeze ⟨g, (bv l).length, none⟩ 1, ?_, ⟨g, l.length, _, _, rfl, hnew, fun j hj => ?_, Nat.le_refl _, by omega, by simp [bv_length], ?_⟩, ⟨rfl, rfl, rfl, ?_, fun k _ hk => ?_⟩⟩
 · simp [convert, run_underlying Tryz.underlying39, run_underlying Tryz.underlying5, markStringish, hsh]
 · simp at hj
   dsimp only
   omega
 · exact List.take_of_length_le (by rw [bv_length]; exact Nat.le_refl _)
 · unfold World.freeze
   rw [if_neg (by decide)]
   simp
 · unfold World.freeze
   rw [if_neg (by decide)]
   simp only [Array.getElem?_modify]
   rw [if_neg (fun e => hk (by simp [e]))]
theorem run_append_oz (w : World) (ty : TypeId) {v x : Value} {m : Nat} {l ys : List UInt8} (hv : Oz w v l) (hx : Sl w 1 x m (bv ys)) (hb : l.length + m ≤ 140737488355328) :
   ∃ v' w', (Builtin.append_ #[39, 39] ty #[v, x]).run Tryz.prog w = .ok v' w' ∧ Oz w' v' (l ++ ys) ∧ Mod (blks v) w w' ∧ (∀ k ∈ blks v', k ∈ blks v ∨ w.heap.size ≤ k) := by
 have hvS := hv.bs
 have hym : ys.length = m := by have := hx.len; rw [bv_length, Nat.mul_one] at this; exact this
 subst hym
 have hv0 := hv
 obtain ⟨g, cap, cur, f, rfl, hg, hf, hnc, hcm, hcs, ht⟩ := hv.own
 have hll : (l ++ ys).length = l.length + ys.length := List.length_append
 by_cases hfull : ys.length = 0 ∨ cap < l.length + ys.length
 · obtain ⟨v', w', hr, h2, h3, h4, h5⟩ := run_append_cp stB w ty (by unfold Bs at hvS; exact hvS) hx (bv_one _) (by omega) (by omega) hfull
   by_cases hm : ys.length = 0
   · obtain ⟨rfl, rfl⟩ := h4 hm
     obtain rfl : ys = [] := List.eq_nil_of_length_eq_zero hm
     rw [List.append_nil]
     exact ⟨_, _, hr, hv0, Mod.refl _ _, fun k hk => .inl hk⟩
   · obtain ⟨h6, h7⟩ := h5 hm
     refine ⟨v', w', hr, Oz.of (by unfold Ob; rw [hll, bv_append]; exact h6) (fun h0 => hm (by rw [(List.append_eq_nil_iff.1 h0).2]; rfl)), h3.weak (by simp), fun k hk => .inr (h7 k hk)⟩
 · obtain ⟨i, hi, hz, hs, hby⟩ := info_parts stB.info
   have hne : bv ys ≠ [] := fun h0 => hfull (.inl (by rw [← bv_length, h0]; rfl))
   obtain ⟨b, off, cap', rfl, _, _, hcell⟩ := hx.at hne
   have hfc := run_firstCells_some (P := Tryz.prog) w i.size ys.length ⟨b, off, none⟩ ys.length cap' (bv ys) (by rw [bv_length, hs, Nat.mul_one]) (fun j u hu => by rw [Addr.add_lit]; exact hcell j u hu)
   have hst := run_storeCells_cells (P := Tryz.prog) g l.length (bv ys) 0 w (fun j hj => by
       rw [bv_length] at hj
       rw [cell_of_row w g _ cur 5 f hg, Array.getElem?_eq_getElem (by omega)]
       rfl) (fun j hj => by
       rw [bv_length] at hj
       have := hf (l.length + 0 + j) (by omega)
       simp only [World.frozen?, hg, Bool.and_eq_false_iff, decide_eq_false_iff_not]
       omega) (bv_one _)
   rw [Nat.add_zero, setCells_row g 5 f (bv ys) l.length cur w hg (by rw [bv_length]; omega)] at hst
   have hroom : l.length + ys.length ≤ cap := by omega
   refine ⟨.slice (some ⟨g, 0, none⟩) (l.length + ys.length) cap, w.setRow g (cur.toList.take l.length ++ bv ys ++ cur.toList.drop (l.length + (bv ys).length)).toArray, ?_, ⟨g, cap, _, f, by rw [hll], setRow_heap w g cur _ 5 f hg, fun j hj => hf j (by simp [bv_length] at hj; omega), by omega, hcm, by simp [bv_length]; omega, ?_⟩, ⟨rfl, rfl, rfl, by simp, fun k _ hk => setRow_other w g k _ (by simpa [blks] using hk)⟩, fun k hk => .inl (by simpa [blks] using hk)⟩
   · rw [hs] at hfc
     simp [Builtin.append_, run_underlying stB.under, sizeOf, typeInfo, hi, hs, Builtin.lenOf, hroom, Addr.add_lit, hfc, hst]
   · rw [ht, bv_append, hll]
     exact List.take_left' (by rw [List.length_append, bv_length, bv_length])
section
variable {a : Act} {w : World} {K : Act → World → Prop} {Q : Exit → Act → World → Prop} {d : Option Tmp} {ty : TypeId} {ps : String} {af : Array Edge} {gd : Option (Nat × Bool)}
theorem wp_append_oz {s x : Operand} {v xv : Value} {m : Nat} {l ys : List UInt8} (hs : a.eval s = v) (hx : a.eval x = xv) (hv : Oz w v l) (hy : Sl w 1 xv m (bv ys)) (hb : l.length + m ≤ 140737488355328)
   (h : ∀ v' w', Oz w' v' (l ++ ys) → Mod (blks v) w w' → (∀ k ∈ blks v', k ∈ blks v ∨ w.heap.size ≤ k) → K (a.put d v') w') :
   Oper.wp Tryz.prog { dst := d, op := .call { callee := .builtin .append, args := #[s, x], argTypes := #[39, 39] }, type := ty, pos := ps, after := af, guard := gd } a w K Q := by
 obtain ⟨v', w', hr, h2, h3, h4⟩ := run_append_oz w ty hv hy hb
 unfold Oper.wp execOp
 simp only [resolve, invoke, builtin, Sem.run_bind, Sem.run_pure, Result.andThen_ok, List.map_toArray, List.map_cons, List.map_nil, hs, hx, hr]
 exact h v' w' h2 h3 h4
end
end Go.Proofs.YtminfegoldgjpaaGreatDoor
namespace Go.Proofs.YtminfegoldgjpaaGreatDoor
open Go.RowKit Gw
def Hd.cells (h : Hd) : List Value := [.int .u64 (h.g : Nat), .int .u64 (h.c : Nat), .int .i64 h.l, .int .u32 (h.s : Nat)]
def Hd.v (h : Hd) : Value := .agg #[.int .u64 (h.g : Nat), .int .u64 (h.c : Nat), .int .i64 h.l, .int .u32 (h.s : Nat)]
theorem smay_any (h : Hd) (w : World) : Calls Tryz.prog 45 #[h.v] w fun e w' => e = .returned (.bool (mayH h)) ∧ Mod [] w w' := by
 obtain ⟨g, c, l, s⟩ := h
 unfold Hd.v mayH
 dsimp only
 by_cases h1 : 0 < g
 · have y1 : (0 : Int) < g := by omega
   by_cases h2 : 0 ≤ l
   · by_cases h3 : l ≤ 67108864
     · rw [show decide (0 < g ∧ 0 ≤ l ∧ l ≤ 67108864) = true from decide_eq_true ⟨h1, h2, h3⟩]
       go_enter Tryz.func45, Tryz.ntmps45
       go_wp2_with (with_reducible refine st_box ?_)
       refine StopOp.go rfl fun K hK => ?_
       refine wp_box (v := .agg #[.int .u64 (g : Nat), .int .u64 (c : Nat), .int .i64 l, .int .u32 (s : Nat)]) (by rfl) ?_
       intro t w1 ht1 ht2 hm1 hT
       simp only [put_some, List.set_cons_succ, List.set_cons_zero]
       refine hK _ _ ?_
       clear hK K
       have b0 := hT.cell' (i := 0) rfl
       have b2 := hT.cell' (i := 2) rfl
       go_wp2_with fail
       go_ret
       exact ⟨rfl, hm1⟩
     · rw [show decide (0 < g ∧ 0 ≤ l ∧ l ≤ 67108864) = false from decide_eq_false (fun hh => h3 hh.2.2)]
       have y3 : decide (l ≤ 67108864) = false := decide_eq_false h3
       go_enter Tryz.func45, Tryz.ntmps45
       go_wp2_with (with_reducible refine st_box ?_)
       refine StopOp.go rfl fun K hK => ?_
       refine wp_box (v := .agg #[.int .u64 (g : Nat), .int .u64 (c : Nat), .int .i64 l, .int .u32 (s : Nat)]) (by rfl) ?_
       intro t w1 ht1 ht2 hm1 hT
       simp only [put_some, List.set_cons_succ, List.set_cons_zero]
       refine hK _ _ ?_
       clear hK K
       have b0 := hT.cell' (i := 0) rfl
       have b2 := hT.cell' (i := 2) rfl
       go_wp2_with fail
       go_ret
       exact ⟨rfl, hm1⟩
   · rw [show decide (0 < g ∧ 0 ≤ l ∧ l ≤ 67108864) = false from decide_eq_false (fun hh => h2 hh.2.1)]
     have y2 : l < 0 := by omega
     go_enter Tryz.func45, Tryz.ntmps45
     go_wp2_with (with_reducible refine st_box ?_)
     refine StopOp.go rfl fun K hK => ?_
     refine wp_box (v := .agg #[.int .u64 (g : Nat), .int .u64 (c : Nat), .int .i64 l, .int .u32 (s : Nat)]) (by rfl) ?_
     intro t w1 ht1 ht2 hm1 hT
     simp only [put_some, List.set_cons_succ, List.set_cons_zero]
     refine hK _ _ ?_
     clear hK K
     have b0 := hT.cell' (i := 0) rfl
     have b2 := hT.cell' (i := 2) rfl
     go_wp2_with fail
     go_ret
     exact ⟨rfl, hm1⟩
 · rw [show decide (0 < g ∧ 0 ≤ l ∧ l ≤ 67108864) = false from decide_eq_false (fun hh => h1 hh.1)]
   obtain rfl : g = 0 := by omega
   go_enter Tryz.func45, Tryz.ntmps45
   go_wp2_with (with_reducible refine st_box ?_)
   refine StopOp.go rfl fun K hK => ?_
   refine wp_box (v := .agg #[.int .u64 (0 : Nat), .int .u64 (c : Nat), .int .i64 l, .int .u32 (s : Nat)]) (by rfl) ?_
   intro t w1 ht1 ht2 hm1 hT
   simp only [put_some, List.set_cons_succ, List.set_cons_zero]
   refine hK _ _ ?_
   clear hK K
   have b0 := hT.cell' (i := 0) rfl
   have b2 := hT.cell' (i := 2) rfl
   go_wp2_with fail
   go_ret
   exact ⟨rfl, hm1⟩
def HputP (h : Hd) (w : World) (e : Ending) (w' : World) : Prop := ∃ v, e = .returned (.tuple #[v, .int .i64 (putE h)]) ∧ Ob w' v (putB h) ∧ New w v ∧ Mod [] w w'
set_option maxRecDepth 1000000 in
set_option maxHeartbeats 8000000 in
theorem hput_any (h : Hd) (hw : h.wf) (w : World) (hT : TabC w) : Calls Tryz.prog 14 #[h.v] w (HputP h w) := by
 have MY := fun w => smay_any h w
 unfold HputP putE putB
 cases hmy : mayH h with
 | false =>
   rw [if_neg (by decide), if_neg (by decide)]
   rw [hmy] at MY
   clear hmy
   obtain ⟨g, c, l, s⟩ := h
   unfold Hd.v at *
   dsimp only at *
   go_enter Tryz.func14, Tryz.ntmps14
   go_wp2_with (with_reducible refine st_box ?_)
   refine StopOp.go rfl fun K hK => ?_
   refine wp_box (v := .agg #[.int .u64 (g : Nat), .int .u64 (c : Nat), .int .i64 l, .int .u32 (s : Nat)]) (by rfl) ?_
   intro t w1 ht1 ht2 hm1 hB1
   simp only [put_some, List.set_cons_succ, List.set_cons_zero]
   refine hK _ _ ?_
   clear hK K
   have hB : Blk w1 t 25 [.int .u64 (g : Nat), .int .u64 (c : Nat), .int .i64 l, .int .u32 (s : Nat)] := hB1
   have b0 := hB.cell' (i := 0) rfl
   have b1 := hB.cell' (i := 1) rfl
   have b2 := hB.cell' (i := 2) rfl
   have b3 := hB.cell' (i := 3) rfl
   go_wp2_with (go_at_call 45; (with_reducible refine (MY _).mono ?_); rintro e w2 ⟨rfl, hm2⟩)
   go_ret2
   exact ⟨_, rfl, Ob.nil _, by simp [New, blks], hm1.ext hm2⟩
 | true =>
   rw [if_pos rfl, if_pos rfl]
   rw [hmy] at MY
   obtain ⟨m1, m2, m3⟩ := of_decide_eq_true hmy
   have hF : hdr h = hdB h ++ low (crcS (hdB h)) 4 := rfl
   have hBl := hdB_len h
   have hFl := hdr_len h
   have hcl := crcS_lt (hdB h)
   have hBB : hdB h = gang ++ low h.g 8 ++ low h.c 8 ++ low h.l.toNat 4 ++ low h.s 4 := rfl
   obtain ⟨B, hBb⟩ : ∃ B, B = hdB h := ⟨_, rfl⟩
   obtain ⟨F, hFF⟩ : ∃ B, B = hdr h := ⟨_, rfl⟩
   rw [← hBb] at hF hBl hcl hBB
   rw [← hFF] at hF hFl ⊢
   obtain ⟨hw1, hw2, hw3, hw4⟩ := hw
   obtain ⟨g, c, l, s⟩ := h
   unfold Hd.v at *
   dsimp only at *
   obtain ⟨n, rfl⟩ := Int.eq_ofNat_of_zero_le m2
   rw [Int.toNat_natCast] at hBB
   obtain ⟨cs, hcs⟩ : ∃ x, x = crcS B := ⟨_, rfl⟩
   rw [← hcs] at hcl hF
   have HCS := Lib.hid hcs
   have HBB := Lib.hid hBB
   have HF := Lib.hid hF
   have HL := Lib.hid (And.intro hBl hFl)
   have z1 : IntKind.u32.wrap (n : Int) = n := by rw [IntKind.wrap_u32]; omega
   have y1 : (n : Int) ≤ 67108864 := by omega
   clear hmy hBb hFF hBB hF hcs hBl hFl hw4
   go_enter Tryz.func14, Tryz.ntmps14
   go_wp2_with (with_reducible refine st_box ?_)
   refine StopOp.go rfl fun K hK => ?_
   refine wp_box (v := .agg #[.int .u64 (g : Nat), .int .u64 (c : Nat), .int .i64 (n : Nat), .int .u32 (s : Nat)]) (by rfl) ?_
   intro t w1 ht1 ht2 hm1 hB1
   simp only [put_some, List.set_cons_succ, List.set_cons_zero]
   refine hK _ _ ?_
   clear hK K
   have hB : Blk w1 t 25 [.int .u64 (g : Nat), .int .u64 (c : Nat), .int .i64 (n : Nat), .int .u32 (s : Nat)] := hB1
   have b0 := hB.cell' (i := 0) rfl
   have b1 := hB.cell' (i := 1) rfl
   have b2 := hB.cell' (i := 2) rfl
   have b3 := hB.cell' (i := 3) rfl
   go_wp2_with (first
                 | (with_reducible refine st_alloc ?_)
                 | (go_at_call 45; (with_reducible refine (MY _).mono ?_); rintro e w2 ⟨rfl, hm2⟩))
   refine StopOp.go rfl fun K hK => ?_
   refine wp_alloc zero_writer ?_
   intro p w3 hp1 hp2 hm3 hP3
   simp only [put_some, List.set_cons_succ, List.set_cons_zero]
   refine hK _ _ ?_
   clear hK K
   have hW3 := Wr.new hP3
   have hM3 := (hm1.ext hm2).ext hm3
   have hB3 := (hB.ext hm2).ext hm3
   have htp : t ≠ p := by have := hm2.size; omega
   have hpw : w.heap.size ≤ p := by have := hm1.size; have := hm2.size; omega
   clear b0 b1 b2 b3 hm1 hm2 hm3 hP3 hB1 hB
   go_wp2_with (with_reducible refine st_bslice ?_)
   refine StopOp.go rfl fun K hK => ?_
   refine wp_bslice stB [.int .u8 71, .int .u8 65, .int .u8 78, .int .u8 71] rfl (by decide) (by rfl) (by simp [Value.cells]) ?_
   intro gg w40 hg4 hg4' hm40 hB40
   simp only [put_some, List.set_cons_succ, List.set_cons_zero]
   refine hK _ _ ?_
   clear hK K
   obtain ⟨w4, hr4, hz4, hm4'⟩ := bytes_const (l := gang) (n := 4) hB40 rfl (by omega)
   have hm4 : Mod [] w3 w4 := hm40.fresh hm4' (by simpa using hg4)
   have hs4 : Bs w4 (.slice (some ⟨gg, 0, none⟩) 4 4) gang := hz4.bs
   have hW4 := hW3.ext hm4
   have hM4 := hM3.ext hm4
   have hB4 := hB3.ext hm4
   go_wp2_with (first
                 | (go_at_call 46; (with_reducible refine (put_any p _ gang _ _ hW4 hs4 (by decide)).mono ?_); rintro e w5 ⟨rfl, hW5, hm5⟩; have hB5 := hB4.mod hm5 (by simpa using htp); have c0 := hB5.cell' (i := 0) rfl; have hM5 := hM4.fresh hm5 (by simpa using hpw))
                 | (go_at_call 47; (with_reducible refine (eight_any p _ g _ hW5 (by omega) (by omega) (by simp [low_length, gang])).mono ?_); rintro e w6 ⟨rfl, hW6, hm6⟩; have hB6 := hB5.mod hm6 (by simpa using htp); have c1 := hB6.cell' (i := 1) rfl; have hM6 := hM5.fresh hm6 (by simpa using hpw))
                 | (go_at_call 47; (with_reducible refine (eight_any p _ c _ hW6 (by omega) (by omega) (by simp [low_length, gang])).mono ?_); rintro e w7 ⟨rfl, hW7, hm7⟩; have hB7 := hB6.mod hm7 (by simpa using htp); have c2 := hB7.cell' (i := 2) rfl; have hM7 := hM6.fresh hm7 (by simpa using hpw))
                 | (go_at_call 48; (with_reducible refine (four_any p _ n _ hW7 (by omega) (by omega) (by simp [low_length, gang])).mono ?_); rintro e w8 ⟨rfl, hW8, hm8⟩; have hB8 := hB7.mod hm8 (by simpa using htp); have c3 := hB8.cell' (i := 3) rfl; have hM8 := hM7.fresh hm8 (by simpa using hpw))
                 | (go_at_call 48; (with_reducible refine (four_any p _ s _ hW8 (by omega) (by omega) (by simp [low_length, gang])).mono ?_); rintro e w9 ⟨rfl, hW9, hm9⟩; have hM9 := hM8.fresh hm9 (by simpa using hpw); have hW9' : Wr w9 p B := (by rw [HBB.out]; simpa using hW9); have hT9 := hT.ext hM9)
                 | (go_at_call 49; (with_reducible refine (out_any p B _ hW9' (by rw [HL.out.1]; omega)).mono ?_); rintro e w10 ⟨v10, rfl, ho10, hn10, hm10⟩; have hb10 := Ob.bs ho10; have hT10 := hT9.ext hm10; have hW10 := hW9'.ext hm10)
                 | (go_at_call 38; refine (sum_any B v10 _ hb10 hT10).mono ?_; rintro e w11 ⟨he11, hw11⟩; subst hw11; rw [← HCS.out] at he11; subst he11)
                 | (go_at_call 48; (with_reducible refine (four_any p B cs _ hW10 (by omega) (by omega) (by rw [HL.out.1]; omega)).mono ?_); rintro e w12 ⟨rfl, hW12, hm12⟩; have hW12' : Wr w12 p F := (by rw [HF.out]; simpa using hW12); have hM12 := (hM9.ext hm10).fresh hm12 (by simpa using hpw))
                 | (go_at_call 49; (with_reducible refine (out_any p F _ hW12' (by rw [HL.out.2]; omega)).mono ?_); rintro e w13 ⟨v13, rfl, ho13, hn13, hm13⟩))
   go_ret2
   have s12 := hM12.size
   exact ⟨v13, rfl, ho13, fun k hk => Nat.le_trans s12 (hn13 k hk), hM12.ext hm13⟩
end Go.Proofs.YtminfegoldgjpaaGreatDoor
namespace Go.Proofs.YtminfegoldgjpaaGreatDoor
open Go.RowKit Gw
theorem tkn_drop (b : List UInt8) (p k : Nat) (h : p + k ≤ b.length) : tkGot (b.drop p) 0 k = (b.drop p).take k ∧ got (b.drop p) 0 k = nb b p k ∧ tkRest (b.drop p) 0 k = b.drop (p + k) ∧ tkErr (b.drop p) 0 k = 0 := by
 have h1 : (0 : Int) ≤ (k : Int) ∧ (k : Int) ≤ ((b.drop p).length : Int) := by rw [List.length_drop]; omega
 have e : tkGot (b.drop p) 0 k = (b.drop p).take k := by unfold tkGot; rw [if_pos ⟨rfl, h1.1, h1.2⟩, Int.toNat_natCast]
 refine ⟨e, ?_, ?_, ?_⟩
 · unfold got nb; rw [e]
 · unfold tkRest; rw [if_pos rfl, if_pos h1, Int.toNat_natCast, List.drop_drop]
 · unfold tkErr; rw [if_pos rfl, if_neg (by omega), if_neg (by omega)]
def NextN (b : List UInt8) (r q p k : Nat) (kd : IntKind) (w : World) (e : Ending) (w' : World) : Prop := e = .returned (.int kd (nb b p k)) ∧ Rd w' r q (b.drop (p + k)) 0 ∧ Mod [q] w w'
theorem nextN_of {b : List UInt8} {r q p k : Nat} {kd : IntKind} {w : World} (h : p + k ≤ b.length) {e : Ending} {w' : World} (he : e = .returned (.int kd (got (b.drop p) 0 k))) (hp : TakePost w r q (b.drop p) 0 k w') : NextN b r q p k kd w e w' := by
 obtain ⟨_, t1, t2, t3⟩ := tkn_drop b p k h
 unfold TakePost at hp
 rw [t2, t3] at hp
 exact ⟨by rw [he, t1], hp⟩
theorem nn4 (r q : Nat) (b : List UInt8) (p : Nat) (w : World) (h : Rd w r q (b.drop p) 0) (hp : p + 4 ≤ b.length) : Calls Tryz.prog 148 #[.pointer (some ⟨r, 0, none⟩)] w (NextN b r q p 4 .u32 w) :=
 (rfour_any r q _ 0 w h).mono fun e w' ⟨h1, h2⟩ => nextN_of hp h1 h2
theorem nn8 (r q : Nat) (b : List UInt8) (p : Nat) (w : World) (h : Rd w r q (b.drop p) 0) (hp : p + 8 ≤ b.length) : Calls Tryz.prog 147 #[.pointer (some ⟨r, 0, none⟩)] w (NextN b r q p 8 .u64 w) :=
 (reight_any r q _ 0 w h).mono fun e w' ⟨h1, h2⟩ => nextN_of hp h1 h2
theorem nntake (r q : Nat) (b : List UInt8) (p k : Nat) (w : World) (h : Rd w r q (b.drop p) 0) (hp : p + k ≤ b.length) (hl : b.length ≤ 140737488355328) :
   Calls Tryz.prog 146 #[.pointer (some ⟨r, 0, none⟩), .int .i64 (k : Nat)] w fun e w' => ∃ v, e = .returned v ∧ Ob w' v ((b.drop p).take k) ∧ New w v ∧ Rd w' r q (b.drop (p + k)) 0 ∧ Mod [q] w w' := by
 obtain ⟨t0, _, t2, t3⟩ := tkn_drop b p k hp
 refine (rtake_any r q (b.drop p) 0 k w h (by omega) (by omega) (by rw [List.length_drop]; omega)).mono ?_
 rintro e w' ⟨v, he, ho, hn, hp'⟩
 unfold TakePost at hp'
 rw [t2, t3] at hp'
 rw [t0] at ho
 exact ⟨v, he, ho, hn, hp'⟩
end Go.Proofs.YtminfegoldgjpaaGreatDoor
namespace Go.Proofs.YtminfegoldgjpaaGreatDoor
open Go.RowKit Gw
def HgetP (b : List UInt8) (w : World) (e : Ending) (w' : World) : Prop := e = .returned (.tuple #[(getH b).v, .int .i64 (errH b)]) ∧ Mod [] w w'
theorem zero_header : (Tryz.prog.info? 25).map (·.zero) = some (some (.agg #[.int .u64 0, .int .u64 0, .int .i64 0, .int .u32 0])) := by kernel_rfl
theorem Ob.frn {w : World} {v : Value} {l : List UInt8} {n : Nat} (h : Ob w v l) (hl : l.length = n) : ∃ ao cap, v = .slice ao n cap ∧ n ≤ cap ∧ cap ≤ 9223372036854775807 := by
 subst hl; exact h.sl.form
theorem Bs.prefz {w : World} {ao : Option Addr} {n cap k : Nat} {l : List UInt8} (h : Bs w (.slice ao n cap) l) (hn : n = l.length) (hk : k ≤ n) (hc : k ≤ cap) : Bs w (.slice ao k cap) (l.take k) := by
 subst hn
 have h2 := Sl.cut (lo := 0) (hi := k) (m := cap) h (Nat.zero_le _) hk hc (Nat.le_refl _)
 have hl : (l.take k).length = k := by rw [List.length_take]; omega
 unfold Bs
 rw [hl]
 have e : bv (l.take k) = ((bv l).drop (0 * 1)).take ((k - 0) * 1) := by unfold bv; simp
 rw [e]
 have e2 : ao.map (·.add (0 * 1)) = ao := by cases ao <;> simp [Addr.add]
 rw [e2] at h2
 simpa using h2
set_option maxRecDepth 1000000 in
set_option maxHeartbeats 8000000 in
theorem hget_any (b : List UInt8) (v : Value) (w : World) (hb : Bs w v b) (hl : b.length ≤ 140737488355328) (hT : TabC w) : Calls Tryz.prog 94 #[v] w (HgetP b w) := by
 obtain ⟨aob, capb, rfl, hc1, hc2⟩ := hb.form
 unfold HgetP
 by_cases h32 : b.length < 32
 · have e := errH_short h32
   rw [e.1, e.2]
   have y : (b.length : Int) < 32 := by omega
   clear e
   go_enter Tryz.func94, Tryz.ntmps94
   go_wp2_with (with_reducible refine st_alloc ?_)
   refine StopOp.go rfl fun K hK => ?_
   refine wp_alloc zero_header ?_
   intro g w1 hg1 hg2 hm1 hB1
   simp only [put_some, List.set_cons_succ, List.set_cons_zero]
   refine hK _ _ ?_
   clear hK K
   go_wp2_with (with_reducible refine st_store ?_)
   refine StopOp.go rfl fun K hK => ?_
   refine wp_store (u := .agg #[.int .u64 0, .int .u64 0, .int .i64 0, .int .u32 0]) (by rfl) (by rfl) (by kernel_rfl) hB1 (by simp [Value.cells]) (by simp [Value.cells, Value.oneCell']) ?_
   intro w2 hm2 hB2
   refine hK _ _ ?_
   clear hK K
   have z0 := hB2.cell' (i := 0) rfl
   have z1 := hB2.cell' (i := 1) rfl
   have z2 := hB2.cell' (i := 2) rfl
   have z3 := hB2.cell' (i := 3) rfl
   go_wp2_with fail
   exact bodyPost_ret (v := .tuple #[.agg #[.int .u64 0, .int .u64 0, .int .i64 0, .int .u32 0], .int .i64 4]) (by simp [results, Tryz.results94, go_sem, z0, z1, z2, z3]) rfl ⟨rfl, hm1.fresh hm2 (by simpa using hg1)⟩
 have hbC := hb.prefz rfl (k := 32) (by omega) (by omega)
 have hbD := hb.prefz rfl (k := 28) (by omega) (by omega)
 obtain ⟨C, hC⟩ : ∃ C, C = b.take 32 := ⟨_, rfl⟩
 obtain ⟨D, hD⟩ : ∃ C, C = b.take 28 := ⟨_, rfl⟩
 have hCl : C.length = 32 := by rw [hC, List.length_take]; omega
 have hDl : D.length = 28 := by rw [hD, List.length_take]; omega
 rw [← hC] at hbC
 rw [← hD] at hbD
 have hnb : ∀ p k, p + k ≤ 32 → nb C p k = nb b p k := fun p k h => by rw [hC]; exact nb_take _ _ _ _ h
 have h4 : C.take 4 = b.take 4 := by rw [hC, List.take_take]; rfl
 have T1 := fun w r q h => nntake r q C 0 4 w h (by omega) (by omega)
 have E1 := fun w r q h => nn8 r q C 4 w h (by omega)
 have E2 := fun w r q h => nn8 r q C 12 w h (by omega)
 have F1 := fun w r q h => nn4 r q C 20 w h (by omega)
 have F2 := fun w r q h => nn4 r q C 24 w h (by omega)
 have F3 := fun w r q h => nn4 r q C 28 w h (by omega)
 unfold NextN at E1 E2 F1 F2 F3
 rw [hnb 4 8 (by omega)] at E1
 rw [hnb 12 8 (by omega)] at E2
 rw [hnb 20 4 (by omega)] at F1
 rw [hnb 24 4 (by omega)] at F2
 rw [hnb 28 4 (by omega)] at F3
 simp only [List.drop_zero, Nat.zero_add, h4] at T1
 have k1 := nb_lt b 4 8
 have k2 := nb_lt b 12 8
 have k3 := nb_lt b 20 4
 have k4 := nb_lt b 24 4
 have k5 := nb_lt b 28 4
 have hcl := crcS_lt D
 have herr : errH b = if sumH b = true then (if mayH (parH b) = true then 0 else 2) else 81 := by unfold errH; rw [if_neg h32]
 have hsum : sumH b = decide (nb b 28 4 = crcS D ∧ b.take 4 = gang) := by rw [hD]; rfl
 have hpar : parH b = ⟨nb b 4 8, nb b 12 8, (nb b 20 4 : Nat), nb b 24 4⟩ := rfl
 have hget : getH b = if errH b = 0 then parH b else hd0 := rfl
 have MY := fun w => smay_any (parH b) w
 have hX4 : (b.take 4).length = 4 := by rw [List.length_take]; omega
 obtain ⟨mm, hmm⟩ : ∃ m, m = mayH (parH b) := ⟨_, rfl⟩
 rw [← hmm] at MY herr
 rw [hpar] at MY hget
 clear hpar hmm
 obtain ⟨n1, e1⟩ : ∃ m, m = nb b 4 8 := ⟨_, rfl⟩
 obtain ⟨n2, e2⟩ : ∃ m, m = nb b 12 8 := ⟨_, rfl⟩
 obtain ⟨n3, e3⟩ : ∃ m, m = nb b 20 4 := ⟨_, rfl⟩
 obtain ⟨n4, e4⟩ : ∃ m, m = nb b 24 4 := ⟨_, rfl⟩
 obtain ⟨n5, e5⟩ : ∃ m, m = nb b 28 4 := ⟨_, rfl⟩
 rw [← e1] at E1 k1
 rw [← e2] at E2 k2
 rw [← e3] at F1 k3
 rw [← e4] at F2 k4
 rw [← e5] at F3 k5 hsum
 rw [← e1, ← e2, ← e3, ← e4] at MY hget
 clear e1 e2 e3 e4 e5 hnb h4 hC hD
 unfold Hd.v at MY
 dsimp only at MY
 obtain ⟨X, hX⟩ : ∃ X, X = b.take 4 := ⟨_, rfl⟩
 rw [← hX] at T1 hsum hX4
 clear hX
 obtain ⟨cs, hcs⟩ : ∃ X, X = crcS D := ⟨_, rfl⟩
 have SU := fun w v h hT => sum_any D v w h hT
 rw [← hcs] at SU hcl hsum
 have HR := Lib.hid (And.intro herr (And.intro hsum hget))
 have y1 : (n1 : Int) ≤ 18446744073709551615 := by omega
 have y2 : (n2 : Int) ≤ 18446744073709551615 := by omega
 have y3 : (n3 : Int) ≤ 4294967295 := by omega
 have y4 : (n4 : Int) ≤ 4294967295 := by omega
 have y5 : (n5 : Int) ≤ 4294967295 := by omega
 have y6 : (cs : Int) ≤ 4294967295 := by omega
 have y7 : (32 : Int) ≤ b.length := by omega
 have HL := Lib.hid (And.intro hCl (And.intro hDl hl))
 clear herr hsum hget hcs k1 k2 k3 k4 k5 hcl hDl hCl h32
 go_enter Tryz.func94, Tryz.ntmps94
 go_wp2_with (with_reducible refine st_alloc ?_)
 refine StopOp.go rfl fun K hK => ?_
 refine wp_alloc zero_header ?_
 intro g w1 hg1 hg2 hm1 hB1
 simp only [put_some, List.set_cons_succ, List.set_cons_zero]
 refine hK _ _ ?_
 clear hK K
 have hG1 : Blk w1 g 25 [.int .u64 0, .int .u64 0, .int .i64 0, .int .u32 0] := hB1
 have hbC1 := hbC.ext hm1
 clear hB1
 obtain ⟨ig, hig⟩ : ∃ i, (X == [71, 65, 78, 71]) = i := ⟨_, rfl⟩
 have HIG : Hid (decide (X = gang) = ig) := Lib.hid (by rw [← hig]; exact (by cases h : (X == [71, 65, 78, 71]) <;> simp at h <;> simp [gang, h]))
 go_wp2_with (first
               | (with_reducible refine st_alloc ?_)
               | (go_at_call 145; refine (of_any C _ _ hbC1 (by rw [HL.out.1]; omega)).mono ?_; rintro e w2 ⟨r, q, rfl, hr, hq, hqr, hR2, hm2⟩)
               | (go_at_call 146; refine (T1 _ _ _ hR2).mono ?_; rintro e w3 ⟨v3, rfl, ho3, hn3, hR3, hm3⟩; obtain ⟨ao3, cap3, rfl, _, _⟩ := Ob.frn ho3 hX4; have s3 := Bs.str ho3.bs)
               | (go_at_call 147; refine (E1 _ _ _ hR3).mono ?_; rintro e w4 ⟨rfl, hR4, hm4⟩)
               | (go_at_call 147; refine (E2 _ _ _ hR4).mono ?_; rintro e w5 ⟨rfl, hR5, hm5⟩)
               | (go_at_call 148; refine (F1 _ _ _ hR5).mono ?_; rintro e w6 ⟨rfl, hR6, hm6⟩)
               | (go_at_call 148; refine (F2 _ _ _ hR6).mono ?_; rintro e w7 ⟨rfl, hR7, hm7⟩))
 have hqw : w.heap.size ≤ q := by have := hm1.size; omega
 have hgq : g ≠ q := by omega
 have hM7 : Mod [] w w7 := (((((hm1.ext hm2).fresh hm3 (by simpa using hqw)).fresh hm4 (by simpa using hqw)).fresh hm5 (by simpa using hqw)).fresh hm6 (by simpa using hqw)).fresh hm7 (by simpa using hqw)
 have hG7 := (((((hG1.ext hm2).mod hm3 (by simpa using hgq)).mod hm4 (by simpa using hgq)).mod hm5 (by simpa using hgq)).mod hm6 (by simpa using hgq)).mod hm7 (by simpa using hgq)
 have sR7 := hR7.1.lt
 have sQ7 : q < w7.heap.size := by obtain ⟨_, hB, _⟩ := hR7.2; exact hB.lt
 have sG7 := hG7.lt
 clear hG1 hm1 hm2 hm3 hm4 hm5 hm6 hm7 hR2 hR3 hR4 hR5 hR6 ho3 hn3 hbC hbC1 s3 T1 E1 E2 F1 F2
 refine StopOp.go rfl fun K hK => ?_
 refine wp_alloc zero_header ?_
 intro t w8 ht1 ht2 hm8 hB8
 simp only [put_some, List.set_cons_succ, List.set_cons_zero]
 refine hK _ _ ?_
 clear hK K
 go_wp2_with (with_reducible refine st_store ?_)
 refine StopOp.go rfl fun K hK => ?_
 refine wp_store (u := .agg #[.int .u64 (n1 : Nat), .int .u64 (n2 : Nat), .int .i64 (n3 : Nat), .int .u32 (n4 : Nat)]) (by rfl) (by rfl) (by kernel_rfl) hB8 (by simp [Value.cells]) (by simp [Value.cells, Value.oneCell']) ?_
 intro w9 hm9 hB9
 refine hK _ _ ?_
 clear hK K
 have hTb9 : Blk w9 t 25 [.int .u64 (n1 : Nat), .int .u64 (n2 : Nat), .int .i64 (n3 : Nat), .int .u32 (n4 : Nat)] := hB9
 have hR9 : Rd w9 r q (C.drop 28) 0 := (hR7.ext hm8).mod hB8 (by simp [Value.cells]) (by omega) (by omega) hm9
 have hG9 := (hG7.ext hm8).mod hm9 (by simp; omega)
 have htw : w.heap.size ≤ t := by have := hM7.size; omega
 have hM9 := (hM7.ext hm8).fresh hm9 (by simpa using htw)
 have htq : t ≠ q := by omega
 have hgt : g ≠ t := by omega
 clear hR7 hG7 hm8 hm9 hB8 hB9 hM7
 by_cases hq : n5 = cs
 · subst hq
   cases ig with
   | false =>
     go_wp2_with fail
     refine wp_region_T [⟨0, true, []⟩, ⟨2, true, []⟩, ⟨3, true, []⟩, ⟨1, false, []⟩, ⟨4, false, []⟩, ⟨5, true, []⟩, ⟨6, true, []⟩, ⟨7, true, []⟩, ⟨8, true, []⟩, ⟨9, true, []⟩, ⟨10, true, []⟩] (by kernel_rfl) (by kernel_rfl) ?_
     have hmD := Mod.drew [] w9
     obtain ⟨x, hx⟩ : ∃ x, x = w9.drew := ⟨_, rfl⟩
     rw [← hx] at hmD ⊢
     clear hx
     have hRx := hR9.ext hmD
     have hTx := hTb9.ext hmD
     have hMx := hM9.ext hmD
     have hGx := hG9.ext hmD
     iterate 3 (refine wpT_n rfl rfl (fun K hK => ?_); go_wp2_with fail)
     refine wpT_call rfl rfl (fun K hK => ?_)
     go_wp2_with (go_at_call 148; (with_reducible refine (F3 _ _ _ hRx).mono ?_); rintro e w10 ⟨rfl, hR10, hm10⟩)
     have hM10 := hMx.fresh hm10 (by simpa using hqw)
     have hT10 := hT.ext hM10
     have hbD10 := hbD.ext hM10
     have hH10 := hTx.mod hm10 (by simpa using htq)
     have u0 := hH10.cell' (i := 0) rfl
     have u1 := hH10.cell' (i := 1) rfl
     have u2 := hH10.cell' (i := 2) rfl
     have u3 := hH10.cell' (i := 3) rfl
     have hG10 := hGx.mod hm10 (by simpa using hgq)
     refine wpT_call rfl rfl (fun K hK => ?_)
     go_wp2_with (go_at_call 38; (with_reducible refine (SU _ _ hbD10 hT10).mono ?_); rintro e w11 ⟨rfl, hw⟩; obtain rfl := hw)
     iterate 2 (refine wpT_n rfl rfl (fun K hK => ?_); go_wp2_with fail)
     iterate 2 (refine wpT_gq (gi := 6) rfl rfl rfl rfl rfl (fun K hK => ?_); go_wp2_with fail)
     iterate 2 (refine wpT_n rfl rfl (fun K hK => ?_); go_wp2_with fail)
     refine wpT_nil ?_
     go_wp2_with (with_reducible refine st_store ?_)
     refine StopOp.go rfl fun K hK => ?_
     refine wp_store (u := .agg #[.int .u64 0, .int .u64 0, .int .i64 0, .int .u32 0]) (by rfl) (by rfl) (by kernel_rfl) hG10 (by simp [Value.cells]) (by simp [Value.cells, Value.oneCell']) ?_
     intro w90 hm90 hB90
     refine hK _ _ ?_
     clear hK K
     have z0 := hB90.cell' (i := 0) rfl
     have z1 := hB90.cell' (i := 1) rfl
     have z2 := hB90.cell' (i := 2) rfl
     have z3 := hB90.cell' (i := 3) rfl
     go_wp2_with fail
     exact bodyPost_ret (v := .tuple #[.agg #[.int .u64 0, .int .u64 0, .int .i64 0, .int .u32 0], .int .i64 81]) (by simp [results, Tryz.results94, go_sem, z0, z1, z2, z3]) rfl ⟨by rw [HR.out.2.2, HR.out.1, HR.out.2.1, decide_eq_false (fun h => by have := HIG.out; rw [decide_eq_true h.2] at this; cases this)]; rfl, hM10.fresh hm90 (by simpa using hg1)⟩
   | true =>
     go_wp2_with fail
     refine wp_region_T [⟨0, true, []⟩, ⟨2, true, []⟩, ⟨3, true, []⟩, ⟨1, false, []⟩, ⟨4, false, []⟩, ⟨5, true, []⟩, ⟨6, true, []⟩, ⟨7, true, []⟩, ⟨8, true, []⟩, ⟨9, true, []⟩, ⟨10, true, []⟩] (by kernel_rfl) (by kernel_rfl) ?_
     have hmD := Mod.drew [] w9
     obtain ⟨x, hx⟩ : ∃ x, x = w9.drew := ⟨_, rfl⟩
     rw [← hx] at hmD ⊢
     clear hx
     have hRx := hR9.ext hmD
     have hTx := hTb9.ext hmD
     have hMx := hM9.ext hmD
     have hGx := hG9.ext hmD
     iterate 3 (refine wpT_n rfl rfl (fun K hK => ?_); go_wp2_with fail)
     refine wpT_call rfl rfl (fun K hK => ?_)
     go_wp2_with (go_at_call 148; (with_reducible refine (F3 _ _ _ hRx).mono ?_); rintro e w10 ⟨rfl, hR10, hm10⟩)
     have hM10 := hMx.fresh hm10 (by simpa using hqw)
     have hT10 := hT.ext hM10
     have hbD10 := hbD.ext hM10
     have hH10 := hTx.mod hm10 (by simpa using htq)
     have u0 := hH10.cell' (i := 0) rfl
     have u1 := hH10.cell' (i := 1) rfl
     have u2 := hH10.cell' (i := 2) rfl
     have u3 := hH10.cell' (i := 3) rfl
     have hG10 := hGx.mod hm10 (by simpa using hgq)
     refine wpT_call rfl rfl (fun K hK => ?_)
     go_wp2_with (go_at_call 38; (with_reducible refine (SU _ _ hbD10 hT10).mono ?_); rintro e w11 ⟨rfl, hw⟩; obtain rfl := hw)
     iterate 2 (refine wpT_n rfl rfl (fun K hK => ?_); go_wp2_with fail)
     iterate 2 (refine wpT_gq (gi := 6) rfl rfl rfl rfl rfl (fun K hK => ?_); go_wp2_with fail)
     iterate 2 (refine wpT_n rfl rfl (fun K hK => ?_); go_wp2_with fail)
     refine wpT_nil ?_
     cases mm with
     | false =>
       go_wp2_with (first
                     | (with_reducible refine st_store ?_)
                     | (go_at_call 45; (with_reducible refine (MY _).mono ?_); rintro e w12 ⟨rfl, hm12⟩; have hG12 := hG10.ext hm12; have hM12 := hM10.ext hm12))
       refine StopOp.go rfl fun K hK => ?_
       refine wp_store (u := .agg #[.int .u64 0, .int .u64 0, .int .i64 0, .int .u32 0]) (by rfl) (by rfl) (by kernel_rfl) hG12 (by simp [Value.cells]) (by simp [Value.cells, Value.oneCell']) ?_
       intro w90 hm90 hB90
       refine hK _ _ ?_
       clear hK K
       have z0 := hB90.cell' (i := 0) rfl
       have z1 := hB90.cell' (i := 1) rfl
       have z2 := hB90.cell' (i := 2) rfl
       have z3 := hB90.cell' (i := 3) rfl
       go_wp2_with fail
       exact bodyPost_ret (v := .tuple #[.agg #[.int .u64 0, .int .u64 0, .int .i64 0, .int .u32 0], .int .i64 2]) (by simp [results, Tryz.results94, go_sem, z0, z1, z2, z3]) rfl ⟨by rw [HR.out.2.2, HR.out.1, HR.out.2.1, decide_eq_true (by first | exact ⟨rfl, of_decide_eq_true HIG.out⟩ | exact ⟨trivial, of_decide_eq_true HIG.out⟩)]; rfl, hM12.fresh hm90 (by simpa using hg1)⟩
     | true =>
       go_wp2_with (first
                     | (with_reducible refine st_store ?_)
                     | (go_at_call 45; (with_reducible refine (MY _).mono ?_); rintro e w12 ⟨rfl, hm12⟩; have hG12 := hG10.ext hm12; have hM12 := hM10.ext hm12; have hH12 := hH10.ext hm12; have a0 := hH12.cell' (i := 0) rfl; have a1 := hH12.cell' (i := 1) rfl; have a2 := hH12.cell' (i := 2) rfl; have a3 := hH12.cell' (i := 3) rfl))
       refine StopOp.go rfl fun K hK => ?_
       refine wp_store (u := .agg #[.int .u64 (n1 : Nat), .int .u64 (n2 : Nat), .int .i64 (n3 : Nat), .int .u32 (n4 : Nat)]) (by rfl) (by rfl) (by kernel_rfl) hG12 (by simp [Value.cells]) (by simp [Value.cells, Value.oneCell']) ?_
       intro w90 hm90 hB90
       refine hK _ _ ?_
       clear hK K
       have z0 := hB90.cell' (i := 0) rfl
       have z1 := hB90.cell' (i := 1) rfl
       have z2 := hB90.cell' (i := 2) rfl
       have z3 := hB90.cell' (i := 3) rfl
       go_wp2_with fail
       exact bodyPost_ret (v := .tuple #[.agg #[.int .u64 (n1 : Nat), .int .u64 (n2 : Nat), .int .i64 (n3 : Nat), .int .u32 (n4 : Nat)], .int .i64 0]) (by simp [results, Tryz.results94, go_sem, z0, z1, z2, z3]) rfl ⟨by rw [HR.out.2.2, HR.out.1, HR.out.2.1, decide_eq_true (by first | exact ⟨rfl, of_decide_eq_true HIG.out⟩ | exact ⟨trivial, of_decide_eq_true HIG.out⟩)]; rfl, hM12.fresh hm90 (by simpa using hg1)⟩
 · have dq : ((n5 : Int) != (cs : Int)) = true := bne_iff_ne.2 (by omega)
   go_wp2_with fail
   refine wp_region_T [⟨0, true, []⟩, ⟨2, true, []⟩, ⟨3, true, []⟩, ⟨1, false, []⟩, ⟨4, false, []⟩, ⟨5, true, []⟩, ⟨6, true, []⟩, ⟨7, true, []⟩, ⟨8, true, []⟩, ⟨9, true, []⟩, ⟨10, true, []⟩] (by kernel_rfl) (by kernel_rfl) ?_
   have hmD := Mod.drew [] w9
   obtain ⟨x, hx⟩ : ∃ x, x = w9.drew := ⟨_, rfl⟩
   rw [← hx] at hmD ⊢
   clear hx
   have hRx := hR9.ext hmD
   have hTx := hTb9.ext hmD
   have hMx := hM9.ext hmD
   have hGx := hG9.ext hmD
   iterate 3 (refine wpT_n rfl rfl (fun K hK => ?_); go_wp2_with fail)
   refine wpT_call rfl rfl (fun K hK => ?_)
   go_wp2_with (go_at_call 148; (with_reducible refine (F3 _ _ _ hRx).mono ?_); rintro e w10 ⟨rfl, hR10, hm10⟩)
   have hM10 := hMx.fresh hm10 (by simpa using hqw)
   have hT10 := hT.ext hM10
   have hbD10 := hbD.ext hM10
   have hH10 := hTx.mod hm10 (by simpa using htq)
   have u0 := hH10.cell' (i := 0) rfl
   have u1 := hH10.cell' (i := 1) rfl
   have u2 := hH10.cell' (i := 2) rfl
   have u3 := hH10.cell' (i := 3) rfl
   have hG10 := hGx.mod hm10 (by simpa using hgq)
   refine wpT_call rfl rfl (fun K hK => ?_)
   go_wp2_with (go_at_call 38; (with_reducible refine (SU _ _ hbD10 hT10).mono ?_); rintro e w11 ⟨rfl, hw⟩; obtain rfl := hw)
   iterate 2 (refine wpT_n rfl rfl (fun K hK => ?_); go_wp2_with fail)
   iterate 2 (refine wpT_gk (gi := 6) rfl rfl rfl rfl rfl rfl (fun K hK => ?_); go_wp2_with fail)
   iterate 2 (refine wpT_n rfl rfl (fun K hK => ?_); go_wp2_with fail)
   refine wpT_nil ?_
   go_wp2_with (with_reducible refine st_store ?_)
   refine StopOp.go rfl fun K hK => ?_
   refine wp_store (u := .agg #[.int .u64 0, .int .u64 0, .int .i64 0, .int .u32 0]) (by rfl) (by rfl) (by kernel_rfl) hG10 (by simp [Value.cells]) (by simp [Value.cells, Value.oneCell']) ?_
   intro w90 hm90 hB90
   refine hK _ _ ?_
   clear hK K
   have z0 := hB90.cell' (i := 0) rfl
   have z1 := hB90.cell' (i := 1) rfl
   have z2 := hB90.cell' (i := 2) rfl
   have z3 := hB90.cell' (i := 3) rfl
   go_wp2_with fail
   exact bodyPost_ret (v := .tuple #[.agg #[.int .u64 0, .int .u64 0, .int .i64 0, .int .u32 0], .int .i64 81]) (by simp [results, Tryz.results94, go_sem, z0, z1, z2, z3]) rfl ⟨by rw [HR.out.2.2, HR.out.1, HR.out.2.1, decide_eq_false (fun h => hq h.1)]; rfl, hM10.fresh hm90 (by simpa using hg1)⟩
end Go.Proofs.YtminfegoldgjpaaGreatDoor
namespace Go.Proofs.YtminfegoldgjpaaGreatDoor
open Go.RowKit Gw
theorem Bs.onn {w : World} {v : Value} {l : List UInt8} {n : Nat} (h : Bs w v l) (hn : l.length = n) : Sl w 1 v n (bv l) := by
 subst hn
 exact h
theorem Ob.frm {w : World} {v : Value} {l : List UInt8} {n : Nat} (h : Ob w v l) (hl : l.length = n) : ∃ ao cap, v = .slice ao n cap ∧ n ≤ cap ∧ cap ≤ 9223372036854775807 := by
 subst hl; exact h.sl.form
theorem rmayh_any (h : Hd) (w : World) : Calls Tryz.prog 123 #[h.v] w fun e w' => e = .returned (.bool (mayH h)) ∧ Mod [] w w' := by
 obtain ⟨g, c, l, s⟩ := h
 unfold Hd.v mayH
 dsimp only
 by_cases h1 : 0 < g
 · have y1 : (1 : Int) ≤ g := by omega
   by_cases h2 : 0 ≤ l
   · by_cases h3 : l ≤ 67108864
     · rw [show decide (0 < g ∧ 0 ≤ l ∧ l ≤ 67108864) = true from decide_eq_true ⟨h1, h2, h3⟩]
       go_enter Tryz.func123, Tryz.ntmps123
       go_wp2_with (with_reducible refine st_box ?_)
       refine StopOp.go rfl fun K hK => ?_
       refine wp_box (v := .agg #[.int .u64 (g : Nat), .int .u64 (c : Nat), .int .i64 l, .int .u32 (s : Nat)]) (by rfl) ?_
       intro t w1 ht1 ht2 hm1 hT
       simp only [put_some, List.set_cons_succ, List.set_cons_zero]
       refine hK _ _ ?_
       clear hK K
       have b0 := hT.cell' (i := 0) rfl
       have b2 := hT.cell' (i := 2) rfl
       go_wp2_with fail
       go_ret
       exact ⟨rfl, hm1⟩
     · rw [show decide (0 < g ∧ 0 ≤ l ∧ l ≤ 67108864) = false from decide_eq_false (fun hh => h3 hh.2.2)]
       have y3 : decide (l ≤ 67108864) = false := decide_eq_false h3
       go_enter Tryz.func123, Tryz.ntmps123
       go_wp2_with (with_reducible refine st_box ?_)
       refine StopOp.go rfl fun K hK => ?_
       refine wp_box (v := .agg #[.int .u64 (g : Nat), .int .u64 (c : Nat), .int .i64 l, .int .u32 (s : Nat)]) (by rfl) ?_
       intro t w1 ht1 ht2 hm1 hT
       simp only [put_some, List.set_cons_succ, List.set_cons_zero]
       refine hK _ _ ?_
       clear hK K
       have b0 := hT.cell' (i := 0) rfl
       have b2 := hT.cell' (i := 2) rfl
       go_wp2_with fail
       go_ret
       exact ⟨rfl, hm1⟩
   · rw [show decide (0 < g ∧ 0 ≤ l ∧ l ≤ 67108864) = false from decide_eq_false (fun hh => h2 hh.2.1)]
     have y2 : l < 0 := by omega
     go_enter Tryz.func123, Tryz.ntmps123
     go_wp2_with (with_reducible refine st_box ?_)
     refine StopOp.go rfl fun K hK => ?_
     refine wp_box (v := .agg #[.int .u64 (g : Nat), .int .u64 (c : Nat), .int .i64 l, .int .u32 (s : Nat)]) (by rfl) ?_
     intro t w1 ht1 ht2 hm1 hT
     simp only [put_some, List.set_cons_succ, List.set_cons_zero]
     refine hK _ _ ?_
     clear hK K
     have b0 := hT.cell' (i := 0) rfl
     have b2 := hT.cell' (i := 2) rfl
     go_wp2_with fail
     go_ret
     exact ⟨rfl, hm1⟩
 · rw [show decide (0 < g ∧ 0 ≤ l ∧ l ≤ 67108864) = false from decide_eq_false (fun hh => h1 hh.1)]
   obtain rfl : g = 0 := by omega
   go_enter Tryz.func123, Tryz.ntmps123
   go_wp2_with (with_reducible refine st_box ?_)
   refine StopOp.go rfl fun K hK => ?_
   refine wp_box (v := .agg #[.int .u64 (0 : Nat), .int .u64 (c : Nat), .int .i64 l, .int .u32 (s : Nat)]) (by rfl) ?_
   intro t w1 ht1 ht2 hm1 hT
   simp only [put_some, List.set_cons_succ, List.set_cons_zero]
   refine hK _ _ ?_
   clear hK K
   have b0 := hT.cell' (i := 0) rfl
   have b2 := hT.cell' (i := 2) rfl
   go_wp2_with fail
   go_ret
   exact ⟨rfl, hm1⟩
def HputR (h : Hd) (w : World) (e : Ending) (w' : World) : Prop := ∃ v, e = .returned (.tuple #[v, .int .i64 (putE h)]) ∧ Bs w' v (putB h) ∧ New w v ∧ (∀ g ∈ blks v, g < w'.heap.size) ∧ Mod [] w w'
set_option maxRecDepth 1000000 in
set_option maxHeartbeats 8000000 in
theorem rhput_any (h : Hd) (hw : h.wf) (w : World) : Calls Tryz.prog 57 #[h.v] w (HputR h w) := by
 have MY := fun w => rmayh_any h w
 unfold HputR putE putB
 cases hmy : mayH h with
 | false =>
   rw [if_neg (by decide), if_neg (by decide)]
   rw [hmy] at MY
   clear hmy
   obtain ⟨g, c, l, s⟩ := h
   unfold Hd.v at *
   dsimp only at *
   go_enter Tryz.func57, Tryz.ntmps57
   go_wp2_with (with_reducible refine st_box ?_)
   refine StopOp.go rfl fun K hK => ?_
   refine wp_box (v := .agg #[.int .u64 (g : Nat), .int .u64 (c : Nat), .int .i64 l, .int .u32 (s : Nat)]) (by rfl) ?_
   intro t w1 ht1 ht2 hm1 hB1
   simp only [put_some, List.set_cons_succ, List.set_cons_zero]
   refine hK _ _ ?_
   clear hK K
   have hB : Blk w1 t 25 [.int .u64 (g : Nat), .int .u64 (c : Nat), .int .i64 l, .int .u32 (s : Nat)] := hB1
   have b0 := hB.cell' (i := 0) rfl
   have b1 := hB.cell' (i := 1) rfl
   have b2 := hB.cell' (i := 2) rfl
   have b3 := hB.cell' (i := 3) rfl
   go_wp2_with (go_at_call 123; (with_reducible refine (MY _).mono ?_); rintro e w2 ⟨rfl, hm2⟩)
   go_ret2
   exact ⟨_, rfl, (Ob.nil _).bs, by simp [New, blks], by simp [blks], hm1.ext hm2⟩
 | true =>
   rw [if_pos rfl, if_pos rfl]
   rw [hmy] at MY
   obtain ⟨m1, m2, m3⟩ := of_decide_eq_true hmy
   have hF : hdr h = hdB h ++ low (crcS (hdB h)) 4 := rfl
   have hBl := hdB_len h
   have hFl := hdr_len h
   have hcl := crcS_lt (hdB h)
   have hBB : hdB h = gang ++ low h.g 8 ++ low h.c 8 ++ low h.l.toNat 4 ++ low h.s 4 := rfl
   obtain ⟨B, hBb⟩ : ∃ B, B = hdB h := ⟨_, rfl⟩
   obtain ⟨F, hFF⟩ : ∃ B, B = hdr h := ⟨_, rfl⟩
   rw [← hBb] at hF hBl hcl hBB
   rw [← hFF] at hF hFl ⊢
   obtain ⟨hw1, hw2, hw3, hw4⟩ := hw
   obtain ⟨g, c, l, s⟩ := h
   unfold Hd.v at *
   dsimp only at *
   obtain ⟨n, rfl⟩ := Int.eq_ofNat_of_zero_le m2
   rw [Int.toNat_natCast] at hBB
   obtain ⟨cs, hcs⟩ : ∃ x, x = crcS B := ⟨_, rfl⟩
   have RS := fun w v h => rsum_any B v w h
   rw [← hcs] at hcl hF RS
   have HBB := Lib.hid hBB
   have HF := Lib.hid hF
   have HL := Lib.hid (And.intro hBl hFl)
   have y1 : (n : Int) ≤ 67108864 := by omega
   have z1 : IntKind.u64.wrap (n : Int) = n := IntWalk.u64_in _ (by omega)
   have z2 : IntKind.u64.wrap (s : Int) = s := IntWalk.u64_in _ (by omega)
   have z3 : IntKind.u64.wrap (cs : Int) = cs := IntWalk.u64_in _ (by omega)
   have y2 : (cs : Int) ≤ 4294967295 := by omega
   have y3 : (s : Int) ≤ 4294967295 := by omega
   clear hmy hBb hFF hBB hF hcs hBl hFl hw4
   go_enter Tryz.func57, Tryz.ntmps57
   go_wp2_with (with_reducible refine st_box ?_)
   refine StopOp.go rfl fun K hK => ?_
   refine wp_box (v := .agg #[.int .u64 (g : Nat), .int .u64 (c : Nat), .int .i64 (n : Nat), .int .u32 (s : Nat)]) (by rfl) ?_
   intro t w1 ht1 ht2 hm1 hB1
   simp only [put_some, List.set_cons_succ, List.set_cons_zero]
   refine hK _ _ ?_
   clear hK K
   have hB : Blk w1 t 25 [.int .u64 (g : Nat), .int .u64 (c : Nat), .int .i64 (n : Nat), .int .u32 (s : Nat)] := hB1
   have b0 := hB.cell' (i := 0) rfl
   have b1 := hB.cell' (i := 1) rfl
   have b2 := hB.cell' (i := 2) rfl
   have b3 := hB.cell' (i := 3) rfl
   go_wp2_with (first
                 | (with_reducible refine st_bslice ?_)
                 | (go_at_call 123; (with_reducible refine (MY _).mono ?_); rintro e w2 ⟨rfl, hm2⟩; have hM2 := hm1.ext hm2; have hB2 := hB.ext hm2))
   refine StopOp.go rfl fun K hK => ?_
   refine wp_bslice stB [.int .u8 71, .int .u8 65, .int .u8 78, .int .u8 71] rfl (by decide) (by rfl) (by simp [Value.cells]) ?_
   intro gg w40 hg4 hg4' hm40 hB40
   simp only [put_some, List.set_cons_succ, List.set_cons_zero]
   refine hK _ _ ?_
   clear hK K
   obtain ⟨w4, hr4, ho4, hm4'⟩ := bytes_const (l := gang) (n := 4) hB40 rfl (by omega)
   have hm4 : Mod [] w2 w4 := hm40.fresh hm4' (by simpa using hg4)
   have hM4 := hM2.ext hm4
   have hB4 := hB2.ext hm4
   have hN4 : New w (.slice (some ⟨gg, 0, none⟩) 4 4) := fun k hk => by have e : k = gg := (by simpa [blks] using hk); have := hM2.size; omega
   have c0 := hB4.cell' (i := 0) rfl
   clear b0 b1 b2 b3 hB40 hm40 hm4' hm4 hM2 hB2 hB1
   go_wp2_with (first
                 | (with_reducible refine st_append ?_)
                 | (go_at_call 124; refine (refNumber_any g 8 _ (by omega) (by omega)).mono ?_; rintro e x5 ⟨y5, rfl, hy5, hny5, hmy5⟩; obtain ⟨ay5, cy5, rfl, _, _⟩ := Ob.frm hy5 (low_length _ _)))
   have hpx5 := ho4.ext hmy5
   have hyx5 : Sl x5 1 _ 8 (bv (low g 8)) := Bs.onn hy5.bs (low_length _ _)
   refine StopOp.go rfl fun K hK => ?_
   refine wp_append_oz (by rfl) (by rfl) hpx5 hyx5 (by simp [gang, low_length]) ?_
   intro v5 w5 ho5 hm5 hb5
   simp only [put_some, List.set_cons_succ, List.set_cons_zero]
   refine hK _ _ ?_
   clear hK K
   have hN5 : New w v5 := fun k hk => (hb5 k hk).elim (hN4 k) fun h => by have := hM4.size; have := hmy5.size; omega
   have hM5 : Mod [] w w5 := (hM4.ext hmy5).fresh hm5 hN4
   obtain ⟨ao5, cap5, rfl, _, _⟩ := Oz.frm (n := 12) ho5 (by simp [gang, low_length])
   have hB5 := (hB4.ext hmy5).mod hm5 (Oz.ne hpx5 (hB4.ext hmy5) (by decide))
   have c1 := hB5.cell' (i := 1) rfl
   clear hB4 hpx5 hyx5 hy5 hny5 hmy5 hm5 hb5 hN4 hM4 ho4
   go_wp2_with (first
                 | (with_reducible refine st_append ?_)
                 | (go_at_call 124; refine (refNumber_any c 8 _ (by omega) (by omega)).mono ?_; rintro e x6 ⟨y6, rfl, hy6, hny6, hmy6⟩; obtain ⟨ay6, cy6, rfl, _, _⟩ := Ob.frm hy6 (low_length _ _)))
   have hpx6 := ho5.ext hmy6
   have hyx6 : Sl x6 1 _ 8 (bv (low c 8)) := Bs.onn hy6.bs (low_length _ _)
   refine StopOp.go rfl fun K hK => ?_
   refine wp_append_oz (by rfl) (by rfl) hpx6 hyx6 (by simp [gang, low_length]) ?_
   intro v6 w6 ho6 hm6 hb6
   simp only [put_some, List.set_cons_succ, List.set_cons_zero]
   refine hK _ _ ?_
   clear hK K
   have hN6 : New w v6 := fun k hk => (hb6 k hk).elim (hN5 k) fun h => by have := hM5.size; have := hmy6.size; omega
   have hM6 : Mod [] w w6 := (hM5.ext hmy6).fresh hm6 hN5
   obtain ⟨ao6, cap6, rfl, _, _⟩ := Oz.frm (n := 20) ho6 (by simp [gang, low_length])
   have hB6 := (hB5.ext hmy6).mod hm6 (Oz.ne hpx6 (hB5.ext hmy6) (by decide))
   have c2 := hB6.cell' (i := 2) rfl
   clear hB5 hpx6 hyx6 hy6 hny6 hmy6 hm6 hb6 hN5 hM5 ho5
   go_wp2_with (first
                 | (with_reducible refine st_append ?_)
                 | (go_at_call 124; refine (refNumber_any n 4 _ (by omega) (by omega)).mono ?_; rintro e x7 ⟨y7, rfl, hy7, hny7, hmy7⟩; obtain ⟨ay7, cy7, rfl, _, _⟩ := Ob.frm hy7 (low_length _ _)))
   have hpx7 := ho6.ext hmy7
   have hyx7 : Sl x7 1 _ 4 (bv (low n 4)) := Bs.onn hy7.bs (low_length _ _)
   refine StopOp.go rfl fun K hK => ?_
   refine wp_append_oz (by rfl) (by rfl) hpx7 hyx7 (by simp [gang, low_length]) ?_
   intro v7 w7 ho7 hm7 hb7
   simp only [put_some, List.set_cons_succ, List.set_cons_zero]
   refine hK _ _ ?_
   clear hK K
   have hN7 : New w v7 := fun k hk => (hb7 k hk).elim (hN6 k) fun h => by have := hM6.size; have := hmy7.size; omega
   have hM7 : Mod [] w w7 := (hM6.ext hmy7).fresh hm7 hN6
   obtain ⟨ao7, cap7, rfl, _, _⟩ := Oz.frm (n := 24) ho7 (by simp [gang, low_length])
   have hB7 := (hB6.ext hmy7).mod hm7 (Oz.ne hpx7 (hB6.ext hmy7) (by decide))
   have c3 := hB7.cell' (i := 3) rfl
   clear hB6 hpx7 hyx7 hy7 hny7 hmy7 hm7 hb7 hN6 hM6 ho6
   go_wp2_with (first
                 | (with_reducible refine st_append ?_)
                 | (go_at_call 124; refine (refNumber_any s 4 _ (by omega) (by omega)).mono ?_; rintro e x8 ⟨y8, rfl, hy8, hny8, hmy8⟩; obtain ⟨ay8, cy8, rfl, _, _⟩ := Ob.frm hy8 (low_length _ _)))
   have hpx8 := ho7.ext hmy8
   have hyx8 : Sl x8 1 _ 4 (bv (low s 4)) := Bs.onn hy8.bs (low_length _ _)
   refine StopOp.go rfl fun K hK => ?_
   refine wp_append_oz (by rfl) (by rfl) hpx8 hyx8 (by simp [gang, low_length]) ?_
   intro v8 w8 ho8 hm8 hb8
   simp only [put_some, List.set_cons_succ, List.set_cons_zero]
   refine hK _ _ ?_
   clear hK K
   have hN8 : New w v8 := fun k hk => (hb8 k hk).elim (hN7 k) fun h => by have := hM7.size; have := hmy8.size; omega
   have hM8 : Mod [] w w8 := (hM7.ext hmy8).fresh hm8 hN7
   obtain ⟨ao8, cap8, rfl, _, _⟩ := Oz.frm (n := 28) ho8 (by simp [gang, low_length])
   rw [← HBB.out] at ho8
   have hb8 := ho8.bs
   go_wp2_with (first
                 | (with_reducible refine st_append ?_)
                 | (go_at_call 26; refine (RS _ _ hb8).mono ?_; rintro e x9 ⟨rfl, rfl⟩)
                 | (go_at_call 124; refine (refNumber_any cs 4 _ (by omega) (by omega)).mono ?_; rintro e x9 ⟨y9, rfl, hy9, hny9, hmy9⟩; obtain ⟨ay9, cy9, rfl, _, _⟩ := Ob.frm hy9 (low_length _ _)))
   have hpx9 := ho8.ext hmy9
   have hyx9 : Sl x9 1 _ 4 (bv (low cs 4)) := Bs.onn hy9.bs (low_length _ _)
   refine StopOp.go rfl fun K hK => ?_
   refine wp_append_oz (by rfl) (by rfl) hpx9 hyx9 (by rw [HL.out.1]; omega) ?_
   intro v9 w9 ho9 hm9 hb9
   simp only [put_some, List.set_cons_succ, List.set_cons_zero]
   refine hK _ _ ?_
   clear hK K
   rw [← HF.out] at ho9
   have hN9 : New w v9 := fun k hk => (hb9 k hk).elim (hN8 k) fun h => by have := hM8.size; have := hmy9.size; omega
   have hM9 : Mod [] w w9 := (hM8.ext hmy9).fresh hm9 hN8
   obtain ⟨ao9, cap9, rfl, _, _⟩ := Oz.frm ho9 HL.out.2
   go_wp2_with fail
   go_ret2
   exact ⟨_, rfl, ho9.bs, hN9, ho9.lt, hM9⟩
end Go.Proofs.YtminfegoldgjpaaGreatDoor
namespace Go.Proofs.YtminfegoldgjpaaGreatDoor
open Go.RowKit Gw
theorem Bs.subz {w : World} {b o : Nat} {n cap lo hi : Nat} {l : List UInt8} (h : Bs w (.slice (some ⟨b, o, none⟩) n cap) l) (h1 : lo ≤ hi) (h2 : hi ≤ l.length) (hc : n ≤ cap) (hn : n = l.length) (hcm : lo < cap) : Bs w (.slice (some ⟨b, o + lo, none⟩) (hi - lo) (cap - lo)) ((l.drop lo).take (hi - lo)) := by
 subst hn
 have h3 := Sl.cut (lo := lo) (hi := hi) (m := cap) h h1 h2 (by omega) (Nat.le_refl _)
 have hl : ((l.drop lo).take (hi - lo)).length = hi - lo := by rw [List.length_take, List.length_drop]; omega
 unfold Bs
 rw [hl]
 have e : bv ((l.drop lo).take (hi - lo)) = ((bv l).drop (lo * 1)).take ((hi - lo) * 1) := by
   unfold bv
   rw [Nat.mul_one, Nat.mul_one, List.map_take, List.map_drop]
 rw [e]
 rw [if_neg (by omega)] at h3
 simpa only [Nat.mul_one, Option.map_some, Addr.add_lit] using h3
set_option maxRecDepth 1000000 in
set_option maxHeartbeats 16000000 in
theorem rhget_any (b : List UInt8) (v : Value) (w : World) (hb : Bs w v b) (hl : b.length ≤ 140737488355328) : Calls Tryz.prog 135 #[v] w (HgetP b w) := by
 obtain ⟨aob, capb, rfl, hc1, hc2⟩ := hb.form
 unfold HgetP
 by_cases h32 : b.length < 32
 · have e := errH_short h32
   rw [e.1, e.2]
   have y : (b.length : Int) < 32 := by omega
   clear e
   go_enter Tryz.func135, Tryz.ntmps135
   go_wp2_with (with_reducible refine st_alloc ?_)
   refine StopOp.go rfl fun K hK => ?_
   refine wp_alloc zero_header ?_
   intro g w1 hg1 hg2 hm1 hB1
   simp only [put_some, List.set_cons_succ, List.set_cons_zero]
   refine hK _ _ ?_
   clear hK K
   go_wp2_with (with_reducible refine st_store ?_)
   refine StopOp.go rfl fun K hK => ?_
   refine wp_store (u := .agg #[.int .u64 0, .int .u64 0, .int .i64 0, .int .u32 0]) (by rfl) (by rfl) (by kernel_rfl) hB1 (by simp [Value.cells]) (by simp [Value.cells, Value.oneCell']) ?_
   intro w90 hm90 hB90
   refine hK _ _ ?_
   clear hK K
   have z0 := hB90.cell' (i := 0) rfl
   have z1 := hB90.cell' (i := 1) rfl
   have z2 := hB90.cell' (i := 2) rfl
   have z3 := hB90.cell' (i := 3) rfl
   go_wp2_with fail
   exact bodyPost_ret (v := .tuple #[.agg #[.int .u64 0, .int .u64 0, .int .i64 0, .int .u32 0], .int .i64 4]) (by simp [results, Tryz.results135, go_sem, z0, z1, z2, z3]) rfl ⟨rfl, hm1.fresh hm90 (by simpa using hg1)⟩
 obtain ⟨pb, ob, rfl, cb0⟩ := hb.byte (show 0 < b.length by omega)
 clear cb0
 obtain ⟨D, hD⟩ : ∃ C, C = b.take 28 := ⟨_, rfl⟩
 have hDl : D.length = 28 := by rw [hD, List.length_take]; omega
 have SB := fun w (h : Bs w (.slice (some ⟨pb, ob, none⟩) b.length capb) b) lo k (hlo : lo + k ≤ 32 ∧ 0 < k) => Bs.subz (lo := lo) (hi := lo + k) h (by omega) (by omega) hc1 rfl (by omega)
 have k1 := nb_lt b 4 8
 have k2 := nb_lt b 12 8
 have k3 := nb_lt b 20 4
 have k4 := nb_lt b 24 4
 have k5 := nb_lt b 28 4
 have hcl := crcS_lt D
 have herr : errH b = if sumH b = true then (if mayH (parH b) = true then 0 else 2) else 81 := by unfold errH; rw [if_neg h32]
 have hsum : sumH b = decide (nb b 28 4 = crcS D ∧ b.take 4 = gang) := by rw [hD]; rfl
 have hpar : parH b = ⟨nb b 4 8, nb b 12 8, (nb b 20 4 : Nat), nb b 24 4⟩ := rfl
 have hget : getH b = if errH b = 0 then parH b else hd0 := rfl
 have MY := fun w => rmayh_any (parH b) w
 obtain ⟨mm, hmm⟩ : ∃ m, m = mayH (parH b) := ⟨_, rfl⟩
 rw [← hmm] at MY herr
 rw [hpar] at MY hget
 clear hpar hmm
 have V1 := fun w h => refValue_any ((b.drop 4).take 8) (.slice (some ⟨pb, ob + 4, none⟩) 8 (capb - 4)) w h (by rw [List.length_take]; omega)
 have V2 := fun w h => refValue_any ((b.drop 12).take 8) (.slice (some ⟨pb, ob + 12, none⟩) 8 (capb - 12)) w h (by rw [List.length_take]; omega)
 have V3 := fun w h => refValue_any ((b.drop 20).take 4) (.slice (some ⟨pb, ob + 20, none⟩) 4 (capb - 20)) w h (by rw [List.length_take]; omega)
 have V4 := fun w h => refValue_any ((b.drop 24).take 4) (.slice (some ⟨pb, ob + 24, none⟩) 4 (capb - 24)) w h (by rw [List.length_take]; omega)
 have V5 := fun w h => refValue_any ((b.drop 28).take 4) (.slice (some ⟨pb, ob + 28, none⟩) 4 (capb - 28)) w h (by rw [List.length_take]; omega)
 obtain ⟨n1, e1⟩ : ∃ m, m = nb b 4 8 := ⟨_, rfl⟩
 obtain ⟨n2, e2⟩ : ∃ m, m = nb b 12 8 := ⟨_, rfl⟩
 obtain ⟨n3, e3⟩ : ∃ m, m = nb b 20 4 := ⟨_, rfl⟩
 obtain ⟨n4, e4⟩ : ∃ m, m = nb b 24 4 := ⟨_, rfl⟩
 obtain ⟨n5, e5⟩ : ∃ m, m = nb b 28 4 := ⟨_, rfl⟩
 rw [show val ((b.drop 4).take 8) = n1 from e1.symm] at V1
 rw [show val ((b.drop 12).take 8) = n2 from e2.symm] at V2
 rw [show val ((b.drop 20).take 4) = n3 from e3.symm] at V3
 rw [show val ((b.drop 24).take 4) = n4 from e4.symm] at V4
 rw [show val ((b.drop 28).take 4) = n5 from e5.symm] at V5
 rw [← e1] at k1
 rw [← e2] at k2
 rw [← e3] at k3
 rw [← e4] at k4
 rw [← e5] at k5 hsum
 rw [← e1, ← e2, ← e3, ← e4] at MY hget
 clear e1 e2 e3 e4 e5
 unfold Hd.v at MY
 dsimp only at MY
 obtain ⟨X, hX⟩ : ∃ X, X = b.take 4 := ⟨_, rfl⟩
 rw [← hX] at hsum
 obtain ⟨cs, hcs⟩ : ∃ X, X = crcS D := ⟨_, rfl⟩
 have SU := fun w v h => rsum_any D v w h
 rw [← hcs] at SU hcl hsum
 have HR := Lib.hid (And.intro herr (And.intro hsum hget))
 have y1 : (n1 : Int) ≤ 18446744073709551615 := by omega
 have y2 : (n2 : Int) ≤ 18446744073709551615 := by omega
 have y3 : (n3 : Int) ≤ 4294967295 := by omega
 have y4 : (n4 : Int) ≤ 4294967295 := by omega
 have y5 : (n5 : Int) ≤ 4294967295 := by omega
 have y6 : (cs : Int) ≤ 4294967295 := by omega
 have y7 : (32 : Int) ≤ b.length := by omega
 have z1 : IntKind.u64.wrap (cs : Int) = cs := IntWalk.u64_in _ (by omega)
 have z2 : IntKind.i64.wrap (n3 : Int) = n3 := IntWalk.i64_in _ (by omega)
 have z3 : IntKind.u32.wrap (n4 : Int) = n4 := by rw [IntKind.wrap_u32]; omega
 have PD := fun w (h : Bs w (.slice (some ⟨pb, ob, none⟩) b.length capb) b) => Bs.prefz h rfl (k := 28) (by omega) (by omega)
 have PX := fun w (h : Bs w (.slice (some ⟨pb, ob, none⟩) b.length capb) b) => Bs.str (Bs.prefz h rfl (k := 4) (by omega) (by omega))
 rw [← hD] at PD
 rw [← hX] at PX
 obtain ⟨x1a, x1b, x1c, x1d, x1e, x1f⟩ : (4 : Int) ≤ capb ∧ (12 : Int) ≤ capb ∧ (20 : Int) ≤ capb ∧ (24 : Int) ≤ capb ∧ (28 : Int) ≤ capb ∧ (32 : Int) ≤ capb := by omega
 obtain ⟨c4, c12, c20, c24, c28⟩ : ¬ capb = 4 ∧ ¬ capb = 12 ∧ ¬ capb = 20 ∧ ¬ capb = 24 ∧ ¬ capb = 28 := by omega
 obtain ⟨ig, hig⟩ : ∃ i, (!(X == [71, 65, 78, 71])) = i := ⟨_, rfl⟩
 have HIG : Hid (decide (X = gang) = !ig) := Lib.hid (by rw [← hig]; exact (by cases h : (X == [71, 65, 78, 71]) <;> simp [bne, h] <;> simp at h <;> simp [gang, h]))
 have HL := Lib.hid (And.intro hDl hl)
 clear herr hsum hget hcs k1 k2 k3 k4 k5 hcl hDl hD hX h32
 go_enter Tryz.func135, Tryz.ntmps135
 go_wp2_with (with_reducible refine st_alloc ?_)
 refine StopOp.go rfl fun K hK => ?_
 refine wp_alloc zero_header ?_
 intro g w1 hg1 hg2 hm1 hB1
 simp only [put_some, List.set_cons_succ, List.set_cons_zero]
 refine hK _ _ ?_
 clear hK K
 have hG1 : Blk w1 g 25 [.int .u64 0, .int .u64 0, .int .i64 0, .int .u32 0] := hB1
 go_wp2_with fail
 refine wp_region_T [⟨0, true, []⟩, ⟨1, true, []⟩, ⟨2, true, []⟩, ⟨3, true, []⟩, ⟨4, true, []⟩, ⟨5, true, []⟩, ⟨6, true, []⟩, ⟨8, true, []⟩, ⟨9, true, []⟩, ⟨7, false, []⟩, ⟨10, false, []⟩, ⟨11, true, []⟩, ⟨12, true, []⟩, ⟨13, true, []⟩] (by kernel_rfl) (by kernel_rfl) ?_
 have hmD := Mod.drew [] w1
 obtain ⟨w2, hx⟩ : ∃ x, x = w1.drew := ⟨_, rfl⟩
 rw [← hx] at hmD ⊢
 clear hx
 have hM2 := hm1.ext hmD
 have hG2 := hG1.ext hmD
 have hb2 := hb.ext hM2
 have hpx := PX _ hb2
 have hpd := PD _ hb2
 have hp5 := SB _ hb2 28 4 (by omega)
 clear hm1 hmD hG1 hB1
 cases ig with
 | true =>
   iterate 5 (refine wpT_n rfl rfl (fun K hK => ?_); go_wp2_with fail)
   iterate 8 (refine wpT_gk (gi := 4) rfl rfl rfl rfl rfl rfl (fun K hK => ?_); go_wp2_with fail)
   refine wpT_n rfl rfl (fun K hK => ?_)
   go_wp2_with fail
   refine wpT_nil ?_
   go_wp2_with (with_reducible refine st_store ?_)
   refine StopOp.go rfl fun K hK => ?_
   refine wp_store (u := .agg #[.int .u64 0, .int .u64 0, .int .i64 0, .int .u32 0]) (by rfl) (by rfl) (by kernel_rfl) hG2 (by simp [Value.cells]) (by simp [Value.cells, Value.oneCell']) ?_
   intro w90 hm90 hB90
   refine hK _ _ ?_
   clear hK K
   have z0 := hB90.cell' (i := 0) rfl
   have z1 := hB90.cell' (i := 1) rfl
   have z2 := hB90.cell' (i := 2) rfl
   have z3 := hB90.cell' (i := 3) rfl
   go_wp2_with fail
   exact bodyPost_ret (v := .tuple #[.agg #[.int .u64 0, .int .u64 0, .int .i64 0, .int .u32 0], .int .i64 81]) (by simp [results, Tryz.results135, go_sem, z0, z1, z2, z3]) rfl ⟨by rw [HR.out.2.2, HR.out.1, HR.out.2.1, decide_eq_false (fun h => by have := HIG.out; rw [decide_eq_true h.2] at this; cases this)]; rfl, hM2.fresh hm90 (by simpa using hg1)⟩
 | false =>
   iterate 5 (refine wpT_n rfl rfl (fun K hK => ?_); go_wp2_with fail)
   iterate 4 (refine wpT_gq (gi := 4) rfl rfl rfl rfl rfl (fun K hK => ?_); go_wp2_with fail)
   refine wpT_gcall (gi := 4) rfl rfl rfl rfl (fun K hK => ?_)
   go_wp2_with (go_at_call 172; refine (V5 _ hp5).mono ?_; rintro e w3 ⟨rfl, hw⟩; obtain rfl := hw)
   refine wpT_gcall (gi := 4) rfl rfl rfl rfl (fun K hK => ?_)
   go_wp2_with (go_at_call 26; refine (SU _ _ hpd).mono ?_; rintro e w3 ⟨rfl, hw⟩; obtain rfl := hw)
   by_cases hq : n5 = cs
   · subst hq
     iterate 2 (refine wpT_gq (gi := 4) rfl rfl rfl rfl rfl (fun K hK => ?_); go_wp2_with fail)
     refine wpT_n rfl rfl (fun K hK => ?_)
     go_wp2_with fail
     refine wpT_nil ?_
     have pd1 := SB _ (hb2.ext (Mod.drew [] w2)) 4 8 (by omega)
     have pd2 := SB _ (hb2.ext (Mod.drew [] w2)) 12 8 (by omega)
     have pd3 := SB _ (hb2.ext (Mod.drew [] w2)) 20 4 (by omega)
     have pd4 := SB _ (hb2.ext (Mod.drew [] w2)) 24 4 (by omega)
     have hal := (hb2.ext (Mod.alloc [] w2 (.cells #[.int .u64 0, .int .u64 0, .int .i64 0, .int .u32 0] 25))).ext (Mod.drew [] _)
     have pa1 := SB _ hal 4 8 (by omega)
     have pa2 := SB _ hal 12 8 (by omega)
     have pa3 := SB _ hal 20 4 (by omega)
     have pa4 := SB _ hal 24 4 (by omega)
     clear hal SB PX PD SU V5 hp5 hpx
     go_upto_region 5 with fail
     go_cut [4] (fun x wx => ∃ f, x = .pointer (some ⟨f, 0, none⟩) ∧ w2.heap.size ≤ f ∧ Blk wx f 25 [.int .u64 (n1 : Nat), .int .u64 (n2 : Nat), .int .i64 (n3 : Nat), .int .u32 (n4 : Nat)] ∧ Mod [] w2 wx)
     case first =>
       go_region_with (first
       | (go_at_call 172; (with_reducible refine (V1 _ pd1).mono ?_); rintro e w' ⟨rfl, rfl⟩)
       | (go_at_call 172; (with_reducible refine (V2 _ pd2).mono ?_); rintro e w' ⟨rfl, rfl⟩)
       | (go_at_call 172; (with_reducible refine (V3 _ pd3).mono ?_); rintro e w' ⟨rfl, rfl⟩)
       | (go_at_call 172; (with_reducible refine (V4 _ pd4).mono ?_); rintro e w' ⟨rfl, rfl⟩)
       | (go_at_call 172; (with_reducible refine (V1 _ pa1).mono ?_); rintro e w' ⟨rfl, rfl⟩)
       | (go_at_call 172; (with_reducible refine (V2 _ pa2).mono ?_); rintro e w' ⟨rfl, rfl⟩)
       | (go_at_call 172; (with_reducible refine (V3 _ pa3).mono ?_); rintro e w' ⟨rfl, rfl⟩)
       | (go_at_call 172; (with_reducible refine (V4 _ pa4).mono ?_); rintro e w' ⟨rfl, rfl⟩))
       all_goals (go_wp2_with fail; go_meet; exact ⟨w2.heap.size, rfl, Nat.le_refl _, Blk.ext (Blk.new _ _ _) (Mod.drew [] _), (Mod.alloc [] _ _).ext (Mod.drew [] _)⟩)
     case rest =>
     obtain ⟨f, rfl, hf1, hF, hmc⟩ := hcut
     have hGC := hG2.ext hmc
     have hMC := hM2.ext hmc
     have u0 := hF.cell' (i := 0) rfl
     have u1 := hF.cell' (i := 1) rfl
     have u2 := hF.cell' (i := 2) rfl
     have u3 := hF.cell' (i := 3) rfl
     clear V1 V2 V3 V4 pd1 pd2 pd3 pd4 pa1 pa2 pa3 pa4
     cases mm with
     | false =>
       go_wp2_with (first
                     | (with_reducible refine st_store ?_)
                     | (go_at_call 123; (with_reducible refine (MY _).mono ?_); rintro e w12 ⟨rfl, hm12⟩; have hG12 := hGC.ext hm12; have hM12 := hMC.ext hm12))
       refine StopOp.go rfl fun K hK => ?_
       refine wp_store (u := .agg #[.int .u64 0, .int .u64 0, .int .i64 0, .int .u32 0]) (by rfl) (by rfl) (by kernel_rfl) hG12 (by simp [Value.cells]) (by simp [Value.cells, Value.oneCell']) ?_
       intro w90 hm90 hB90
       refine hK _ _ ?_
       clear hK K
       have z0 := hB90.cell' (i := 0) rfl
       have z1 := hB90.cell' (i := 1) rfl
       have z2 := hB90.cell' (i := 2) rfl
       have z3 := hB90.cell' (i := 3) rfl
       go_wp2_with fail
       exact bodyPost_ret (v := .tuple #[.agg #[.int .u64 0, .int .u64 0, .int .i64 0, .int .u32 0], .int .i64 2]) (by simp [results, Tryz.results135, go_sem, z0, z1, z2, z3]) rfl ⟨by rw [HR.out.2.2, HR.out.1, HR.out.2.1, decide_eq_true (by first | exact ⟨rfl, of_decide_eq_true HIG.out⟩ | exact ⟨trivial, of_decide_eq_true HIG.out⟩)]; rfl, hM12.fresh hm90 (by simpa using hg1)⟩
     | true =>
       go_wp2_with (first
                     | (with_reducible refine st_store ?_)
                     | (go_at_call 123; (with_reducible refine (MY _).mono ?_); rintro e w12 ⟨rfl, hm12⟩; have hG12 := hGC.ext hm12; have hM12 := hMC.ext hm12; have hH12 := hF.ext hm12; have a0 := hH12.cell' (i := 0) rfl; have a1 := hH12.cell' (i := 1) rfl; have a2 := hH12.cell' (i := 2) rfl; have a3 := hH12.cell' (i := 3) rfl))
       refine StopOp.go rfl fun K hK => ?_
       refine wp_store (u := .agg #[.int .u64 (n1 : Nat), .int .u64 (n2 : Nat), .int .i64 (n3 : Nat), .int .u32 (n4 : Nat)]) (by rfl) (by rfl) (by kernel_rfl) hG12 (by simp [Value.cells]) (by simp [Value.cells, Value.oneCell']) ?_
       intro w90 hm90 hB90
       refine hK _ _ ?_
       clear hK K
       have z0 := hB90.cell' (i := 0) rfl
       have z1 := hB90.cell' (i := 1) rfl
       have z2 := hB90.cell' (i := 2) rfl
       have z3 := hB90.cell' (i := 3) rfl
       go_wp2_with fail
       exact bodyPost_ret (v := .tuple #[.agg #[.int .u64 (n1 : Nat), .int .u64 (n2 : Nat), .int .i64 (n3 : Nat), .int .u32 (n4 : Nat)], .int .i64 0]) (by simp [results, Tryz.results135, go_sem, z0, z1, z2, z3]) rfl ⟨by rw [HR.out.2.2, HR.out.1, HR.out.2.1, decide_eq_true (by first | exact ⟨rfl, of_decide_eq_true HIG.out⟩ | exact ⟨trivial, of_decide_eq_true HIG.out⟩)]; rfl, hM12.fresh hm90 (by simpa using hg1)⟩
   · have dq : ((n5 : Int) != (cs : Int)) = true := bne_iff_ne.2 (by omega)
     iterate 2 (refine wpT_gq (gi := 4) rfl rfl rfl rfl rfl (fun K hK => ?_); go_wp2_with fail)
     refine wpT_n rfl rfl (fun K hK => ?_)
     go_wp2_with fail
     refine wpT_nil ?_
     go_wp2_with (with_reducible refine st_store ?_)
     refine StopOp.go rfl fun K hK => ?_
     refine wp_store (u := .agg #[.int .u64 0, .int .u64 0, .int .i64 0, .int .u32 0]) (by rfl) (by rfl) (by kernel_rfl) hG2 (by simp [Value.cells]) (by simp [Value.cells, Value.oneCell']) ?_
     intro w90 hm90 hB90
     refine hK _ _ ?_
     clear hK K
     have z0 := hB90.cell' (i := 0) rfl
     have z1 := hB90.cell' (i := 1) rfl
     have z2 := hB90.cell' (i := 2) rfl
     have z3 := hB90.cell' (i := 3) rfl
     go_wp2_with fail
     exact bodyPost_ret (v := .tuple #[.agg #[.int .u64 0, .int .u64 0, .int .i64 0, .int .u32 0], .int .i64 81]) (by simp [results, Tryz.results135, go_sem, z0, z1, z2, z3]) rfl ⟨by rw [HR.out.2.2, HR.out.1, HR.out.2.1, decide_eq_false (fun h => hq h.1)]; rfl, hM2.fresh hm90 (by simpa using hg1)⟩
end Go.Proofs.YtminfegoldgjpaaGreatDoor
