import Derived.Test.YtboigcnpamldlaaDoorFrB
import Derived.Test.YtboigcnpamldlaaDoorRfB
import Derived.LoopNIn
import Derived.LoopIn
/-! Frames: Each. -/
set_option linter.unusedVariables false
set_option linter.unusedSimpArgs false
set_option maxRecDepth 100000
namespace Go.Proofs.YtboigcnpamldlaaDoor
open Go.RowKit Gw
attribute [local go_sem] Oper.semAt_some

set_option maxHeartbeats 400000 in
theorem fclone_any (l : List UInt8) (v : Value) (w : World) (hv : Bs w v l) (hl : l.length ≤ 140737488355328) :
    Calls Tryd.prog 51 #[v] w fun e w' => ∃ v', e = .returned v' ∧ Ob w' v' l ∧ New w v' ∧ Mod [] w w' := by
  obtain ⟨ao, cap, rfl, hc1, hc2⟩ := hv.form
  cases ao with
  | none =>
    have h0 : l = [] := List.eq_nil_of_length_eq_zero (by
      obtain ⟨ao', cap', hv', _, _, _, hn, _⟩ := hv
      injection hv' with e1 e2 e3
      have := hn e1.symm
      omega)
    subst h0
    go_enter Tryd.func51, Tryd.ntmps51
    go_wp2_with fail
    go_ret
    exact ⟨_, rfl, Ob.nil _, by simp [New, blks], Mod.refl _ _⟩
  | some ad =>
    go_enter Tryd.func51, Tryd.ntmps51
    go_wp2_with (with_reducible refine st_bslice ?_)
    refine StopOp.go rfl fun K hK => ?_
    refine wp_bslice stB [] rfl (by decide) (by rfl) (by simp) ?_
    intro p w1 hp1 hp2 hm1 hB1
    simp only [put_some, List.set_cons_succ, List.set_cons_zero]
    refine hK _ _ ?_
    clear hK K
    have ho1 : Ow w1 5 1 (.slice (some ⟨p, 0, none⟩) 0 0) 0 [] := Ow.of_blk (rest := []) hB1 (by omega) (by omega) (by simp) (by simp)
    go_wp2_with (with_reducible refine st_append ?_)
    refine StopOp.go rfl fun K hK => ?_
    refine wp_append_ow stB (by rfl) (by rfl) ho1 (hv.ext hm1) (bv_one l) (by omega) (by omega) ?_
    intro v2 w2 ho2 hm2 hb2
    simp only [put_some, List.set_cons_succ, List.set_cons_zero]
    refine hK _ _ ?_
    clear hK K
    rw [List.nil_append, Nat.zero_add] at ho2
    obtain ⟨ao2, cap2, rfl, _, _⟩ := ho2.sl.form
    go_wp2_with fail
    go_ret
    exact ⟨_, rfl, ho2, fun k hk => (hb2 k hk).elim (fun h => by rw [show k = p by simpa [blks] using h]; exact hp1) (fun h => Nat.le_trans hm1.size h), hm1.fresh hm2 (by simpa [blks] using hp1)⟩
/-- the closure's variables -/
structure Ech (w : World) (bs bb be : Nat) (vb : Value) (b : List UInt8) (e s : Nat) : Prop where
  cs : Blk w bs 22 [.int .u64 (s : Nat)]
  ce : Blk w be 22 [.int .u64 (e : Nat)]
  cb : Blk w bb 23 [vb]
  cv : Ob w vb b
def EchL (bs bb be : Nat) (vb : Value) : List Nat := bs :: bb :: be :: blks vb
/-- some blocks, and those from B on, lie as they lay -/
def KpL (L : List Nat) (B : Nat) (W W' : World) : Prop := W.heap.size ≤ W'.heap.size ∧ ∀ k, k < W.heap.size → k ∈ L ∨ B ≤ k → W'.heap[k]? = W.heap[k]?
theorem KpL.refl (L : List Nat) (B : Nat) (W : World) : KpL L B W W := ⟨Nat.le_refl _, fun _ _ _ => rfl⟩
theorem KpL.trans {L : List Nat} {b : Nat} {A B C : World} (h : KpL L b A B) (k : KpL L b B C) : KpL L b A C := ⟨Nat.le_trans h.1 k.1, fun i hi hj => (k.2 i (Nat.lt_of_lt_of_le hi h.1) hj).trans (h.2 i hi hj)⟩
theorem KpL.of_mod {L M : List Nat} {B : Nat} {W W' : World} (hm : Mod M W W') (h : ∀ k ∈ M, k ∉ L ∧ (k < B ∨ W.heap.size ≤ k)) : KpL L B W W' := ⟨hm.size, fun k hk hj => hm.block k hk (fun hM => by
  obtain ⟨h1, h2⟩ := h k hM
  rcases hj with hj | hj
  · exact h1 hj
  · omega)⟩
theorem KpL.less {L : List Nat} {B C : Nat} {W W' : World} (h : KpL L B W W') (hc : B ≤ C) : KpL L C W W' := ⟨h.1, fun k hk hj => h.2 k hk (hj.imp id (fun h => by omega))⟩
theorem KpL.next {L : List Nat} {B C : Nat} {U W W' : World} (h0 : KpL L B U W) (h : KpL L C W W') (hL : ∀ k ∈ L, k < U.heap.size) (hB : U.heap.size ≤ B) : KpL L B U W' :=
  ⟨Nat.le_trans h0.1 h.1, fun k hk hj => by
    rcases hj with hj | hj
    · exact (h.2 k (Nat.lt_of_lt_of_le hk h0.1) (.inl hj)).trans (h0.2 k hk (.inl hj))
    · omega⟩
theorem Ob.kpf {w w' : World} {v : Value} {l : List UInt8} (h : Ob w v l) (hk : ∀ k ∈ blks v, w'.heap[k]? = w.heap[k]?) : Ob w' v l := by
  rcases Ow.blk h with ⟨rfl, h1, h2⟩ | ⟨g, cap, rest, rfl, hB, h1, h2, h3, h4⟩
  · have e : l = [] := List.eq_nil_of_length_eq_zero h1
    subst e
    exact Ob.nil _
  · refine Ow.of_blk (rest := rest) ?_ h1 h2 h3 h4
    exact (hk g (by simp [blks])).trans hB
theorem Ech.kp {w w' : World} {bs bb be : Nat} {vb : Value} {b : List UInt8} {e s : Nat} (h : Ech w bs bb be vb b e s) {B : Nat} (hk : KpL (0 :: EchL bs bb be vb) B w w') : Ech w' bs bb be vb b e s :=
  ⟨(hk.2 bs h.cs.lt (by simp [EchL])).trans h.cs, (hk.2 be h.ce.lt (by simp [EchL])).trans h.ce, (hk.2 bb h.cb.lt (by simp [EchL])).trans h.cb, Ob.kpf h.cv (fun k hk' => hk.2 k (Ow.lt h.cv k hk') (by simp [EchL, hk']))⟩
theorem Ech.lt {w : World} {bs bb be : Nat} {vb : Value} {b : List UInt8} {e s : Nat} (h : Ech w bs bb be vb b e s) : ∀ k ∈ EchL bs bb be vb, k < w.heap.size := fun k hk => by
  simp only [EchL, List.mem_cons] at hk
  rcases hk with rfl | rfl | rfl | hk
  · exact h.cs.lt
  · exact h.cb.lt
  · exact h.ce.lt
  · exact Ow.lt h.cv k hk
theorem TabC.kp {w w' : World} {L : List Nat} {B : Nat} (h : TabC w) (hk : KpL (0 :: L) B w w') : TabC w' := by
  obtain ⟨h1, h2⟩ := h
  refine ⟨Nat.lt_of_lt_of_le h1 hk.1, fun i hi => ?_⟩
  rw [← h2 i hi]
  unfold World.cell?
  rw [hk.2 0 h1 (by simp)]
theorem Ech.ext {w w' : World} {bs bb be : Nat} {vb : Value} {b : List UInt8} {e s : Nat} (h : Ech w bs bb be vb b e s) (hm : Mod [] w w') : Ech w' bs bb be vb b e s := ⟨h.cs.ext hm, h.ce.ext hm, h.cb.ext hm, h.cv.ext hm⟩
def EachP (b : List UInt8) (e s : Nat) (w : World) (en : Ending) (w' : World) : Prop :=
  ∃ bs bb be vb, en = .returned (.func (.func 52) #[] #[.pointer (some ⟨bs, 0, none⟩), .pointer (some ⟨bb, 0, none⟩), .pointer (some ⟨be, 0, none⟩)]) ∧ Ech w' bs bb be vb b e s ∧ (∀ k ∈ EchL bs bb be vb, w.heap.size ≤ k) ∧ Mod [] w w'
set_option maxHeartbeats 400000 in
theorem each_any (b : List UInt8) (e s : Nat) (v : Value) (w : World) (hb : Bs w v b) (hl : b.length ≤ 140737488355328) : Calls Tryd.prog 26 #[v, .int .u64 (e : Nat), .int .u64 (s : Nat)] w (EachP b e s w) := by
  obtain ⟨ao, cap, rfl, hc1, hc2⟩ := hb.form
  go_enter Tryd.func26, Tryd.ntmps26
  go_wp2_with (with_reducible refine st_box ?_)
  refine StopOp.go rfl fun K hK => ?_
  refine wp_box (v := .slice ao b.length cap) (by rfl) ?_
  intro p w1 hp1 hp2 hm1 hB1
  simp only [put_some, List.set_cons_succ, List.set_cons_zero]
  refine hK _ _ ?_
  clear hK K
  go_wp2_with (with_reducible refine st_box ?_)
  refine StopOp.go rfl fun K hK => ?_
  refine wp_box (v := .int .u64 (e : Nat)) (by rfl) ?_
  intro q w2 hq1 hq2 hm2 hB2
  simp only [put_some, List.set_cons_succ, List.set_cons_zero]
  refine hK _ _ ?_
  clear hK K
  go_wp2_with (with_reducible refine st_box ?_)
  refine StopOp.go rfl fun K hK => ?_
  refine wp_box (v := .int .u64 (s : Nat)) (by rfl) ?_
  intro r w3 hr1 hr2 hm3 hB3
  simp only [put_some, List.set_cons_succ, List.set_cons_zero]
  refine hK _ _ ?_
  clear hK K
  have hP : Blk w3 p 23 [.slice ao b.length cap] := (Blk.ext hB1 hm2).ext hm3
  have hb3 := ((hb.ext hm1).ext hm2).ext hm3
  have c0 := hP.cell' (i := 0) rfl
  go_wp2_with (first
                | (with_reducible refine st_store ?_)
                | (go_at_call 51; refine (fclone_any b _ _ hb3 hl).mono ?_; rintro e w4 ⟨v4, rfl, ho4, hn4, hm4⟩; obtain ⟨ao4, cap4, rfl, _, _⟩ := ho4.sl.form))
  have hP4 := hP.ext hm4
  refine StopOp.go rfl fun K hK => ?_
  refine wp_store1 (by kernel_rfl) (by rfl) (u := .slice ao4 b.length cap4) (by rfl) ⟨rfl, rfl⟩ hP4 (by simp) ?_
  intro w5 hm5 hB5
  refine hK _ _ ?_
  clear hK K
  go_wp2_with fail
  go_ret
  have s1 := hm1.size
  have s2 := hm2.size
  have s3 := hm3.size
  have s4 := hm4.size
  have hpo : p ∉ blks (.slice ao4 b.length cap4) := fun hh => by have := hn4 p hh; omega
  refine ⟨r, p, q, .slice ao4 b.length cap4, rfl, ⟨(Blk.ext hB3 hm4).mod hm5 (by simp; omega), ((Blk.ext hB2 hm3).ext hm4).mod hm5 (by simp; omega), hB5, ho4.mod hm5 (fun k hk hh => hpo (by have e : k = p := (by simpa using hh); exact e ▸ hk))⟩, fun k hk => ?_, (((hm1.ext hm2).ext hm3).ext hm4).fresh hm5 (by simp; omega)⟩
  simp only [EchL, List.mem_cons] at hk
  rcases hk with rfl | rfl | rfl | hk
  · omega
  · omega
  · omega
  · have := hn4 k hk; omega
theorem Bs.suf {w : World} {ao : Option Addr} {n cap p : Nat} {l : List UInt8} (h : Bs w (.slice ao n cap) l) (hn : n = l.length) (hp : p ≤ n) (hc : n ≤ cap) : Bs w (.slice (if cap = p then ao else Option.map (fun x => x.add p) ao) (n - p) (cap - p)) (l.drop p) := by
  subst hn
  have h2 := Sl.cut (lo := p) (hi := l.length) (m := cap) h hp (Nat.le_refl _) hc (Nat.le_refl _)
  have hl : (l.drop p).length = l.length - p := List.length_drop
  unfold Bs
  rw [hl]
  have e : bv (l.drop p) = ((bv l).drop (p * 1)).take ((l.length - p) * 1) := by
    unfold bv
    rw [Nat.mul_one, Nat.mul_one, ← List.map_drop, List.take_of_length_le (by rw [List.length_map]; omega)]
  rw [e]
  simpa only [Nat.mul_one] using h2
/-- what is handed over -/
structure Fi where
  p : Nat
  v : Value
  f : Fv
def Fi.enc (x : Fi) : Array Value := #[.int .i64 (x.p : Nat), .agg #[.int .u64 (x.f.e : Nat), .int .u64 (x.f.s : Nat), x.v]]
def Fi.d (x : Fi) : Nat × Fv := (x.p, x.f)
def Fi.phi (R : List (Nat × Fv)) (pre : List Fi) (B : Nat) (x : Fi) (W : World) : Prop := Ob W x.v x.f.l ∧ (∀ k ∈ blks x.v, B ≤ k) ∧ (pre ++ [x]).map Fi.d <+: R
set_option maxRecDepth 1000000 in
set_option maxHeartbeats 4000000 in
theorem each1_seq (n : Nat) (w : World) (bs bb be : Nat) (vb : Value) (b : List UInt8) (e s : Nat) (hE : Ech w bs bb be vb b e s) (hs : s < 18446744073709551616) (he : e < 18446744073709551616) (hl : b.length ≤ 140737488355328) (hT : TabC w) :
    SeqP Fence.wide n Tryd.prog 52 #[.pointer (some ⟨bs, 0, none⟩), .pointer (some ⟨bb, 0, none⟩), .pointer (some ⟨be, 0, none⟩)] Fi.enc (KpL (0 :: EchL bs bb be vb)) (Fi.phi (rowS b e s 0))
      (fun xs => xs.map Fi.d = rowS b e s 0) (fun pre => pre.map Fi.d <+: rowS b e s 0) (rowS b e s 0).length w := by
  intro l J Jx W hm hJ hJx hY h0
  obtain ⟨aov, capv, hvb, hcv1, hcv2⟩ := hE.cv.sl.form
  have hE0 := hE.ext hm
  have hT0 := hT.ext hm
  refine callsIn_of_wp Tryd.func52 rfl trivial ?_ rfl
  simp only [Tryd.ntmps52, List.size_toArray, List.length_cons, List.length_nil, Nat.reduceAdd, Nat.reduceSub, Array.replicate_succ, Array.replicate_zero, List.push_toArray, List.append_toArray, List.nil_append, List.cons_append]
  have s0 := hE0.cs.cell' (i := 0) rfl
  gi_wp2
  refine wpIn_scope_straight ?_
  gi_wp2
  refine wpIn_wide.2 (wp_region_T [⟨0, true, []⟩, ⟨1, true, []⟩, ⟨2, true, []⟩] (by kernel_rfl) (by kernel_rfl) ?_)
  have hm1 := Mod.drew [] W
  have hE1 := hE0.ext hm1
  have hT1 := hT0.ext hm1
  have h1 := hJ _ _ _ h0 hm1
  have hLw : ∀ k ∈ 0 :: EchL bs bb be vb, k < w.heap.size := fun k hk => (List.mem_cons.1 hk).elim (fun e => e ▸ hT.1) (hE.lt k)
  have hkp := KpL.of_mod (L := 0 :: EchL bs bb be vb) (B := w.heap.size) (hm.ext hm1) (fun k hk => nomatch hk)
  obtain ⟨w1, hw1⟩ : ∃ x, x = W.drew := ⟨_, rfl⟩
  rw [← hw1] at hE1 hT1 h1 hkp ⊢
  clear hw1 hm1
  have s1 := hE1.cs.cell' (i := 0) rfl
  iterate 3 (refine wpT_n rfl rfl (fun K hK => ?_); go_wp2_with fail)
  refine wpT_nil ?_
  go_wp2_with fail
  gi_wp2
  apply wpIn_label
  gi_wp2
  gi_loopw [5, 6] (fun pa la wr => ∃ (pre : List Fi) (p sq : Nat), pa = .int .i64 p ∧ la = .int .u64 sq ∧ pre.map Fi.d ++ rowS b e sq p = rowS b e s 0 ∧ p ≤ b.length ∧ sq < 18446744073709551616 ∧ J pre wr ∧ KpL (0 :: EchL bs bb be vb) w.heap.size w wr) (fun pa _ _ => b.length - (intOf pa).toNat)
  case atStart => exact ⟨[], 0, s, rfl, rfl, rfl, Nat.zero_le _, hs, h1, hkp⟩
  case round =>
    obtain ⟨pre, p, sq, rfl, rfl, hrow, hp, hsq, hJr, hkr⟩ := hrel
    have hEr := hE.kp hkr
    have hTr := hT.kp hkr
    by_cases hlast : sq + 1 < 18446744073709551616
    · have y1 : (sq : Int) + 1 ≤ 18446744073709551615 := by omega
      have y2 : (((sq : Int) + 1) != 0) = true := by simp; omega
      have b0 := hEr.cb.cell' (i := 0) rfl
      have hvr := Ob.bs hEr.cv
      rw [hvb] at b0 hvr
      have p1 : (p : Int) ≤ b.length := by omega
      have HROW := Lib.hid hrow
      clear hrow
      have GE := fun w v h hT => fget_any (b.drop p) v w h (by rw [List.length_drop]; omega) hT
      unfold GetF at GE
      have hvs := hvr.suf rfl hp hcv1
      have hpar : getF (b.drop p) = if errF (b.drop p) = 0 then parF (b.drop p) else fz := rfl
      have hstep : stepF b e sq p = (decide (sq + 1 < 18446744073709551616) && (decide (errF (b.drop p) = 0) && (decide ((parF (b.drop p)).e = e) && decide ((parF (b.drop p)).s = sq + 1)))) := rfl
      have hnum := numF_le (b.drop p)
      obtain ⟨f, hf⟩ : ∃ f, f = getF (b.drop p) := ⟨_, rfl⟩
      obtain ⟨m, hm'⟩ : ∃ m, m = numF (b.drop p) := ⟨_, rfl⟩
      obtain ⟨er, her⟩ : ∃ x, x = errF (b.drop p) := ⟨_, rfl⟩
      rw [← hf, ← hm', ← her] at GE
      have HH := Lib.hid (And.intro hpar (And.intro hstep (And.intro hnum (And.intro hf (And.intro hm' her)))))
      clear hpar hstep hnum hf hm' her
      repeat (first
                    | (with_reducible refine si_alloc ?_)
                    | ((first | ((with_reducible refine And.intro ?ga (And.intro ?gb ?_)); (case ga => exact trivial); (case gb => exact (fun hh => nomatch hh))) | ((with_reducible refine And.intro ?ga ?_); (case ga => exact trivial))); gi_at_call 20; refine ((wd_wide).calls (GE _ _ hvs hTr)).mono ?_; rintro e w2 ⟨v2, rfl, ho2, hn2, hm2⟩; obtain ⟨ao2, cap2, rfl, _, _⟩ := ho2.sl.form; dsimp only)
                    | go_values
                    | gi_guarded
                    | gi_step
                    | gi_upon
                    | gi_back
                    | (simp only [Int.not_lt, Int.not_le] at *; go_simp))
      refine StopIn.go wd_wide rfl (fun _ => by intro h; cases h) fun K hK => ?_
      refine wp_alloc zero_frame ?_
      intro g w3 hg1 hg2 hm3 hB3
      simp only [put_some, List.set_cons_succ, List.set_cons_zero]
      refine hK _ _ ?_
      clear hK K
      repeat (first
                    | (with_reducible refine si_store ?_)
                    | go_values
                    | gi_guarded
                    | gi_step
                    | gi_upon
                    | gi_back
                    | (simp only [Int.not_lt, Int.not_le] at *; go_simp))
      refine StopIn.go wd_wide rfl (fun _ => by intro h; cases h) fun K hK => ?_
      refine wp_store (u := .agg #[.int .u64 f.e, .int .u64 f.s, .slice ao2 f.l.length cap2]) (by rfl) (by rfl) (by kernel_rfl) hB3 (by simp [Value.cells]) (by simp [Value.cells, Value.oneCell']) ?_
      intro w4 hm4 hB4
      refine hK _ _ ?_
      clear hK K
      have hF4 : Blk w4 g 25 [.int .u64 f.e, .int .u64 f.s, .slice ao2 f.l.length cap2] := hB4
      have hm24 : Mod [] w2 w4 := hm3.fresh hm4 (by simpa using hg1)
      have hmr4 : Mod [] wr w4 := hm2.ext hm24
      have hog : g ∉ blks (.slice ao2 f.l.length cap2) := fun hh => by have := Ow.lt ho2 g hh; omega
      have ho4 : Ob w4 (.slice ao2 f.l.length cap2) f.l := (ho2.ext hm3).mod hm4 (fun k hk hh => hog (by have e : k = g := (by simpa using hh); exact e ▸ hk))
      have hE4 := hEr.ext hmr4
      have e0 := hE4.ce.cell' (i := 0) rfl
      have z0 := hF4.cell' (i := 0) rfl
      have z1 := hF4.cell' (i := 1) rfl
      have z2 := hF4.cell' (i := 2) rfl
      have hJ4 := hJ _ _ _ hJr hmr4
      clear hB3 hB4 hm3 hm4 ho2 b0
      have hno : stepF b e sq p = false → pre.map Fi.d = rowS b e s 0 := fun h => by
        have := HROW.out
        rwa [rowS_no h, List.append_nil] at this
      by_cases her0 : er = 0
      · subst her0
        have hff : f = parF (b.drop p) := by have := HH.out.1; rw [← HH.out.2.2.2.2.2, if_pos rfl] at this; rw [HH.out.2.2.2.1]; exact this
        have hst : stepF b e sq p = (decide (f.e = e) && decide (f.s = sq + 1)) := by rw [HH.out.2.1, ← HH.out.2.2.2.2.2, ← hff, decide_eq_true hlast]; simp
        by_cases hfe : f.e = e
        · rw [decide_eq_true hfe, Bool.true_and] at hst
          have q1 : ((f.e : Int) != (e : Int)) = false := by simp [hfe]
          by_cases hfs : f.s = sq + 1
          · rw [decide_eq_true hfs] at hst
            have q2 : ((f.s : Int) != (sq : Int) + 1) = false := by simp [hfs]
            have hrw := rowS_yes hst
            have hnum := step_num hst
            have hro := HROW.out
            rw [hrw, ← HH.out.2.2.2.2.1] at hro
            rw [← HH.out.2.2.2.2.1] at hnum
            have hlen : pre.length < (rowS b e s 0).length := by rw [← hro]; simp
            have hm22 : 22 ≤ m := by rw [hnum.1]; omega
            have hpf : (pre ++ [(⟨p, .slice ao2 f.l.length cap2, f⟩ : Fi)]).map Fi.d <+: rowS b e s 0 := ⟨rowS b e (sq + 1) (p + m), by rw [← hro, List.map_append, ← hff, List.append_assoc]; rfl⟩
            obtain ⟨fn, tmps, assign, body, hy, hR⟩ := hY pre ⟨p, .slice ao2 f.l.length cap2, f⟩ wr w4 hJr hmr4 ⟨ho4, hn2, hpf⟩ hlen
            dsimp only [Fi.enc] at hy
            rw [hfe, show ((f.s : Nat) : Int) = (sq : Int) + 1 by omega] at hy
            have HRO := Lib.hid hro
            have HNU := Lib.hid hnum
            have HFF := Lib.hid hff
            clear hrw hro hnum hlen hff hst hpf
            repeat (first
                          | go_values
                          | gi_guarded
                          | gi_step
                          | gi_upon
                          | gi_back
                          | (simp only [Int.not_lt, Int.not_le] at *; go_simp))
            refine ⟨(fun hh => nomatch hh), hR.mono ?_⟩
            rintro e' W' (⟨rfl, hJ', hk⟩ | ⟨rfl, hJx'⟩)
            · dsimp only
              have hgw : wr.heap.size ≤ g := by have := hm2.size; omega
              have hk2 := hkr.next ((KpL.of_mod (L := 0 :: EchL bs bb be vb) (B := wr.heap.size) hmr4 (fun k hk => nomatch hk)).trans hk) hLw (Nat.le_refl _)
              have hF' : Blk W' g 25 [.int .u64 f.e, .int .u64 f.s, .slice ao2 f.l.length cap2] := (hk.2 g hF4.lt (.inr hgw)).trans hF4
              have HM := Lib.hid hm22
              rw [show ((f.s : Nat) : Int) = (sq : Int) + 1 by omega] at hF'
              have hJ5' := fun {B} => hJ _ W' B hJ'
              have HFS := Lib.hid hfs
              have HFE := Lib.hid hfe
              clear hF4 z0 z1 z2 e0 hy hR hk hm22
              repeat (first
                            | go_values
                            | gi_guarded
                            | gi_step
                            | gi_upon
                            | gi_back
                            | (simp only [Int.not_lt, Int.not_le] at *; go_simp))
              clear hno GE hvs hvr q1 q2 hog hJ4 hE4 hm24 hJr hEr hTr hkr hn2 hm2 ho4 HROW hmr4 hfs hfe h0 h1 hJx hY hE hT hm hE1 hT1 hkp s1 hJ'
              refine wpIn_wide.2 ?_
              go_hide hQ
              refine wp_region_T [⟨0, true, []⟩, ⟨1, true, []⟩, ⟨2, true, []⟩, ⟨3, true, []⟩, ⟨4, true, []⟩, ⟨5, true, []⟩, ⟨6, true, []⟩] (by kernel_rfl) (by kernel_rfl) ?_
              have hJ5 := hJ5' (Mod.drew [] W')
              have hF5 := hF'.ext (Mod.drew [] W')
              have hk5 := hk2.trans (KpL.of_mod (L := 0 :: EchL bs bb be vb) (B := w.heap.size) (Mod.drew [] W') (fun k hk => nomatch hk))
              obtain ⟨w5, hw5⟩ : ∃ x, x = W'.drew := ⟨_, rfl⟩
              rw [← hw5] at hJ5 hF5 hk5 ⊢
              clear hw5
              have z1 := hF5.cell' (i := 1) rfl
              have pm : (p : Int) + m ≤ b.length := by have := HNU.out.2; omega
              have pm2 : (b.length : Int) ≤ 140737488355328 := by omega
              have HQ := Lib.hid hQ
              clear hQ
              iterate 7 (refine wpT_n rfl rfl (fun K hK => ?_); repeat (first | go_values | go_guarded | go_step | go_upon))
              refine wpT_nil ?_
              have hQ := HQ.out
              subst hQ
              repeat gi_step
              go_roundw
              case rel =>
                refine ⟨pre ++ [⟨p, .slice ao2 f.l.length cap2, f⟩], p + m, sq + 1, by simp, by simp, ?_, by omega, hlast, hJ5, hk5⟩
                rw [← HRO.out, List.map_append, ← HFF.out, List.append_assoc]
                rfl
              case measure =>
                have := HM.out
                simp [intOf]
                omega
            · dsimp only
              repeat (first
                            | go_values
                            | gi_guarded
                            | gi_step
                            | gi_upon
                            | gi_back
                            | (simp only [Int.not_lt, Int.not_le] at *; go_simp))
              rw [Exit.noGoto_ret]
              refine bodyPost_ret (results_none rfl _ _ _) rfl ?_
              refine ⟨⟨_, rfl⟩, .inr ⟨pre ++ [⟨p, .slice ao2 f.l.length cap2, f⟩], ?_, hJx'⟩⟩
              rw [← HRO.out, List.map_append, ← HFF.out]
              exact ⟨rowS b e (sq + 1) (p + m), by simp [Fi.d]⟩
          · rw [decide_eq_false hfs] at hst
            have q2 : ((f.s : Int) != (sq : Int) + 1) = true := by simp; omega
            have hN := hno hst
            clear hff hst
            repeat (first
                          | go_values
                          | gi_guarded
                          | gi_step
                          | gi_upon
                          | gi_back
                          | (simp only [Int.not_lt, Int.not_le] at *; go_simp))
            rw [Exit.noGoto_normal]
            go_end0
            exact ⟨⟨_, rfl⟩, .inl ⟨pre, hN, hJ4⟩⟩
        · rw [decide_eq_false hfe, Bool.false_and] at hst
          have q1 : ((f.e : Int) != (e : Int)) = true := by simp; omega
          have hN := hno hst
          clear hff hst
          repeat (first
                        | go_values
                        | gi_guarded
                        | gi_step
                        | gi_upon
                        | gi_back
                        | (simp only [Int.not_lt, Int.not_le] at *; go_simp))
          rw [Exit.noGoto_normal]
          go_end0
          exact ⟨⟨_, rfl⟩, .inl ⟨pre, hN, hJ4⟩⟩
      · have q1 : (er != 0) = true := by simpa using her0
        have hN := hno (by rw [HH.out.2.1, ← HH.out.2.2.2.2.2, decide_eq_false her0]; simp)
        repeat (first
                      | go_values
                      | gi_guarded
                      | gi_step
                      | gi_upon
                      | gi_back
                      | (simp only [Int.not_lt, Int.not_le] at *; go_simp))
        rw [Exit.noGoto_normal]
        go_end0
        exact ⟨⟨_, rfl⟩, .inl ⟨pre, hN, hJ4⟩⟩
    · obtain rfl : sq = 18446744073709551615 := by omega
      gi_wp2
      rw [Exit.noGoto_normal]
      go_end0
      refine ⟨⟨_, rfl⟩, .inl ⟨pre, ?_, hJr⟩⟩
      rw [rowS_no (by unfold stepF; rw [decide_eq_false (by omega)]; rfl), List.append_nil] at hrow
      exact hrow
end Go.Proofs.YtboigcnpamldlaaDoor
