import Derived.Test.YtkedbphdflhhlaaSvA
import Derived.Test.YtkedbphdflhhlaaDkZ
/-! DiskSurvives. -/
set_option linter.unusedVariables false
set_option linter.unusedSimpArgs false
set_option maxRecDepth 100000
namespace Go.Proofs.Ytkedbphdflhhlaa
open Go.RowKit Gw

def ints (H : List Nat) : List Value := H.map fun n => .int .i64 (n : Nat)
section
variable {w w1 w2 w3 w' : World} {base : Nat} {v v' u : Value} {L : List (Value × List UInt8)} {l : List UInt8} {M : List Nat}
theorem RowsO.keep (h : RowsO w base v L) (hm : Mod M w w') (hv : ∀ b ∈ blks v, b ∉ M) (hq : ∀ q ∈ L, ∀ b ∈ blks q.1, b ∉ M) : RowsO w' base v L := ⟨h.ow.mod hm hv, h.fam.mod hm hq, h.nw⟩
/-- one more row of a family, into the list -/
theorem RowsO.put (hf : Fam w2 base (L ++ [(u, l)])) (how : Ow w2 23 1 v L.length (L.map (·.1))) (hnv : ∀ k ∈ blks v, base ≤ k) (hb : base ≤ w2.heap.size) (hO : Ow w3 23 1 v' (L.length + 1) (L.map (·.1) ++ [u])) (hm3 : Mod (blks v) w2 w3)
    (hb3 : ∀ k ∈ blks v', k ∈ blks v ∨ w2.heap.size ≤ k) : RowsO w3 base v' (L ++ [(u, l)]) :=
  ⟨by simpa using hO, hf.atOw how hm3 (by decide), fun k hk => (hb3 k hk).elim (hnv k) fun h => Nat.le_trans hb h⟩
theorem RowsO.cells {ao : Option Addr} {n cap i k : Nat} (h : RowsO w base (.slice ao n cap) L) (hi : i < L.length) (hl : L[i].2.length = 64) (hk : k < 64) :
    ∃ b o g c x, ao = some ⟨b, o, none⟩ ∧ L[i].2[k]? = some x ∧ ∀ w', Mod [] w w' → w'.cell? ⟨b, o + i, none⟩ = some (.slice (some ⟨g, 0, none⟩) 64 c) ∧ w'.cell? ⟨g, k, none⟩ = some (.int .u8 (UInt8.toNat x : Nat)) := by
  obtain ⟨ao', cap', hv, _, _⟩ := h.ow.sl.form
  injection hv with e1 e2 e3
  subst e2
  obtain ⟨b, o, e, hc⟩ := sl_at' h.ow.sl (i := i) (by simpa using hi)
  rw [List.getElem_map] at hc
  obtain ⟨g, c, rest, hv, hB, _⟩ := Ob.headn (h.row hi) hl (by omega)
  rw [hv] at hc
  have hb : b < w.heap.size := Ow.lt h.ow b (by rw [e]; simp [blks])
  refine ⟨b, o, g, c, L[i].2[k]'(by omega), e, List.getElem?_eq_getElem _, fun w' hm => ⟨?_, ?_⟩⟩
  · rw [cell_eq hm hb]; exact hc
  · exact cell_u8 (hB.ext hm) (by omega)
theorem ints_cell {ao : Option Addr} {n cap i : Nat} {H : List Nat} (h : Ow w 3 1 (.slice ao n cap) H.length (ints H)) (hi : i < H.length) : ∃ b o, ao = some ⟨b, o, none⟩ ∧ ∀ w', Mod [] w w' → w'.cell? ⟨b, o + i, none⟩ = some (.int .i64 (H.getD i 0 : Nat)) := by
  obtain ⟨ao', cap', hv, _, _⟩ := h.sl.form
  injection hv with e1 e2 e3
  subst e2
  obtain ⟨b, o, e, hc⟩ := sl_at' h.sl (i := i) (by simpa [ints] using hi)
  have hb : b < w.heap.size := Ow.lt h b (by rw [e]; simp [blks])
  refine ⟨b, o, e, fun w' hm => ?_⟩
  rw [cell_eq hm hb, hc]
  unfold ints
  rw [List.getElem_map, List.getD_eq_getElem?_getD, List.getElem?_eq_getElem hi]
  rfl
end
theorem stI : ST Try.prog 87 3 (.int .i64 0) 1 8 := ⟨Try.underlying87, by kernel_rfl, rfl, by decide⟩
/-- a disk on which a script writes, and the lists that the law keeps beside it -/
structure Sv (wb w : World) (p : Nat) (m : Dm) (L0 L : List Nat) (vw vh : Value) (P : List (Value × List UInt8)) (H : List Nat) : Prop where
  m0 : Mod L0 wb w
  dk : Dk w p m L
  lo : ∀ k ∈ L, k ∈ L0 ∨ wb.heap.size ≤ k
  ro : RowsO w wb.heap.size vw P
  io : Ow w 3 1 vh H.length (ints H)
  ih : ∀ k ∈ blks vh, wb.heap.size ≤ k
  far : ∀ k ∈ L, k ∉ blks vw ∧ k ∉ blks vh ∧ ∀ q ∈ P, k ∉ blks q.1
theorem Sv.step {wb w w2 w3 w4 w5 w6 w7 : World} {p : Nat} {m m' : Dm} {L0 L : List Nat} {vw vh vw' vh' u : Value} {P : List (Value × List UInt8)} {H : List Nat} {l : List UInt8} {a : Nat} (h : Sv wb w p m L0 L vw vh P H)
    (hm2 : Mod [] w w2) (ho : Ob w2 u l) (hn : New w u) (hw : DkPost w2 p m' L w3) (hm4 : Mod [] w3 w4)
    (hO : Ow w5 23 1 vw' (P.length + 1) (P.map (·.1) ++ [u])) (hm5 : Mod (blks vw) w4 w5) (hb5 : ∀ k ∈ blks vw', k ∈ blks vw ∨ w4.heap.size ≤ k) (hm6 : Mod [] w5 w6)
    (hI : Ow w7 3 1 vh' (H.length + 1) (ints H ++ [.int .i64 (a : Nat)])) (hm7 : Mod (blks vh) w6 w7) (hb7 : ∀ k ∈ blks vh', k ∈ blks vh ∨ w6.heap.size ≤ k) :
    ∃ L', Sv wb w7 p m' L0 L' vw' vh' (P ++ [(u, l)]) (H ++ [a]) := by
  obtain ⟨L', k1, k2, k3⟩ := hw
  have s0 := h.m0.size
  have s2 := hm2.size
  have s3 := k2.size
  have s4 := hm4.size
  have s5 := hm5.size
  have s6 := hm6.size
  have hbw : wb.heap.size ≤ w.heap.size := s0
  have hlw := h.ro.ow.lt
  have hlh := h.io.lt
  have hlq := h.ro.fam.lt
  have hll := h.dk.lt
  have hu3 : ∀ b ∈ blks u, b ∉ L := fun b hb hh => by have := hn b hb; have := hll b hh; omega
  have hul := Ow.lt ho
  -- the rows
  have f2 : Fam w2 wb.heap.size (P ++ [(u, l)]) := Fam.ins (by simpa using h.ro.fam) hbw hm2 ho hn
  have f3 : Fam w3 wb.heap.size (P ++ [(u, l)]) := f2.mod k2 fun q hq b hb hh => by
    rcases List.mem_append.1 hq with h1 | h1
    · exact (h.far b hh).2.2 q h1 hb
    · obtain rfl : q = (u, l) := by simpa using h1
      exact hu3 b hb hh
  have o4 : Ow w4 23 1 vw P.length (P.map (·.1)) := ((h.ro.ow.ext hm2).mod k2 fun b hb hh => (h.far b hh).1 hb).ext hm4
  have r5 := RowsO.put (f3.ext hm4) o4 h.ro.nw (by omega) hO hm5 hb5
  have i4 : Ow w4 3 1 vh H.length (ints H) := ((h.io.ext hm2).mod k2 fun b hb hh => (h.far b hh).2.1 hb).ext hm4
  have i5 : Ow w5 3 1 vh H.length (ints H) := i4.mod hm5 (Ow.disj i4 o4 (by decide))
  have r7 : RowsO w7 wb.heap.size vw' (P ++ [(u, l)]) := (r5.ext hm6).keep hm7 (fun b hb hh => Ow.disj (r5.ext hm6).ow (i5.ext hm6) (by decide) b hb hh) (fun q hq b hb hh => Ow.disj ((r5.ext hm6).fam.ob q hq).1 (i5.ext hm6) (by decide) b hb hh)
  -- the disk
  have d4 : Dk w4 p m' L' := k1.ext hm4
  have hLw : ∀ k ∈ L', k ∉ blks vw ∧ k ∉ blks vh ∧ ∀ q ∈ P ++ [(u, l)], k ∉ blks q.1 := fun k hk => by
    rcases k3 k hk with h1 | h1
    · obtain ⟨a1, a2, a3⟩ := h.far k h1
      refine ⟨a1, a2, fun q hq hh => ?_⟩
      rcases List.mem_append.1 hq with h2 | h2
      · exact a3 q h2 hh
      · obtain rfl : q = (u, l) := by simpa using h2
        exact hu3 k hh h1
    · refine ⟨fun hh => by have := hlw k hh; omega, fun hh => by have := hlh k hh; omega, fun q hq hh => ?_⟩
      rcases List.mem_append.1 hq with h2 | h2
      · have := hlq q h2 k hh; omega
      · obtain rfl : q = (u, l) := by simpa using h2
        have := hul k hh
        omega
  have d5 : Dk w5 p m' L' := d4.mod hm5 fun b hb hh => (hLw b hb).1 hh
  have d7 : Dk w7 p m' L' := (d5.ext hm6).mod hm7 fun b hb hh => (hLw b hb).2.1 hh
  have hl3 := k1.lt
  have m3 : Mod L0 wb w3 := (h.m0.ext hm2).then k2 fun g hg => h.lo g hg
  have m5 : Mod L0 wb w5 := (m3.ext hm4).then hm5 fun g hg => .inr (h.ro.nw g hg)
  have m7 : Mod L0 wb w7 := (m5.ext hm6).then hm7 fun g hg => .inr (h.ih g hg)
  refine ⟨L', m7, d7, fun k hk => (k3 k hk).elim (h.lo k) (fun h => .inr (by omega)), r7, ?_, fun k hk => (hb7 k hk).elim (h.ih k) (fun h => by omega), fun k hk => ⟨fun hh => ?_, fun hh => ?_, (hLw k hk).2.2⟩⟩
  · unfold ints at hI ⊢
    rw [List.length_append, List.map_append]
    exact hI
  · rcases hb5 k hh with h1 | h1
    · exact (hLw k hk).1 h1
    · have := hl3 k hk; omega
  · rcases hb7 k hh with h1 | h1
    · exact (hLw k hk).2.1 h1
    · have := hl3 k hk; omega
theorem wrs_succ (os : List Dop) (j : Nat) (h : j < os.length) : wrs (os.take (j + 1)) = wrs (os.take j) ++ [((pick os[j].a 4).toNat, fillL os[j].x 64)] := by
  unfold wrs
  rw [List.take_add_one, List.getElem?_eq_getElem h, Option.toList_some, List.map_append]
  rfl
theorem wrs_len (os : List Dop) : (wrs os).length = os.length := by simp [wrs]
theorem wrs_ok (os : List Dop) : ∀ x ∈ wrs os, x.1 < 4 ∧ x.2.length = 64 := fun x hx => by
  obtain ⟨o, _, rfl⟩ := List.mem_map.1 hx
  exact ⟨pick4 _, fillL_len _ _⟩
theorem D4.put {m : Dm} (h : D4 m) {row : List (Nat × List UInt8)} (hr : ∀ x ∈ row, x.1 < 4 ∧ x.2.length = 64) : D4 (m.put row) :=
  ⟨⟨h.ok.s1, h.ok.s2, h.ok.n1, h.ok.n2, h.ok.d, fun x hx => by
    show x.1 < m.dur.length ∧ x.2.length = m.sz
    rw [h.n, h.sz]; exact hr x hx⟩, h.sz, h.n⟩
theorem keeps_succ (j : Nat) : keeps (j + 1) = keeps j ++ [(1, (j : Int))] := by
  unfold keeps
  rw [List.range_succ, List.map_append]
  rfl
theorem keeps_len (j : Nat) : (keeps j).length = j := by simp [keeps]
/-- the lists that the law keeps -/
structure Ls (w : World) (vd vw vh : Value) (Wd P : List (Value × List UInt8)) (H : List Nat) : Prop where
  wa : RowsO w 0 vd Wd
  ro : RowsO w 0 vw P
  io : Ow w 3 1 vh H.length (ints H)
def fpL (vd vw vh : Value) (Wd P : List (Value × List UInt8)) : List Nat := blks vd ++ blks vw ++ blks vh ++ (Wd ++ P).flatMap fun q => blks q.1
theorem Ls.mod {w w' : World} {vd vw vh : Value} {Wd P : List (Value × List UInt8)} {H : List Nat} {M : List Nat} (h : Ls w vd vw vh Wd P H) (hm : Mod M w w') (hM : ∀ k ∈ M, k ∉ fpL vd vw vh Wd P) : Ls w' vd vw vh Wd P H := by
  unfold fpL at hM
  simp only [List.mem_append, List.mem_flatMap, not_or, not_exists, not_and] at hM
  exact ⟨h.wa.keep hm (fun b hb hh => (hM b hh).1.1.1 hb) (fun q hq b hb hh => (hM b hh).2 q (.inl hq) hb), h.ro.keep hm (fun b hb hh => (hM b hh).1.1.2 hb) (fun q hq b hb hh => (hM b hh).2 q (.inr hq) hb), h.io.mod hm (fun b hb hh => (hM b hh).1.2 hb)⟩
theorem Ls.ext {w w' : World} {vd vw vh : Value} {Wd P : List (Value × List UInt8)} {H : List Nat} (h : Ls w vd vw vh Wd P H) (hm : Mod [] w w') : Ls w' vd vw vh Wd P H := h.mod hm (by simp)
theorem Ls.lt {w : World} {vd vw vh : Value} {Wd P : List (Value × List UInt8)} {H : List Nat} (h : Ls w vd vw vh Wd P H) : ∀ k ∈ fpL vd vw vh Wd P, k < w.heap.size := fun k hk => by
  unfold fpL at hk
  simp only [List.mem_append, List.mem_flatMap] at hk
  rcases hk with ((hk | hk) | hk) | ⟨q, hq | hq, hk⟩
  · exact Ow.lt h.wa.ow k hk
  · exact Ow.lt h.ro.ow k hk
  · exact Ow.lt h.io k hk
  · exact h.wa.fam.lt q hq k hk
  · exact h.ro.fam.lt q hq k hk
theorem sv_key {m : Dm} (D : D4 m) {R : List (Nat × List UInt8)} (hR : ∀ x ∈ R, x.1 < 4 ∧ x.2.length = 64) {F : List (Int × Int)} {Nw Wd P : List (Value × List UInt8)} {H : List Nat} (hN : Nw.map (·.2) = ((m.put R).crash F).dur) (hW : Wd.map (·.2) = m.dur)
    (hP : P.map (·.2) = R.map (·.2)) (hH : H = R.map (·.1)) {a k : Nat} (haN : a < Nw.length) (haW : a < Wd.length) (hk : k < 64) {x y : UInt8} (hx : Nw[a].2[k]? = some x) (hy : Wd[a].2[k]? = some y) :
    y = x ∨ ∃ q, ∃ hq : q < P.length, H.getD q 0 = a ∧ P[q].2[k]? = some x := by
  have e1 : ((m.put R).crash F).dur[a]? = some Nw[a].2 := by rw [← hN, List.getElem?_map, List.getElem?_eq_getElem haN]; rfl
  have e2 : m.dur[a]? = some Wd[a].2 := by rw [← hW, List.getElem?_map, List.getElem?_eq_getElem haW]; rfl
  have ha : a < m.dur.length := (List.getElem?_eq_some_iff.1 e2).1
  have e3 : m.dur[a] = Wd[a].2 := (List.getElem?_eq_some_iff.1 e2).2
  rcases settleD_byte 64 R m.dur (fun b hb => by rw [D.ok.d b hb, D.sz]) (fun x hx => ⟨by rw [D.n]; exact (hR x hx).1, (hR x hx).2⟩) _ a k ha hk _ e1 with h | ⟨i, hi, h1, h2⟩
  · left
    rw [e3, hx, hy] at h
    exact Option.some.inj h
  · right
    have hl : P.length = R.length := by simpa using congrArg List.length hP
    refine ⟨i, by omega, ?_, ?_⟩
    · rw [hH, List.getD_eq_getElem?_getD, List.getElem?_map, List.getElem?_eq_getElem hi]
      exact h1
    · have e4 : (P.map (·.2))[i]? = (R.map (·.2))[i]? := by rw [hP]
      rw [List.getElem?_map, List.getElem?_map, List.getElem?_eq_getElem (show i < P.length by omega), List.getElem?_eq_getElem hi] at e4
      have e5 : P[i].2 = R[i].2 := Option.some.inj e4
      rw [e5, h2, hx]
theorem reads_all {m : Dm} (D : D4 m) {R : List (Nat × List UInt8)} (hR : ∀ x ∈ R, x.1 < 4 ∧ x.2.length = 64) (n : Nat) (hn : R.length = n) : ((m.put R).crash (keeps n)).dur = (List.range 4).map (m.put R).read := by
  have hlen : ((m.put R).crash (keeps n)).dur.length = 4 := ((D.put hR).settle _).n
  apply List.ext_getElem?
  intro i
  by_cases hi : i < 4
  · have e : ((List.range 4).map (m.put R).read)[i]? = some ((m.put R).read i) := by rw [List.getElem?_map, List.getElem?_range hi]; rfl
    rw [e]
    refine (settleD_keep 64 R m.dur (fun b hb => by rw [D.ok.d b hb, D.sz]) (fun x hx => ⟨by rw [D.n]; exact (hR x hx).1, (hR x hx).2⟩) (fun j => clampN (fateK m.sz (keeps n) j) m.sz) (fun j hj => ?_) i (by rw [D.n]; exact hi)).trans ?_
    · rw [keeps_at (by omega), D.sz]
    · rfl
  · rw [List.getElem?_eq_none (by omega), List.getElem?_eq_none (by simp; omega)]
set_option maxRecDepth 1000000 in
set_option maxHeartbeats 8000000 in
theorem diskSurvives_core (sv1 sv2 fv : Value) (os1 os2 : List Dop) (F : List (Int × Int)) (W : World) (hs1 : Dops W sv1 os1) (hs2 : Dops W sv2 os2) (hF1 : ∀ o ∈ os1, o.F.length ≤ 1048576) (hF2 : ∀ o ∈ os2, o.F.length ≤ 1048576)
    (hF : Fs W fv F) (hFl : F.length ≤ 1048576) :
    Calls Try.prog 10 #[sv1, sv2, fv] W fun e w' => e = .returned (.bool true) ∧ Mod [] W w' := by
  have AW := fun w => dkawake_any w
  have N0 : ∀ w, Calls Try.prog 35 #[.int .i64 4, .int .i64 64] w (NewD 4 64 w) := fun w => dnew_yes 4 64 w mayD_4_64
  unfold NewD at N0
  have D0 := D4_new
  obtain ⟨m0, hm0⟩ : ∃ m : Dm, m = ⟨64, List.replicate 4 (zeros 64), []⟩ := ⟨_, rfl⟩
  have r0 : m0.row.length = 0 := by rw [hm0]; rfl
  rw [← hm0] at N0 D0
  clear hm0
  have S1 := fun w p L h0 hO => does_any W w p m0 L os1 sv1 h0 hO D0 (by omega) hs1 hF1
  have D1 := D0.all (os1.take 200)
  have r1 := doAll_rows (os1.take 200) m0
  rw [List.length_take, r0] at r1
  obtain ⟨m1, hm1⟩ : ∃ m, m = doAll (os1.take 200) m0 := ⟨_, rfl⟩
  rw [← hm1] at S1 D1 r1
  clear hm1
  have SY := fun w p L h => dsync_any p m1 L w h D1.ok (by omega)
  have D2 : D4 m1.sync := D1.settle _
  have hr2 : m1.sync.row = [] := rfl
  obtain ⟨m2, hm2⟩ : ∃ m, m = m1.sync := ⟨_, rfl⟩
  rw [← hm2] at SY D2 hr2
  clear hm2
  have IM := fun w p L h => dimage_any p m2 L w h D2.ok
  unfold ImgPost at IM
  obtain ⟨hs21, hs22⟩ := hs2
  obtain ⟨ao1, cap1, rfl, hc1, hc1'⟩ := hs1.1.form
  obtain ⟨ao2, cap2, rfl, hc2, hc2'⟩ := hs21.form
  obtain ⟨ao3, cap3, rfl, hc3, hc3'⟩ := hF.form
  go_enter Try.func10, Try.ntmps10
  go_upto_region 8 with (first
                | (go_at_call 34; (with_reducible refine (AW _).mono ?_); rintro e w1 ⟨rfl, hm1⟩)
                | (go_at_call 35; refine (N0 _).mono ?_; rintro e w2 ⟨p, L2, rfl, hD2, hL2, hm2⟩)
                | (go_at_call 53; refine (S1 w2 p L2 (hm1.ext hm2) ⟨hD2, fun k hk => Nat.le_trans hm1.size (hL2 k hk)⟩).mono ?_; rintro e w3 ⟨rfl, L3, hO3, hm3, hL3⟩; have hD3 := hO3.1)
                | (go_at_call 38; refine (SY _ _ _ hD3).mono ?_; rintro e w4 ⟨rfl, hp4⟩))
  have hM3 : Mod [] W w3 := (hm1.ext hm2).fresh hm3 (fun k hk => Nat.le_trans hm1.size (hL2 k hk))
  obtain ⟨L4, hD4, hm4, hL4⟩ := hp4
  have hO4 : ∀ k ∈ L4, W.heap.size ≤ k := fun k hk => (hL4 k hk).elim (hO3.2 k) (fun h => Nat.le_trans hM3.size h)
  have hM4 := hM3.fresh hm4 hO3.2
  clear AW N0 S1 SY hD2 hL2 hm1 hm2 hm3 hL3 hD3 hm4 hL4 hM3 hO3 D0 D1 r1 r0
  go_upto_region 9 with (go_at_call 54; (with_reducible refine (IM _ _ _ hD4).mono ?_); rintro e w5 ⟨vd, Wd, rfl, hWd, hqd, hm5⟩)
  have hd4 := hD4.lt
  have hD5 := hD4.ext hm5
  have hM5 := hM4.ext hm5
  have s5 := hm5.size
  have sW4 := hM4.size
  clear hD4 hM4
  obtain ⟨N, hN⟩ : ∃ N, N = min os2.length 200 := ⟨_, rfl⟩
  have HN := Lib.hid hN
  clear hN
  have h2put : m2 = m2.put [] := by cases m2; dsimp only at hr2; subst hr2; rfl
  have hSv : Sv w5 w5 p (m2.put (wrs (os2.take 0))) L4 L4 (.slice none 0 0) (.slice none 0 0) [] [] := ⟨Mod.refl _ _, h2put ▸ hD5, fun k hk => .inl hk, RowsO.nil _ _, Ow.nil _ _ _, by simp [blks], fun k hk => by simp [blks]⟩
  have HP := Lib.hid h2put
  clear h2put
  go_wp2_with fail
  go_loopw [10, 11, 12] (fun vw vh i wr => ∃ (j : Nat) (Lj : List Nat) (P : List (Value × List UInt8)) (H : List Nat), j ≤ N ∧ i = .int .i64 j ∧ Sv w5 wr p (m2.put (wrs (os2.take j))) L4 Lj vw vh P H ∧ (P.map (·.2) = (wrs (os2.take j)).map (·.2) ∧ H = (wrs (os2.take j)).map (·.1))) (fun _ _ i _ => N - (intOf i).toNat)
  case atStart => exact ⟨0, L4, [], [], Nat.zero_le _, rfl, hSv, rfl, rfl⟩
  case round =>
    obtain ⟨j, Lj, P, H, hj, rfl, hS, hPH⟩ := hrel
    clear hSv
    obtain ⟨c, hc⟩ : ∃ c, c = decide (j < N) := ⟨_, rfl⟩
    have HC := Lib.hid hc
    clear hc
    go_upto_region 12 with fail
    go_cut [50] (fun u wx => u = .bool c ∧ wr = wx)
    case first =>
      by_cases h1 : j < os2.length
      · have y1 : (j : Int) < os2.length := by omega
        by_cases h2 : j < 200
        · have y2 : (j : Int) < 200 := by omega
          go_wp2_with fail
          go_meet
          exact ⟨by rw [HC.out, decide_eq_true (show j < N by have := HN.out; omega)]; try (simp; omega), rfl⟩
        · have y2 : (200 : Int) ≤ j := by omega
          go_wp2_with fail
          go_meet
          exact ⟨by rw [HC.out, decide_eq_false (show ¬ j < N by have := HN.out; omega)]; try (simp; omega), rfl⟩
      · have y1 : (os2.length : Int) ≤ j := by omega
        go_wp2_with fail
        go_meet
        exact ⟨by rw [HC.out, decide_eq_false (show ¬ j < N by have := HN.out; omega)]; try (simp; omega), rfl⟩
    case rest =>
    obtain ⟨rfl, rfl⟩ := hcut
    have HPH := Lib.hid hPH
    clear hPH
    have hMW : Mod [] W wr := hM5.fresh hS.m0 hO4
    have hPl : P.length = j ∧ H.length = j := by
      have h1 := congrArg List.length HPH.out.1
      have h2 := congrArg List.length HPH.out.2
      rw [List.length_map, List.length_map, wrs_len, List.length_take] at h1
      rw [List.length_map, wrs_len, List.length_take] at h2
      have := HN.out
      omega
    obtain ⟨aow, capw, rfl, _, _⟩ := hS.ro.ow.sl.form
    obtain ⟨aoh, caph, rfl, _, _⟩ := hS.io.sl.form
    have HPL := Lib.hid hPl
    clear hPl
    cases c with
    | true =>
      have hlt : j < N := of_decide_eq_true HC.out.symm
      have hjo : j < os2.length := by have := HN.out; omega
      have hj2 : j < 200 := by have := HN.out; omega
      have y1 : (j : Int) < os2.length := by omega
      clear HC
      obtain ⟨b, o, rfl, hcr⟩ := Dops.elem (Sl.ext hs21 hMW) hjo
      have hel : ∀ w', Mod [] W w' → w'.rangeAt b (o + j * 6) os2[j].cells := fun w' hm => by
        obtain ⟨b', o', he, hcr'⟩ := Dops.elem (Sl.ext hs21 hm) hjo
        injection he with he
        injection he with e1 e2
        subst e1 e2
        exact hcr'
      have hop := hs22 _ (List.getElem_mem hjo)
      have hws := wrs_succ os2 j hjo
      obtain ⟨op, hop'⟩ : ∃ op, op = os2[j] := ⟨_, rfl⟩
      rw [← hop'] at hcr hop hel hws
      clear hop'
      obtain ⟨d, n, at_, q, le, fo, Fo⟩ := op
      obtain ⟨_, _, hd, hn, ha, hx, hle⟩ := hop
      dsimp only [Dop.cells] at hcr ha hel hws
      have PA := fun w => pick_any at_ 4 w ha.1 ha.2 (by omega) (by omega)
      have pag := pick_ge at_ 4
      have pal := pick4 at_
      obtain ⟨ka, hka⟩ : ∃ k, k = (pick at_ 4).toNat := ⟨_, rfl⟩
      rw [← hka] at hws pal
      rw [show pick at_ 4 = (ka : Nat) by omega] at PA
      clear hka pag
      have F64 := fun w => fill64 q w
      obtain ⟨B, hBb⟩ : ∃ B, B = fillL q 64 := ⟨_, rfl⟩
      have hBl : B.length = 64 := by rw [hBb, fillL_len]
      rw [← hBb] at F64 hws
      clear hBb
      have HBL := Lib.hid hBl
      clear hBl
      obtain ⟨R, hR⟩ : ∃ R, R = wrs (os2.take j) := ⟨_, rfl⟩
      have hRok : ∀ x ∈ R, x.1 < 4 ∧ x.2.length = 64 := hR ▸ wrs_ok _
      have hRl : R.length ≤ 200 := by rw [hR, wrs_len, List.length_take]; omega
      rw [← hR] at hS hws HPH
      clear hR
      have HWS := Lib.hid hws
      clear hws
      have Dp := D2.put hRok
      have hS1 := hS.dk
      have c2 : wr.cell? ⟨b, o + j * 6 + 2, none⟩ = some (.int .i64 at_) := hcr 2 _ rfl
      have c3 : wr.cell? ⟨b, o + j * 6 + 3, none⟩ = some (.int .i64 q) := hcr 3 _ rfl
      have hWr := fun w bv L h hb => dwrite_ok p (m2.put R) L ka B bv w h Dp.ok hb (by rw [Dp.n]; exact pal) (HBL.out.trans Dp.sz.symm) (by show R.length ≤ _; omega)
      clear hcr
      go_upto_region 18 with (first
                    | (go_at_call 24; (with_reducible refine (PA _).mono ?_); rintro e w6 ⟨rfl, rfl⟩)
                    | (go_at_call 36; (with_reducible refine (F64 _).mono ?_); rintro e w6 ⟨v6, rfl, ho6, hn6, hm6⟩; have hS6 := hS1.ext hm6; have hb6 := Ob.bs ho6; obtain ⟨ao6, cap6, rfl, _, _⟩ := ho6.sl.form)
                    | (go_at_call 37; refine (hWr _ _ _ hS6 hb6).mono ?_; rintro e w7 ⟨rfl, hp7⟩))
      go_wp2_with (with_reducible refine st_bslice ?_)
      refine StopOp.go rfl fun K hK => ?_
      refine wp_bslice stDR [.slice ao6 B.length cap6] rfl (by decide) (by rfl) (by simp [Value.cells]) ?_
      intro g8 w8 hg8 hg82 hm8 hB8
      simp only [put_some, List.set_cons_succ, List.set_cons_zero]
      refine hK _ _ ?_
      clear hK K
      have hS8 : Sl w8 1 (.slice (some ⟨g8, 0, none⟩) 1 1) 1 [.slice ao6 B.length cap6] := (Ow.of_blk (rest := []) hB8 (Nat.le_refl _) (by omega) rfl rfl : Ow w8 23 1 (.slice (some ⟨g8, 0, none⟩) 1 1) 1 [.slice ao6 B.length cap6]).sl
      have hp7' := hp7
      obtain ⟨L7, k71, k72, k73⟩ := hp7'
      have ow8 : Ow w8 23 1 (.slice aow P.length capw) P.length (P.map (·.1)) := ((hS.ro.ow.ext hm6).mod k72 fun b hb hh => (hS.far b hh).1 hb).ext hm8
      have oh8 : Ow w8 3 1 (.slice aoh H.length caph) H.length (ints H) := ((hS.io.ext hm6).mod k72 fun b hb hh => (hS.far b hh).2.1 hb).ext hm8
      clear k71 k72 k73
      go_wp2_with (with_reducible refine st_append ?_)
      refine StopOp.go rfl fun K hK => ?_
      refine wp_append_ow stDR (by rfl) (by rfl) ow8 hS8 (by simp [Value.oneCell']) (by have := HPL.out; omega) (by have := HPL.out; omega) ?_
      intro v9 w9 ho9 hm9 hb9
      simp only [put_some, List.set_cons_succ, List.set_cons_zero]
      refine hK _ _ ?_
      clear hK K
      obtain ⟨ao9, cap9, rfl, _, _⟩ := ho9.sl.form
      go_wp2_with (with_reducible refine st_bslice ?_)
      refine StopOp.go rfl fun K hK => ?_
      refine wp_bslice stI [.int .i64 (ka : Nat)] rfl (by decide) (by rfl) (by simp [Value.cells]) ?_
      intro g10 w10 hg10 hg102 hm10 hB10
      simp only [put_some, List.set_cons_succ, List.set_cons_zero]
      refine hK _ _ ?_
      clear hK K
      have hS10 : Sl w10 1 (.slice (some ⟨g10, 0, none⟩) 1 1) 1 [.int .i64 (ka : Nat)] := (Ow.of_blk (rest := []) hB10 (Nat.le_refl _) (by omega) rfl rfl : Ow w10 3 1 (.slice (some ⟨g10, 0, none⟩) 1 1) 1 [.int .i64 (ka : Nat)]).sl
      have oh10 : Ow w10 3 1 (.slice aoh H.length caph) H.length (ints H) := (oh8.mod hm9 (Ow.disj oh8 ow8 (by decide))).ext hm10
      go_wp2_with (with_reducible refine st_append ?_)
      refine StopOp.go rfl fun K hK => ?_
      refine wp_append_ow stI (by rfl) (by rfl) oh10 hS10 (by simp [Value.oneCell']) (by have := HPL.out; omega) (by have := HPL.out; omega) ?_
      intro v11 w11 ho11 hm11 hb11
      simp only [put_some, List.set_cons_succ, List.set_cons_zero]
      refine hK _ _ ?_
      clear hK K
      have hstep := hS.step (a := ka) hm6 ho6 hn6 hp7 hm8 ho9 hm9 hb9 hm10 ho11 hm11 hb11
      clear ow8 oh8 oh10 hS8 hS10 hB8 hB10
      go_wp2_with fail
      obtain ⟨L11, hS11⟩ := hstep
      go_roundw
      case rel => exact ⟨j + 1, L11, _, _, by omega, by go_num, by rw [HWS.out]; exact hS11, by rw [HWS.out, List.map_append, List.map_append, HPH.out.1]; rfl, by rw [HWS.out, List.map_append, ← HPH.out.2]; rfl⟩
      case measure => simp [intOf]; omega
    | false =>
      have hjN : j = N := by have := HC.out; have : ¬ j < N := of_decide_eq_false this.symm; omega
      clear HC hjN
      obtain ⟨R, hR⟩ : ∃ R, R = wrs (os2.take j) := ⟨_, rfl⟩
      have hRok : ∀ x ∈ R, x.1 < 4 ∧ x.2.length = 64 := hR ▸ wrs_ok _
      have hRl : R.length = P.length := by
        have h1 := congrArg List.length HPH.out.1
        rw [List.length_map, List.length_map, ← hR] at h1
        exact h1.symm
      have hP200 : P.length ≤ 200 := by have := HPL.out; have := HN.out; omega
      have hHl : H.length = P.length := by have := HPL.out; omega
      rw [← hR] at hS HPH
      clear hR
      have D3 := D2.put hRok
      obtain ⟨m3, hm3⟩ : ∃ m, m = m2.put R := ⟨_, rfl⟩
      have h3r : m3.row.length = P.length := by rw [hm3]; exact hRl
      have h3d : m3.dur = m2.dur := by rw [hm3]; rfl
      rw [← hm3] at hS D3
      have H3 := Lib.hid hm3
      clear hm3
      have HRL := Lib.hid hRl
      have HHL := Lib.hid hHl
      clear hRl hHl
      have hWr := hWd.mod hS.m0 (fun k hk => hd4 k hk)
      have hLs : Ls wr vd (.slice aow P.length capw) (.slice aoh H.length caph) Wd P H := ⟨hWr.weak (Nat.zero_le _), hS.ro.weak (Nat.zero_le _), hS.io⟩
      have hjr := hS.dk.lt
      have hjW : ∀ k ∈ Lj, W.heap.size ≤ k := fun k hk => (hS.lo k hk).elim (hO4 k) (fun h => by have := hM5.size; omega)
      have hfar : ∀ k ∈ Lj, k ∉ fpL vd (.slice aow P.length capw) (.slice aoh H.length caph) Wd P := fun k hk hh => by
        unfold fpL at hh
        simp only [List.mem_append, List.mem_flatMap] at hh
        have key : ∀ b, w4.heap.size ≤ b → b < w5.heap.size → b ≠ k := fun b h1 h2 he => by
          rcases hS.lo k hk with h3 | h3
          · have := hd4 k h3; omega
          · omega
        rcases hh with ((hh | hh) | hh) | ⟨q, hq | hq, hh⟩
        · exact key k (hWd.nw k hh) (Ow.lt hWd.ow k hh) rfl
        · exact (hS.far k hk).1 hh
        · exact (hS.far k hk).2.1 hh
        · exact key k ((hWd.fam.ob q hq).2 k hh) (hWd.fam.lt q hq k hh) rfl
        · exact (hS.far k hk).2.2 q hq hh
      have WT := fun w p L h => dWaiting_any p m3 L w h D3.ok.s1
      rw [h3r] at WT
      have IM3 := fun w p L h => dimage_any p m3 L w h D3.ok
      unfold ImgPost at IM3
      rw [h3d] at IM3
      have RD := fun w p L a h ha => dread_ok p m3 L a w h D3.ok (by rw [D3.n]; exact ha)
      have CP := fun w h => dcopy_any p m3 Lj w h D3.ok (by omega)
      unfold CopyPost at CP
      have hr3 : m3.row.length ≤ 1000000000 := by omega
      have hDr := hS.dk
      have t5 := hWr.r
      clear hWd hWr hd4 hS hM5 IM HP hr2
      have H3R := Lib.hid h3r
      have H3D := Lib.hid h3d
      clear h3r h3d
      go_upto_region 22 with (first
                    | (go_at_call 55; (with_reducible refine (WT _ _ _ hDr).mono ?_); rintro e w6 ⟨rfl, rfl⟩)
                    | (go_at_call 54; (with_reducible refine (IM3 _ _ _ hDr).mono ?_); rintro e w6 ⟨v6, Q6, rfl, hR6, hq6, hm6⟩; have r6 := hR6.r; have t6 := t5.ext hm6; have e6 := hq6.trans hqd.symm)
                    | (go_at_call 56; (with_reducible refine (sameRows_yes Q6 Wd _ _ _ r6 t6 e6).mono ?_); rintro e w7 ⟨rfl, hm7⟩))
      have hm67 := hm6.ext hm7
      have hD7 := hDr.ext hm67
      clear hR6 hq6 r6 t6 e6 t5
      go_upto_region 23 with (first
                    | (go_at_call 57; (with_reducible refine (CP _ hD7).mono ?_); rintro e w8 ⟨pl, Ll, rfl, hOl, hm8⟩; have hD8 := hD7.ext hm8; clear hD7)
                    | (go_at_call 57; (with_reducible refine (CP _ hD8).mono ?_); rintro e w9 ⟨pk, Lk, rfl, hOk, hm9⟩))
      have s67 := hm67.size
      have s8 := hm8.size
      have s9 := hm9.size
      have hl8 := hOl.1.lt
      have hk9 := hOk.1.lt
      have hd9 := hD8.ext hm9
      have hl9 := hOl.1.ext hm9
      have hkk9 := hOk.1
      have hLs9 := ((hLs.ext hm67).ext hm8).ext hm9
      have hlr := hLs.lt
      have hM9 := ((hMW.ext hm67).ext hm8).ext hm9
      have hjl : ∀ k ∈ Lj, k ∉ Ll := fun k hk hh => by have := hjr k hk; have := hOl.2 k hh; omega
      have hjk : ∀ k ∈ Lj, k ∉ Lk := fun k hk hh => by have := hjr k hk; have := hOk.2 k hh; omega
      have hlk : ∀ k ∈ Ll, k ∉ Lk := fun k hk hh => by have := hl8 k hk; have := hOk.2 k hh; omega
      have hfl : ∀ k ∈ Ll, k ∉ fpL vd (.slice aow P.length capw) (.slice aoh H.length caph) Wd P := fun k hk hh => by have := hlr k hh; have := hOl.2 k hk; omega
      have hfk : ∀ k ∈ Lk, k ∉ fpL vd (.slice aow P.length capw) (.slice aoh H.length caph) Wd P := fun k hk hh => by have := hlr k hh; have := hOk.2 k hk; omega
      have hj9 : ∀ k ∈ Lj, k < w9.heap.size := fun k hk => by have := hjr k hk; omega
      have hl9s : ∀ k ∈ Ll, k < w9.heap.size := fun k hk => by have := hl8 k hk; omega
      have hLW : (∀ k ∈ Lj, W.heap.size ≤ k) ∧ (∀ k ∈ Ll, W.heap.size ≤ k) ∧ ∀ k ∈ Lk, W.heap.size ≤ k := by
        have := hMW.size
        refine ⟨fun k hk => ?_, fun k hk => by have := hOl.2 k hk; omega, fun k hk => by have := hOk.2 k hk; omega⟩
        exact hjW k hk
      clear hm6 hm7 hm67 hm8 hm9 hOl hOk hD8 hDr hMW hLs hlr hjr hl8 CP
      have hfd : RowsO w9 w9.heap.size (.slice none 0 0) [] := RowsO.nil _ _
      go_wp2_with fail
      go_loopw [17, 18] (fun u i wx => ∃ (j : Nat) (Fd : List (Value × List UInt8)), j ≤ 4 ∧ i = .int .i64 j ∧ RowsO wx w9.heap.size u Fd ∧ Fd.map (·.2) = (List.range j).map m3.read ∧ Mod [] w9 wx) (fun _ i _ => 4 - (intOf i).toNat)
      case atStart => exact ⟨0, [], by omega, rfl, hfd, rfl, Mod.refl _ _⟩
      case round =>
        obtain ⟨t, Fd, ht, rfl, hFd, hFm, hMx⟩ := hrel
        clear hfd
        have HFM := Lib.hid hFm
        have hFl4 : Fd.length = t := by have := congrArg List.length hFm; simpa using this
        have HFL := Lib.hid hFl4
        clear hFm hFl4
        obtain ⟨aof, capf, rfl, _, _⟩ := hFd.ow.sl.form
        by_cases hlt : t < 4
        · have y1 : (t : Int) < 4 := by omega
          have hdx := hd9.ext hMx
          go_wp2_with (first
                        | (with_reducible refine st_bslice ?_)
                        | (go_at_call 40; (with_reducible refine (RD _ _ _ _ hdx hlt).mono ?_); rintro e w10 ⟨u10, rfl, ho10, hn10, hm10⟩; obtain ⟨ao10, cap10, rfl, _, _⟩ := ho10.sl.form))
          obtain ⟨B, hB⟩ : ∃ B, B = m3.read t := ⟨_, rfl⟩
          rw [← hB] at ho10 hn10 ⊢
          refine StopOp.go rfl fun K hK => ?_
          refine wp_bslice stDR [.slice ao10 B.length cap10] rfl (by decide) (by rfl) (by simp [Value.cells]) ?_
          intro g11 w11 hg11 hg112 hm11 hB11
          simp only [put_some, List.set_cons_succ, List.set_cons_zero]
          refine hK _ _ ?_
          clear hK K
          have hS11 : Sl w11 1 (.slice (some ⟨g11, 0, none⟩) 1 1) 1 [.slice ao10 B.length cap10] := (Ow.of_blk (rest := []) hB11 (Nat.le_refl _) (by omega) rfl rfl : Ow w11 23 1 (.slice (some ⟨g11, 0, none⟩) 1 1) 1 [.slice ao10 B.length cap10]).sl
          have ow11 := (hFd.ow.ext hm10).ext hm11
          have HB := Lib.hid hB
          clear hB
          go_wp2_with (with_reducible refine st_append ?_)
          refine StopOp.go rfl fun K hK => ?_
          refine wp_append_ow stDR (by rfl) (by rfl) ow11 hS11 (by simp [Value.oneCell']) (by have := HFL.out; omega) (by have := HFL.out; omega) ?_
          intro v12 w12 ho12 hm12 hb12
          simp only [put_some, List.set_cons_succ, List.set_cons_zero]
          refine hK _ _ ?_
          clear hK K
          go_wp2_with fail
          have hsn := hFd.snoc hMx.size hm10 ho10 hn10 hm11 ho12 hm12 hb12
          go_roundw
          case rel => exact ⟨t + 1, _, by omega, by go_num, hsn, by rw [List.map_append, HFM.out, List.range_succ, List.map_append, List.map_cons, List.map_nil, HB.out]; rfl, ((hMx.ext hm10).ext hm11).fresh hm12 hFd.nw⟩
          case measure => simp [intOf]; omega
        · obtain rfl : t = 4 := by omega
          obtain ⟨w10, hw10⟩ : ∃ x, x = wr := ⟨_, rfl⟩
          subst hw10
          have s10 := hMx.size
          have hd10 := hd9.ext hMx
          have hl10 := hl9.ext hMx
          have hk10 := hkk9.ext hMx
          have hLs10 := hLs9.ext hMx
          have hM10 := hM9.ext hMx
          clear hd9 hl9 hkk9 hLs9 hM9 hMx HFL
          go_wp2_with fail
          go_loopw [21, 22] (fun u i wx => ∃ (j : Nat), j ≤ P.length ∧ i = .int .i64 j ∧ Ow wx 54 2 u j (fcells (keeps j)) ∧ (∀ k ∈ blks u, w10.heap.size ≤ k) ∧ Mod [] w10 wx) (fun _ i _ => P.length - (intOf i).toNat)
          case atStart => exact ⟨0, by omega, rfl, Ow.nil _ _ _, by simp [blks], Mod.refl _ _⟩
          case round =>
            obtain ⟨t, ht, rfl, hA, hAb, hMy⟩ := hrel
            obtain ⟨aoa, capa, rfl, _, _⟩ := hA.sl.form
            by_cases hlt : t < P.length
            · have y1 : (t : Int) < P.length := by omega
              go_wp2_with (with_reducible refine st_bslice ?_)
              refine StopOp.go rfl fun K hK => ?_
              refine wp_bslice stF [.agg #[.int .i64 1, .int .i64 (t : Nat)]] rfl (by decide) (by rfl) (by simp [Value.cells]) ?_
              intro g w11 hg1 hg2 hm11 hB11
              simp only [put_some, List.set_cons_succ, List.set_cons_zero]
              refine hK _ _ ?_
              clear hK K
              have hS11 : Sl w11 2 (.slice (some ⟨g, 0, none⟩) 1 1) 1 [.int .i64 1, .int .i64 (t : Nat)] := (Ow.of_blk (rest := []) hB11 (Nat.le_refl _) (by omega) rfl rfl : Ow w11 54 2 (.slice (some ⟨g, 0, none⟩) 1 1) 1 [.int .i64 1, .int .i64 (t : Nat)]).sl
              have hA11 := hA.ext hm11
              go_wp2_with (with_reducible refine st_append ?_)
              refine StopOp.go rfl fun K hK => ?_
              refine wp_append_ow stF (by rfl) (by rfl) hA11 hS11 (by simp [Value.oneCell']) (by omega) (by omega) ?_
              intro v12 w12 ho12 hm12 hb12
              simp only [put_some, List.set_cons_succ, List.set_cons_zero]
              refine hK _ _ ?_
              clear hK K
              go_wp2_with fail
              go_roundw
              case rel => exact ⟨t + 1, by omega, by go_num, by rw [keeps_succ, fcells_app]; exact ho12, fun k hk => (hb12 k hk).elim (hAb k) (fun h => by have := hMy.size; have := hm11.size; omega), (hMy.ext hm11).fresh hm12 hAb⟩
              case measure => simp [intOf]; omega
            · obtain rfl : t = P.length := by omega
              obtain ⟨w11, hw11⟩ : ∃ x, x = wr := ⟨_, rfl⟩
              subst hw11
              have s11 := hMy.size
              have hd11 := hd10.ext hMy
              have hl11 := hl10.ext hMy
              have hk11 := hk10.ext hMy
              have hLs11 := hLs10.ext hMy
              have hM11 := hM10.ext hMy
              have hFd11 := hFd.ext hMy
              have hFk : Fs w11 (.slice aoa P.length capa) (keeps P.length) := by unfold Fs; rw [keeps_len]; exact hA.sl
              have hFLk : keeps P.length ≠ [] → ∀ b ∈ blks (.slice aoa P.length capa), b ∉ Lk := fun _ b hb hh => by have := hAb b hb; have := hk9 b hh; omega
              have hFLa : ∀ b ∈ blks (.slice aoa P.length capa), b ∉ Lj ∧ b ∉ Ll := fun b hb => ⟨fun hh => by have := hAb b hb; have := hj9 b hh; omega, fun hh => by have := hAb b hb; have := hl9s b hh; omega⟩
              have hF11 : Fs w11 _ F := Sl.ext hF hM11
              have hFn0 : ([] : List (Int × Int)) ≠ [] → ∀ b ∈ blks (.slice none 0 0), b ∉ Ll := fun h => absurd rfl h
              have hok3 := D3.ok
              clear hd10 hl10 hk10 hLs10 hM10 hFd hMy hA
              go_upto_region 36 with (first
                            | (go_at_call 58; refine (copyF_any F _ _ hF11 (by omega)).mono ?_; rintro e w12 ⟨fc, rfl, hFc, hnc, hm12⟩; have hd12 := hd11.ext hm12; have hFLc : F ≠ [] → ∀ b ∈ blks fc, b ∉ Lj := (fun _ b hb hh => by have := hnc b hb; have := hj9 b hh; omega))
                            | (go_at_call 39; (with_reducible refine (dcrash_any p m3 Lj F fc _ hd12 hok3 hr3 hFc hFLc).mono ?_); rintro e w13 ⟨rfl, hp13⟩; obtain ⟨L13, hd13, hm13, hL13⟩ := hp13; have hl13 : Dk w13 pl m3 Ll := (hl11.ext hm12).mod hm13 (fun b hb hh => hjl b hh hb); have hk13 : Dk w13 pk m3 Lk := (hk11.ext hm12).mod hm13 (fun b hb hh => hjk b hh hb); have hFn : Fs w13 (.slice none 0 0) [] := Sl.nil _ _; have hFk13 : Fs w13 _ _ := (Sl.mod (Sl.ext hFk hm12) hm13 (fun b hb => (hFLa b hb).1)))
                            | (go_at_call 39; (with_reducible refine (dcrash_any pl m3 Ll [] (.slice none 0 0) _ hl13 hok3 hr3 hFn hFn0).mono ?_); rintro e w14 ⟨rfl, hp14⟩; obtain ⟨L14, hl14, hm14, hL14⟩ := hp14; have hk14 : Dk w14 pk m3 Lk := hk13.mod hm14 (fun b hb hh => hlk b hh hb); have hFk14 : Fs w14 _ _ := (Sl.mod hFk13 hm14 (fun b hb => (hFLa b hb).2)))
                            | (go_at_call 39; (with_reducible refine (dcrash_any pk m3 Lk (keeps P.length) (.slice aoa P.length capa) _ hk14 hok3 hr3 hFk14 hFLk).mono ?_); rintro e w15 ⟨rfl, hp15⟩))
              obtain ⟨L15, hk15, hm15, hL15⟩ := hp15
              have s12 := hm12.size
              have s13 := hm13.size
              have s14 := hm14.size
              have hd14 : Dk w14 p (m3.crash F) L13 := hd13.mod hm14 fun b hb hh => (hL13 b hb).elim (fun h1 => hjl b h1 hh) (fun h1 => by have := hl9s b hh; omega)
              have hd15 : Dk w15 p (m3.crash F) L13 := hd14.mod hm15 fun b hb hh => (hL13 b hb).elim (fun h1 => hjk b h1 hh) (fun h1 => by have := hk9 b hh; omega)
              have hl15 : Dk w15 pl (m3.crash []) L14 := hl14.mod hm15 fun b hb hh => (hL14 b hb).elim (fun h1 => hlk b h1 hh) (fun h1 => by have := hk9 b hh; omega)
              have hLs15 := (((hLs11.ext hm12).mod hm13 hfar).mod hm14 hfl).mod hm15 hfk
              have hFd15 := (((hFd11.ext hm12).mod hm13 hj9).mod hm14 hl9s).mod hm15 hk9
              have hM15 := (((hM11.ext hm12).fresh hm13 hLW.1).fresh hm14 hLW.2.1).fresh hm15 hLW.2.2
              clear hd14 hd13 hl14 hl13 hk13 hk14 hFk13 hFk14 hFn hFn0 hFLc hFLk hFLa hFk hF11 hFc hnc hd12 hd11 hl11 hk11 hLs11 hM11 hFd11 hm12 hm13 hm14 hm15 hL13 hL14 hL15 hjl hjk hlk hfar hfl hfk hj9 hl9s hk9 hLW hAb hjW
              have hdl : (m3.crash []).dur = m2.dur := by rw [crash_nil]; exact H3D.out
              have hdk : (m3.crash (keeps P.length)).dur = (List.range 4).map m3.read := by rw [H3.out]; exact reads_all D2 hRok _ HRL.out
              have WT0 : ∀ w L, Dk w p (m3.crash F) L → Calls Try.prog 55 #[.pointer (some ⟨p, 0, none⟩)] w fun e w' => e = .returned (.int .i64 0) ∧ w = w' := fun w L h => dWaiting_any p (m3.crash F) L w h (D3.settle _).ok.s1
              have IMl := fun w L h => dimage_any pl (m3.crash []) L w h (D3.settle _).ok
              have IMk := fun w L h => dimage_any pk (m3.crash (keeps P.length)) L w h (D3.settle _).ok
              have IMd := fun w L h => dimage_any p (m3.crash F) L w h (D3.settle _).ok
              unfold ImgPost at IMl IMk IMd
              have HDN := Lib.hid (show ∀ b ∈ (m3.crash F).dur, b.length = 64 from fun b hb => by rw [(D3.settle _).ok.d b hb]; exact D3.sz)
              have HDN4 := Lib.hid (show (m3.crash F).dur.length = 4 from (D3.settle _).n)
              go_upto_region 38 with (first
                            | (go_at_call 54; (with_reducible refine (IMl _ _ hl15).mono ?_); rintro e w16 ⟨v16, Q16, rfl, hR16, hq16, hm16⟩; have r16 := hR16.r; have t16 := (hLs15.wa.ext hm16).r; have e16 := (hq16.trans hdl).trans hqd.symm; have hk16 := hk15.ext hm16)
                            | (go_at_call 56; (with_reducible refine (sameRows_yes Q16 Wd _ _ _ r16 t16 e16).mono ?_); rintro e w17 ⟨rfl, hm17⟩; have hk17 := hk16.ext hm17)
                            | (go_at_call 54; (with_reducible refine (IMk _ _ hk17).mono ?_); rintro e w18 ⟨v18, Q18, rfl, hR18, hq18, hm18⟩; have r18 := hR18.r; have t18 := (((hFd15.ext hm16).ext hm17).ext hm18).r; have e18 := (hq18.trans hdk).trans HFM.out.symm)
                            | (go_at_call 56; (with_reducible refine (sameRows_yes Q18 Fd _ _ _ r18 t18 e18).mono ?_); rintro e w19 ⟨rfl, hm19⟩; have hm1519 := ((hm16.ext hm17).ext hm18).ext hm19; have hd19 := hd15.ext hm1519)
                            | (go_at_call 55; (with_reducible refine (WT0 _ _ hd19).mono ?_); rintro e w20 ⟨rfl, rfl⟩))
              go_upto_region 39 with (go_at_call 54; (with_reducible refine (IMd _ _ hd19).mono ?_); rintro e w20 ⟨vn, Nw, rfl, hNw, hqn, hm20⟩)
              have hLsf := (hLs15.ext hm1519).ext hm20
              have hMf := (hM15.ext hm1519).ext hm20
              obtain ⟨aod, capd, rfl, _, _⟩ := hLsf.wa.ow.sl.form
              obtain ⟨aon, capn, rfl, _, _⟩ := hNw.ow.sl.form
              have hqn' : Nw.map (·.2) = ((m2.put R).crash F).dur := by rw [hqn, H3.out]
              have KEY := Lib.hid (fun (a k : Nat) (haN : a < Nw.length) (haW : a < Wd.length) (hk : k < 64) (x y : UInt8) hx hy => sv_key D2 hRok (F := F) hqn' hqd HPH.out.1 HPH.out.2 haN haW hk (x := x) (y := y) hx hy)
              have HN64 := Lib.hid (show ∀ i (hi : i < Nw.length), Nw[i].2.length = 64 from fun i hi => HDN.out _ (hqn ▸ List.mem_map.2 ⟨_, List.getElem_mem hi, rfl⟩))
              have HW64 := Lib.hid (show ∀ i (hi : i < Wd.length), Wd[i].2.length = 64 from fun i hi => by rw [D2.ok.d _ (hqd ▸ List.mem_map.2 ⟨_, List.getElem_mem hi, rfl⟩), D2.sz])
              have HP64 := Lib.hid (show ∀ i (hi : i < P.length), P[i].2.length = 64 from fun i hi => by
                have h1 : P[i].2 ∈ R.map (·.2) := HPH.out.1 ▸ List.mem_map.2 ⟨_, List.getElem_mem hi, rfl⟩
                obtain ⟨x, hx, he⟩ := List.mem_map.1 h1
                rw [← he]
                exact (hRok x hx).2)
              have HN4 := Lib.hid (show Nw.length = 4 by have := congrArg List.length hqn; rw [List.length_map, HDN4.out] at this; exact this)
              have HW4 := Lib.hid (show Wd.length = 4 by have := congrArg List.length hqd; rw [List.length_map, D2.n] at this; exact this)
              clear hqn hqn' hqd hd19 hd15 hl15 hk15 hLs15 hM15 hFd15 hm1519 hm16 hm17 hm18 hm19 hm20 hR16 hq16 hR18 hq18 r16 t16 e16 r18 t18 e18 hk16 hk17 hdl hdk WT0 IMl IMk IMd IM3 WT RD
              go_wp2_with fail
              go_loopw [24] (fun i wx => ∃ a : Nat, a ≤ 4 ∧ i = .int .i64 a ∧ Mod [] w20 wx) (fun i _ => 4 - (intOf i).toNat)
              case atStart => exact ⟨0, by omega, rfl, Mod.refl _ _⟩
              case round =>
                obtain ⟨a, ha, rfl, hMa⟩ := hrel
                by_cases hla : a < 4
                · have y1 : (a : Int) < 4 := by omega
                  have y1N : (a : Int) < Nw.length := by have := HN4.out; omega
                  have y1W : (a : Int) < Wd.length := by have := HW4.out; omega
                  have haN : a < Nw.length := by omega
                  have haW : a < Wd.length := by omega
                  go_wp2_with fail
                  go_loopw [25] (fun i wx => ∃ k : Nat, k ≤ 64 ∧ i = .int .i64 k ∧ Mod [] w20 wx) (fun i _ => 64 - (intOf i).toNat)
                  case atStart => exact ⟨0, by omega, rfl, hMa⟩
                  case round =>
                    obtain ⟨k, hk, rfl, hMk⟩ := hrel
                    by_cases hlk : k < 64
                    · have y2 : (k : Int) < 64 := by omega
                      obtain ⟨bN, oN, gN, cN, x, rfl, hx, hcN⟩ := hNw.cells haN (HN64.out a haN) hlk
                      obtain ⟨bW, oW, gW, cW, y, rfl, hy, hcW⟩ := hLsf.wa.cells haW (HW64.out a haW) hlk
                      have HKEY := Lib.hid (KEY.out a k haN haW hlk x y hx hy)
                      clear hx hy
                      go_wp2_with fail
                      refine wp_region_T [⟨0, true, []⟩, ⟨1, true, []⟩, ⟨2, true, []⟩, ⟨3, true, []⟩, ⟨4, true, []⟩, ⟨5, true, []⟩, ⟨6, true, []⟩, ⟨7, true, []⟩, ⟨8, true, []⟩, ⟨9, true, []⟩, ⟨10, true, []⟩, ⟨11, true, []⟩, ⟨12, true, []⟩, ⟨13, true, []⟩, ⟨14, true, []⟩, ⟨15, true, []⟩] (by kernel_rfl) (by kernel_rfl) ?_
                      have hMk0 := hMk.ext (Mod.drew [] _)
                      obtain ⟨w21, hw21⟩ : ∃ w, w = wr.drew := ⟨_, rfl⟩
                      rw [← hw21] at hMk0 ⊢
                      clear hw21
                      obtain ⟨x1, x2⟩ := hcN w21 hMk0
                      obtain ⟨x3, x4⟩ := hcW w21 hMk0
                      iterate 16 (refine wpT_n rfl rfl (fun K hK => ?_); go_wp2_with fail)
                      refine wpT_nil ?_
                      go_wp2_with fail
                      clear x1 x2 x3 x4
                      go_loopw [26, 27] (fun b i wx => ∃ (q : Nat) (c : Bool), q ≤ P.length ∧ i = .int .i64 q ∧ b = .bool c ∧ (y = x → c = true) ∧ (∀ q' (h : q' < P.length), q' < q → H.getD q' 0 = a → P[q'].2[k]? = some x → c = true) ∧ Mod [] w20 wx) (fun _ i _ => P.length - (intOf i).toNat)
                      case atStart => exact ⟨0, _, by omega, rfl, rfl, fun h => by rw [h]; simp, fun q' _ h => absurd h (by omega), hMk0⟩
                      case round =>
                        obtain ⟨q, c, hq, rfl, rfl, hc1, hc2, hMq⟩ := hrel
                        have HC1 := Lib.hid hc1
                        have HC2 := Lib.hid hc2
                        clear hc1 hc2
                        by_cases hlq : q < P.length
                        · have y3 : (q : Int) < P.length := by omega
                          have y4 : (q : Int) < H.length := by have := HHL.out; omega
                          go_wp2_with fail
                          refine wp_region_T [⟨0, true, []⟩, ⟨1, true, []⟩, ⟨2, true, []⟩, ⟨3, true, []⟩, ⟨4, true, []⟩, ⟨5, true, []⟩, ⟨6, true, []⟩, ⟨7, true, []⟩, ⟨8, true, []⟩, ⟨9, true, []⟩, ⟨10, true, []⟩, ⟨11, true, []⟩, ⟨12, true, []⟩, ⟨13, true, []⟩, ⟨14, true, []⟩, ⟨15, true, []⟩, ⟨16, true, []⟩, ⟨17, true, []⟩, ⟨18, true, []⟩, ⟨19, true, []⟩, ⟨20, true, []⟩, ⟨21, true, []⟩, ⟨22, true, []⟩, ⟨23, true, []⟩, ⟨24, true, []⟩, ⟨25, true, []⟩, ⟨26, true, []⟩] (by kernel_rfl) (by kernel_rfl) ?_
                          have hMq0 := hMq.ext (Mod.drew [] _)
                          obtain ⟨w22, hw22⟩ : ∃ w, w = wr.drew := ⟨_, rfl⟩
                          rw [← hw22] at hMq0 ⊢
                          clear hw22
                          cases c with
                          | true =>
                            iterate 2 (refine wpT_n rfl rfl (fun K hK => ?_); go_wp2_with fail)
                            iterate 7 (refine wpT_gk (gi := 1) rfl rfl rfl rfl rfl rfl (fun K hK => ?_); go_wp2_with fail)
                            iterate 15 (refine wpT_gu (gi := 8) rfl rfl rfl rfl rfl (fun K hK => ?_); go_wp2_with fail)
                            refine wpT_gk (gi := 1) rfl rfl rfl rfl rfl rfl (fun K hK => ?_)
                            go_wp2_with fail
                            iterate 2 (refine wpT_n rfl rfl (fun K hK => ?_); go_wp2_with fail)
                            refine wpT_nil ?_
                            go_wp2_with fail
                            go_roundw
                            case rel => exact ⟨q + 1, true, by omega, by go_num, rfl, fun _ => rfl, fun _ _ _ _ _ => rfl, hMq0⟩
                            case measure => simp [intOf]; omega
                          | false =>
                            obtain ⟨bH, oH, rfl, hcH⟩ := ints_cell hLsf.io (i := q) (by have := HHL.out; omega)
                            have x5 := hcH w22 hMq0
                            obtain ⟨h, hh⟩ : ∃ h, h = H.getD q 0 := ⟨_, rfl⟩
                            rw [← hh] at x5
                            have HH := Lib.hid hh
                            clear hh hcH
                            by_cases hha : h = a
                            · subst hha
                              obtain ⟨bP, oP, gP, cP, z, rfl, hz, hcP⟩ := hLsf.ro.cells hlq (HP64.out q hlq) hlk
                              have HZ := Lib.hid hz
                              clear hz
                              obtain ⟨x1, x2⟩ := hcN w22 hMq0
                              obtain ⟨x3, x4⟩ := hcP w22 hMq0
                              iterate 2 (refine wpT_n rfl rfl (fun K hK => ?_); go_wp2_with fail)
                              iterate 7 (refine wpT_gq (gi := 1) rfl rfl rfl rfl rfl (fun K hK => ?_); go_wp2_with fail)
                              iterate 15 (refine wpT_gq (gi := 8) rfl rfl rfl rfl rfl (fun K hK => ?_); go_wp2_with fail)
                              refine wpT_gq (gi := 1) rfl rfl rfl rfl rfl (fun K hK => ?_)
                              go_wp2_with fail
                              iterate 2 (refine wpT_n rfl rfl (fun K hK => ?_); go_wp2_with fail)
                              refine wpT_nil ?_
                              go_wp2_with fail
                              go_roundw
                              case rel =>
                                refine ⟨q + 1, _, by omega, by go_num, rfl, fun he => absurd (HC1.out he) (by simp), fun q' hq' hlt hha hx' => ?_, hMq0⟩
                                by_cases hqq : q' < q
                                · exact absurd (HC2.out q' hq' hqq hha hx') (by simp)
                                · obtain rfl : q' = q := by omega
                                  rw [HZ.out] at hx'
                                  obtain rfl := Option.some.inj hx'
                                  simp
                              case measure => simp [intOf]; omega
                            · have e1 : ((h : Int) == (a : Int)) = false := by rw [beq_eq_false_iff_ne]; omega
                              iterate 2 (refine wpT_n rfl rfl (fun K hK => ?_); go_wp2_with fail)
                              iterate 7 (refine wpT_gq (gi := 1) rfl rfl rfl rfl rfl (fun K hK => ?_); go_wp2_with fail)
                              iterate 15 (refine wpT_gk (gi := 8) rfl rfl rfl rfl rfl rfl (fun K hK => ?_); go_wp2_with fail)
                              refine wpT_gq (gi := 1) rfl rfl rfl rfl rfl (fun K hK => ?_)
                              go_wp2_with fail
                              iterate 2 (refine wpT_n rfl rfl (fun K hK => ?_); go_wp2_with fail)
                              refine wpT_nil ?_
                              go_wp2_with fail
                              go_roundw
                              case rel =>
                                refine ⟨q + 1, false, by omega, by go_num, rfl, HC1.out, fun q' hq' hlt hha' hx' => ?_, hMq0⟩
                                by_cases hqq : q' < q
                                · exact HC2.out q' hq' hqq hha' hx'
                                · obtain rfl : q' = q := by omega
                                  exact absurd (HH.out.trans hha') hha
                              case measure => simp [intOf]; omega
                        · obtain rfl : q = P.length := by omega
                          obtain rfl : c = true := by
                            rcases HKEY.out with h1 | ⟨q', hq', h1, h2⟩
                            · exact HC1.out h1
                            · exact HC2.out q' hq' hq' h1 h2
                          go_wp2_with fail
                          go_roundw
                          case rel => exact ⟨k + 1, by omega, by go_num, hMq⟩
                          case measure => simp [intOf]; omega
                    · obtain rfl : k = 64 := by omega
                      go_wp2_with fail
                      go_roundw
                      case rel => exact ⟨a + 1, by omega, by go_num, hMk⟩
                      case measure => simp [intOf]; omega
                · obtain rfl : a = 4 := by omega
                  go_wp2_with fail
                  go_ret
                  exact ⟨rfl, hMf.ext hMa⟩
end Go.Proofs.Ytkedbphdflhhlaa
