import Derived.Test.YtkedbphdflhhlaaDkD
/-! DiskCopies. -/
set_option linter.unusedVariables false
set_option linter.unusedSimpArgs false
set_option maxRecDepth 100000
namespace Go.Proofs.Ytkedbphdflhhlaa
open Go.RowKit Gw

section
variable {w w' : World} {base b2 : Nat} {A B L L' : List (Value × List UInt8)}
theorem Fam.perm (h : Fam w base L) (hp : L.Perm L') : Fam w base L' :=
  ⟨fun p hp' => h.ob p (hp.mem_iff.2 hp'), (hp.pairwise_iff (fun {x y} hxy b hb hb2 => hxy b hb2 hb)).1 h.dj⟩
theorem Fam.sublist (h : Fam w base L) (hs : L'.Sublist L) : Fam w base L' := ⟨fun p hp => h.ob p (hs.subset hp), h.dj.sublist hs⟩
theorem Fam.app (hA : Fam w base A) (hB : Fam w b2 B) (hlt : ∀ p ∈ A, ∀ b ∈ blks p.1, b < b2) (hb : base ≤ b2) : Fam w base (A ++ B) :=
  ⟨fun p hp => (List.mem_append.1 hp).elim (hA.ob p) fun h => ⟨(hB.ob p h).1, fun b hb2 => Nat.le_trans hb ((hB.ob p h).2 b hb2)⟩,
   List.pairwise_append.2 ⟨hA.dj, hB.dj, fun p hp q hq b hb hb2 => by have := hlt p hp b hb; have := (hB.ob q hq).2 b hb2; omega⟩⟩
theorem Fam.lt (h : Fam w base L) : ∀ p ∈ L, ∀ b ∈ blks p.1, b < w.heap.size := fun p hp b hb => Ow.lt (h.ob p hp).1 b hb
theorem Fam.weak (h : Fam w base L) {b : Nat} (hb : b ≤ base) : Fam w b L := ⟨fun p hp => ⟨(h.ob p hp).1, fun k hk => Nat.le_trans hb ((h.ob p hp).2 k hk)⟩, h.dj⟩
theorem Fam.single {v : Value} {l : List UInt8} (ho : Ob w v l) (hn : ∀ b ∈ blks v, base ≤ b) : Fam w base [(v, l)] := ⟨fun p hp => (by obtain rfl : p = (v, l) := (by simpa using hp); exact ⟨ho, hn⟩), List.pairwise_singleton _ _⟩
end
/-- rows that lie apart: one, the found ones, another one, and what is left of two images -/
def Zs (u : Value) (B : List UInt8) (T : List (Value × List UInt8)) (bw : Value) (X Y : List (Value × List UInt8)) (j : Nat) : List (Value × List UInt8) := (u, B) :: (T ++ ((bw, B) :: (X.drop j ++ Y.drop j)))
theorem Zs_perm {u : Value} {B : List UInt8} {T : List (Value × List UInt8)} {bw : Value} {X Y : List (Value × List UInt8)} {j : Nat} (hx : j < X.length) (hy : j < Y.length) :
    (Zs u B T bw X Y j).Perm (X[j] :: Y[j] :: (u, B) :: (T ++ ((bw, B) :: (X.drop (j + 1) ++ Y.drop (j + 1))))) := by
  unfold Zs
  rw [List.drop_eq_getElem_cons hx, List.drop_eq_getElem_cons hy]
  have e1 : (u, B) :: (T ++ (bw, B) :: (X[j] :: X.drop (j + 1) ++ Y[j] :: Y.drop (j + 1))) = ((u, B) :: (T ++ [(bw, B)])) ++ X[j] :: (X.drop (j + 1) ++ Y[j] :: Y.drop (j + 1)) := by simp only [List.cons_append, List.append_assoc, List.nil_append]
  rw [e1]
  refine List.perm_middle.trans (List.Perm.cons _ ?_)
  have e2 : ((u, B) :: (T ++ [(bw, B)])) ++ (X.drop (j + 1) ++ Y[j] :: Y.drop (j + 1)) = (((u, B) :: (T ++ [(bw, B)])) ++ X.drop (j + 1)) ++ Y[j] :: Y.drop (j + 1) := by simp only [List.cons_append, List.append_assoc, List.nil_append]
  rw [e2]
  refine List.perm_middle.trans (List.Perm.cons _ ?_)
  simp
structure Cz (W w : World) (p : Nat) (m : Dm) (L : List Nat) (xv yv tv : Value) (X Y T : List (Value × List UInt8)) (u bw : Value) (B : List UInt8) (j : Nat) : Prop where
  m0 : Mod [] W w
  dk : Dk w p m L
  ox : Ow w 23 1 xv X.length (X.map (·.1))
  oy : Ow w 23 1 yv Y.length (Y.map (·.1))
  ot : Ow w 23 1 tv T.length (T.map (·.1))
  fam : Fam w W.heap.size (Zs u B T bw X Y j)
  far : ∀ q ∈ Zs u B T bw X Y j, ∀ k ∈ blks q.1, k ∉ L
section
variable {W w w1 w2 : World} {p : Nat} {m : Dm} {L : List Nat} {xv yv tv u u' bw : Value} {X Y T : List (Value × List UInt8)} {B : List UInt8} {j : Nat}
theorem Cz.ext (h : Cz W w p m L xv yv tv X Y T u bw B j) (hm : Mod [] w w1) : Cz W w1 p m L xv yv tv X Y T u bw B j :=
  ⟨h.m0.ext hm, h.dk.ext hm, h.ox.ext hm, h.oy.ext hm, h.ot.ext hm, h.fam.ext hm, h.far⟩
theorem Cz.three (h : Cz W w p m L xv yv tv X Y T u bw B j) (hx : j < X.length) (hy : j < Y.length) : Fam w W.heap.size [X[j], Y[j], (u, B)] :=
  (h.fam.perm (Zs_perm hx hy)).sublist (by
    refine List.Sublist.cons_cons _ (List.Sublist.cons_cons _ (List.Sublist.cons_cons _ (List.nil_sublist _))))
theorem Cz.step (h : Cz W w p m L xv yv tv X Y T u bw B j) (hx : j < X.length) (hy : j < Y.length) {M : List Nat} (hm : Mod M w w1) (hM : ∀ b ∈ M, ∃ q ∈ [X[j], Y[j], (u, B)], b ∈ blks q.1)
    (hm2 : Mod [] w1 w2) (ho : Ob w2 u' B) (hn : New w1 u') : Cz W w2 p m L xv yv tv X Y T u' bw B (j + 1) := by
  have hp := h.fam.perm (Zs_perm hx hy)
  have hfar := fun q hq => h.far q ((Zs_perm (u := u) (B := B) (T := T) (bw := bw) hx hy).mem_iff.2 hq)
  have hin : ∀ q ∈ [X[j], Y[j], (u, B)], q ∈ X[j] :: Y[j] :: (u, B) :: (T ++ ((bw, B) :: (X.drop (j + 1) ++ Y.drop (j + 1)))) := fun q hq => by
    simp only [List.mem_cons, List.not_mem_nil, or_false] at hq ⊢
    rcases hq with hq | hq | hq
    · exact .inl hq
    · exact .inr (.inl hq)
    · exact .inr (.inr (.inl hq))
  have hrow : ∀ {v : Value} {n : Nat} {xs : List Value}, Ow w 23 1 v n xs → ∀ b ∈ blks v, b ∉ M := fun {v n xs} hv b hb hbM => by
    obtain ⟨q, hq, hbq⟩ := hM b hbM
    exact Ow.disj (hp.ob q (hin q hq)).1 hv (by decide) b hbq hb
  have hrest : Fam w W.heap.size (T ++ ((bw, B) :: (X.drop (j + 1) ++ Y.drop (j + 1)))) := hp.sublist (List.Sublist.cons _ (List.Sublist.cons _ (List.sublist_cons_self _ _)))
  have hd := hp.dj
  rw [List.pairwise_cons, List.pairwise_cons, List.pairwise_cons] at hd
  obtain ⟨d1, d2, d3, _⟩ := hd
  have hrest1 : Fam w1 W.heap.size (T ++ ((bw, B) :: (X.drop (j + 1) ++ Y.drop (j + 1)))) := hrest.mod hm fun q hq b hb hbM => by
    obtain ⟨q', hq', hbq⟩ := hM b hbM
    simp only [List.mem_cons, List.not_mem_nil, or_false] at hq'
    rcases hq' with rfl | rfl | rfl
    · exact d1 q (List.mem_cons_of_mem _ (List.mem_cons_of_mem _ hq)) b hbq hb
    · exact d2 q (List.mem_cons_of_mem _ hq) b hbq hb
    · exact d3 q hq b hbq hb
  have hge : ∀ b ∈ M, W.heap.size ≤ b := fun b hb => by
    obtain ⟨q, hq, hbq⟩ := hM b hb
    exact (hp.ob q (hin q hq)).2 b hbq
  have hdk : Dk w1 p m L := h.dk.mod hm fun b hb hbM => by
    obtain ⟨q, hq, hbq⟩ := hM b hbM
    exact hfar q (hin q hq) b hbq hb
  refine ⟨(h.m0.fresh hm hge).ext hm2, hdk.ext hm2, (h.ox.mod hm (hrow h.ox)).ext hm2, (h.oy.mod hm (hrow h.oy)).ext hm2, (h.ot.mod hm (hrow h.ot)).ext hm2, ?_, ?_⟩
  · exact Fam.ins (A := []) hrest1 (Nat.le_trans h.m0.size hm.size) hm2 ho hn
  · intro q hq k hk
    rcases List.mem_cons.1 hq with rfl | hq
    · intro hh
      have := hn k hk
      have := hdk.lt k hh
      omega
    · exact hfar q (List.mem_cons_of_mem _ (List.mem_cons_of_mem _ (List.mem_cons_of_mem _ hq))) k hk
end
theorem mayD_4_64 : mayD 4 64 = true := by kernel_rfl
theorem D4_new : D4 ⟨64, List.replicate 4 (zeros 64), []⟩ := ⟨mkD_ok (s := 4) (z := 64) mayD_4_64, rfl, rfl⟩
set_option maxRecDepth 1000000 in
set_option maxHeartbeats 8000000 in
theorem diskCopies_core (sv1 sv2 : Value) (os1 os2 : List Dop) (W : World) (hs1 : Dops W sv1 os1) (hs2 : Dops W sv2 os2) (hF1 : ∀ o ∈ os1, o.F.length ≤ 1048576) (hF2 : ∀ o ∈ os2, o.F.length ≤ 1048576) :
    Calls Try.prog 11 #[sv1, sv2] W fun e w' => e = .returned (.bool true) ∧ Mod [] W w' := by
  have AW := fun w => dkawake_any w
  have N0 : ∀ w, Calls Try.prog 35 #[.int .i64 4, .int .i64 64] w (NewD 4 64 w) := fun w => dnew_yes 4 64 w mayD_4_64
  unfold NewD at N0
  have D0 := D4_new
  obtain ⟨m0, hm0⟩ : ∃ m : Dm, m = ⟨64, List.replicate 4 (zeros 64), []⟩ := ⟨_, rfl⟩
  have r0 : m0.row.length = 0 := by rw [hm0]; rfl
  rw [← hm0] at N0 D0
  clear hm0
  have S1 := fun w p L h0 hO => does_any W w p m0 L os1 sv1 h0 hO D0 (by omega) hs1 hF1
  have D1 := D0.all (os1.take 200)
  have r1 := doAll_rows (os1.take 200) m0
  rw [List.length_take, r0] at r1
  obtain ⟨m1, hm1⟩ : ∃ m, m = doAll (os1.take 200) m0 := ⟨_, rfl⟩
  rw [← hm1] at S1 D1 r1
  clear hm1
  obtain ⟨ao1, cap1, rfl, hc1, hc1'⟩ := hs1.1.form
  obtain ⟨ao2, cap2, rfl, hc2, hc2'⟩ := hs2.1.form
  have F64 := fun w => fill64 (os1.length : Int) w
  go_enter Try.func11, Try.ntmps11
  go_upto_region 5 with (first
                | (go_at_call 34; (with_reducible refine (AW _).mono ?_); rintro e w1 ⟨rfl, hm1⟩)
                | (go_at_call 35; refine (N0 _).mono ?_; rintro e w2 ⟨p, L2, rfl, hD2, hL2, hm2⟩)
                | (go_at_call 53; refine (S1 w2 p L2 (hm1.ext hm2) ⟨hD2, fun k hk => Nat.le_trans hm1.size (hL2 k hk)⟩).mono ?_; rintro e w3 ⟨rfl, L3, hO3, hm3, hL3⟩))
  have hM3 : Mod [] W w3 := (hm1.ext hm2).fresh hm3 (fun k hk => Nat.le_trans hm1.size (hL2 k hk))
  clear AW N0 S1 hD2 hL2 hm1 hm2 hm3 hL3
  go_upto_if 30 with fail
  go_cut [] (fun wx => ∃ m2 L4, D4 m2 ∧ m2.row.length ≤ 1000 ∧ Own W wx p m2 L4 ∧ Mod [] W wx)
  case first =>
    by_cases h0 : 0 < os1.length
    · have y0 : (0 : Int) < os1.length := by omega
      obtain ⟨B, hB⟩ : ∃ B, B = fillL (os1.length : Int) 64 := ⟨_, rfl⟩
      have hBl : B.length = 64 := by rw [hB, fillL_len]
      rw [← hB] at F64
      have HBL := Lib.hid hBl
      clear hB hBl
      have WR := fun w bv h hb => dwrite_ok p m1 L3 1 B bv w h D1.ok hb (by rw [D1.n]; omega) (HBL.out.trans D1.sz.symm) (by omega)
      have hD3 := hO3.1
      go_wp2_with (first
                    | (go_at_call 36; (with_reducible refine (F64 _).mono ?_); rintro e w4 ⟨v4, rfl, ho4, hn4, hm4⟩; have hD4 := hD3.ext hm4; have hb4 := Ob.bs ho4; obtain ⟨ao4, cap4, rfl, _, _⟩ := ho4.sl.form)
                    | (go_at_call 37; refine (WR _ _ hD4 hb4).mono ?_; rintro e w5 ⟨rfl, hp⟩))
      obtain ⟨L5, k1, k2, k3⟩ := hp
      have s1 := hM3.size
      have s2 := hm4.size
      go_meet
      exact ⟨m1.write 1 B, L5, D1.write (by omega) HBL.out, by simp [Dm.write]; omega, ⟨k1, fun k hk => (k3 k hk).elim (hO3.2 k) (fun h => by omega)⟩, (hM3.ext hm4).fresh k2 hO3.2⟩
    · have y0 : (os1.length : Int) ≤ 0 := by omega
      go_wp2_with fail
      go_meet
      exact ⟨m1, L3, D1, by omega, hO3, hM3⟩
  case rest =>
  clear hO3 hM3 D1 r1 F64
  obtain ⟨m2, L4, D2, r2, hO4, hM4⟩ := hcut
  have CP := fun w h => dcopy_any p m2 L4 w h D2.ok (by omega)
  have IM := fun w p L h => dimage_any p m2 L w h D2.ok
  have WT := fun w p L h => dWaiting_any p m2 L w h D2.ok.s1
  have S2 := fun w p L h0 hO => does_any W w p m2 L os2 _ h0 hO D2 (by omega) hs2 hF2
  have D3 := D2.all (os2.take 200)
  have r3 := doAll_rows (os2.take 200) m2
  rw [List.length_take] at r3
  obtain ⟨m3, hm3⟩ : ∃ m, m = doAll (os2.take 200) m2 := ⟨_, rfl⟩
  rw [← hm3] at S2 D3 r3
  clear hm3
  unfold CopyPost at CP
  unfold ImgPost at IM
  have hD4 := hO4.1
  go_upto_region 8 with (go_at_call 57; (with_reducible refine (CP _ hD4).mono ?_); rintro e w5 ⟨c, Lc, rfl, hOc, hm5⟩)
  have hD5 := hD4.ext hm5
  have hlt5 := hD5.lt
  go_upto_region 9 with (first
                | (go_at_call 54; (with_reducible refine (IM _ _ _ hD5).mono ?_); rintro e w6 ⟨vw, Q, rfl, hRW, hqw, hm6⟩; have hD6 := hD5.ext hm6)
                | (go_at_call 55; (with_reducible refine (WT _ _ _ hD6).mono ?_); rintro e w7 ⟨rfl, rfl⟩))
  have hDc6 := hOc.1.ext hm6
  have sc5 := hm5.size
  have sW := hM4.size
  have hc5 := hOc.1.lt
  go_upto_region 11 with (first
                | (go_at_call 55; (with_reducible refine (WT _ _ _ hDc6).mono ?_); rintro e w7 ⟨rfl, rfl⟩)
                | (go_at_call 54; (with_reducible refine (IM _ _ _ hDc6).mono ?_); rintro e w7 ⟨v7, Q7, rfl, hR7, hq7, hm7⟩)
                | (go_at_call 56; refine (sameRows_yes Q7 Q _ _ _ hR7.r (hRW.ext hm7).r (hq7.trans hqw.symm)).mono ?_; rintro e w8 ⟨rfl, hm8⟩))
  have hm58 := (hm6.ext hm7).ext hm8
  have hM8 := (hM4.ext hm5).ext hm58
  have hD8 := hD5.ext hm58
  have hDc8 := hOc.1.ext hm58
  have hRW8 := (hRW.ext hm7).ext hm8
  have hcd : ∀ k ∈ Lc, k ∉ L4 := fun k hk hh => by have := hOc.2 k hk; have := hD4.lt k hh; omega
  have hcW : ∀ k ∈ Lc, W.heap.size ≤ k := fun k hk => Nat.le_trans sW (hOc.2 k hk)
  have s58 := hm58.size
  clear hR7 hq7 hm7 hm8 hDc6 hD6 hm6 hRW hM4
  go_upto_region 12 with (go_at_call 53; refine (S2 w8 c Lc hM8 ⟨hDc8, hcW⟩).mono ?_; rintro e w9 ⟨rfl, Lc9, hOc9, hm9, hLc9⟩)
  have s89 := hm9.size
  have hM9 := hM8.fresh hm9 hcW
  have hD9 := hD8.mod hm9 (fun b hb hh => hcd b hh hb)
  have hRW9 := hRW8.mod hm9 (fun k hk => hc5 k hk)
  have hc9 := hOc9.1.lt
  clear hM8 hD8 hRW8 hDc8 hm9
  have IM3 := fun w p L h => dimage_any p m3 L w h D3.ok
  have WT3 := fun w p L h => dWaiting_any p m3 L w h D3.ok.s1
  have RD3 := fun w p L h => dread_ok p m3 L 1 w h D3.ok (by rw [D3.n]; omega)
  unfold ImgPost at IM3
  obtain ⟨A, hA⟩ : ∃ A, A = m3.read 1 := ⟨_, rfl⟩
  have hAl : A.length = 64 := by rw [hA, D3.ok.read (by rw [D3.n]; omega), D3.sz]
  rw [← hA] at RD3
  have HAL := Lib.hid hAl
  clear hA hAl
  have hDc9 := hOc9.1
  go_upto_region 13 with (first
                | (go_at_call 54; (with_reducible refine (IM3 _ _ _ hDc9).mono ?_); rintro e w10 ⟨vt, T, rfl, hT, hqt, hm10⟩; have hDc10 := hDc9.ext hm10)
                | (go_at_call 55; (with_reducible refine (WT3 _ _ _ hDc10).mono ?_); rintro e w11 ⟨rfl, rfl⟩))
  have hD10 := hD9.ext hm10
  have hT10 := hT.fam.lt
  go_upto_region 15 with (first
                | (go_at_call 55; (with_reducible refine (WT _ _ _ hD10).mono ?_); rintro e w11 ⟨rfl, rfl⟩)
                | (go_at_call 54; (with_reducible refine (IM _ _ _ hD10).mono ?_); rintro e w11 ⟨v11, Q11, rfl, hR11, hq11, hm11⟩)
                | (go_at_call 56; refine (sameRows_yes Q11 Q _ _ _ hR11.r ((hRW9.ext hm10).ext hm11).r (hq11.trans hqw.symm)).mono ?_; rintro e w12 ⟨rfl, hm12⟩))
  have hm912 := hm11.ext hm12
  have s910 := hm10.size
  have s1012 := hm912.size
  have hM12 := (hM9.ext hm10).ext hm912
  have hD12 := hD10.ext hm912
  have hDc12 := hDc10.ext hm912
  have hT12 := hT.ext hm912
  clear hR11 hq11 hm11 hm12 hRW9 hD10 hDc10 hT hM9 hD9 hDc9 hm10
  go_upto_region 16 with (go_at_call 53; refine (S2 w12 p L4 hM12 ⟨hD12, hO4.2⟩).mono ?_; rintro e w13 ⟨rfl, L13, hO13, hm13, hL13⟩)
  have s1213 := hm13.size
  have hM13 := hM12.fresh hm13 hO4.2
  have hDd := hO13.1
  have hDc := hDc12.mod hm13 (fun b hb hh => by
    rcases hLc9 b hb with h1 | h1
    · exact hcd b h1 hh
    · have := hD4.lt b hh; omega)
  have hT13 := hT12.mod hm13 (fun k hk => by have := hD4.lt k hk; omega)
  have hd13 := hDd.lt
  have hdT : ∀ q ∈ T, ∀ k ∈ blks q.1, k ∉ L13 := fun q hq k hk hh => by
    have h1 := hT10 q hq k hk
    have h2 := (hT13.fam.ob q hq).2 k hk
    rcases hL13 k hh with h3 | h3
    · have := hD4.lt k h3; omega
    · omega
  clear hM12 hD12 hDc12 hT12 hm13 S2
  go_upto_region 17 with (go_at_call 40; refine (RD3 _ _ _ hDd).mono ?_; rintro e w14 ⟨va, rfl, hoa, hna, hm14⟩)
  have hDc14 := hDc.ext hm14
  go_upto_region 18 with (go_at_call 40; refine (RD3 _ _ _ hDc14).mono ?_; rintro e w15 ⟨vb, rfl, hob, hnb, hm15⟩)
  obtain ⟨aoa, capa, rfl, _, _⟩ := hoa.sl.form
  obtain ⟨aob, capb, rfl, _, _⟩ := hob.sl.form
  obtain ⟨aot, capt, rfl, _, _⟩ := hT13.ow.sl.form
  have la := hoa.lt
  have lb := hob.lt
  have s14 := hm14.size
  have s15 := hm15.size
  have hDd15 := (hDd.ext hm14).ext hm15
  have hDc15 := hDc14.ext hm15
  have hT15 := (hT13.ext hm14).ext hm15
  have hoa15 := hoa.ext hm15
  have hM15 := (hM13.ext hm14).ext hm15
  clear hDd hDc14 hDc hT13 hM13 hm14 hm15 hoa
  go_upto_region 20 with (first
                | (go_at_call 55; (with_reducible refine (WT3 _ _ _ hDd15).mono ?_); rintro e w16 ⟨rfl, rfl⟩)
                | (go_at_call 54; (with_reducible refine (IM3 _ _ _ hDd15).mono ?_); rintro e w16 ⟨v16, Q16, rfl, hR16, hq16, hm16⟩; have r16 := hR16.r; have t16 := (hT15.ext hm16).r; have e16 := hq16.trans hqt.symm)
                | (go_at_call 56; (with_reducible refine (sameRows_yes Q16 T _ _ _ r16 t16 e16).mono ?_); rintro e w17 ⟨rfl, hm17⟩; have hDc17 := (hDc15.ext hm16).ext hm17; have hT17 := (hT15.ext hm16).ext hm17)
                | (go_at_call 54; (with_reducible refine (IM3 _ _ _ hDc17).mono ?_); rintro e w18 ⟨v18, Q18, rfl, hR18, hq18, hm18⟩; have r18 := hR18.r; have t18 := (hT17.ext hm18).r; have e18 := hq18.trans hqt.symm)
                | (go_at_call 56; (with_reducible refine (sameRows_yes Q18 T _ _ _ r18 t18 e18).mono ?_); rintro e w19 ⟨rfl, hm19⟩; have hm1519 := ((hm16.ext hm17).ext hm18).ext hm19; have b19a := Ob.bs (hoa15.ext hm1519); have b19b := Ob.bs (hob.ext hm1519))
                | (go_at_call 27; (with_reducible refine (same_yes A A _ _ _ b19a b19b rfl).mono ?_); rintro e w20 ⟨rfl, hm20⟩))
  have hm1520 := hm1519.ext hm20
  have s1520 := hm1520.size
  have hDd20 := hDd15.ext hm1520
  have hT20 := hT15.ext hm1520
  have hoa20 := hoa15.ext hm1520
  have hob20 := hob.ext hm1520
  have hM20 := hM15.ext hm1520
  clear hDd15 hDc15 hT15 hoa15 hob hM15 hm16 hm17 hm18 hm19 hm20 hm1519 hm1520 hR16 hq16 hR18 hq18 hDc17 hT17 r16 t16 e16 r18 t18 e18 b19a b19b
  go_upto_region 21 with (first
                | (go_at_call 54; (with_reducible refine (IM3 _ _ _ hDd20).mono ?_); rintro e w21 ⟨vx, X, rfl, hX, hqx, hm21⟩; have hDd21 := hDd20.ext hm21; clear hDd20)
                | (go_at_call 54; (with_reducible refine (IM3 _ _ _ hDd21).mono ?_); rintro e w22 ⟨vy, Y, rfl, hY, hqy, hm22⟩))
  have s21 := hm21.size
  have s22 := hm22.size
  have hCz : Cz W w22 p m3 L13 vx vy (.slice aot T.length capt) X Y T (.slice aoa A.length capa) (.slice aob A.length capb) A 0 := by
    have hXl := hX.fam.lt
    have XY := (hX.fam.ext hm22).app hY.fam hXl s21
    have bXY := (Fam.single ((hob20.ext hm21).ext hm22) hnb).app XY (fun q hq b hb => by
      obtain rfl : q = (_, A) := by simpa using hq
      have := lb b hb; omega) (by omega)
    have abXY := (Fam.single ((hoa20.ext hm21).ext hm22) hna).app bXY (fun q hq b hb => by
      obtain rfl : q = (_, A) := by simpa using hq
      exact la b hb) s14
    have fT := (((hT20.ext hm21).ext hm22).fam.weak (b := W.heap.size) (by omega)).app abXY (fun q hq b hb => by have := hT10 q hq b hb; omega) (by omega)
    have hperm : (T ++ ([(Value.slice aoa A.length capa, A)] ++ ([(Value.slice aob A.length capb, A)] ++ (X ++ Y)))).Perm (Zs (.slice aoa A.length capa) A T (.slice aob A.length capb) X Y 0) := by
      unfold Zs
      simp only [List.singleton_append, List.drop_zero]
      exact List.perm_middle
    refine ⟨(hM20.ext hm21).ext hm22, hDd21.ext hm22, hX.ow.ext hm22, hY.ow, ((hT20.ext hm21).ext hm22).ow, fT.perm hperm, fun q hq k hk hh => ?_⟩
    have h13 := hd13 k hh
    rcases List.mem_append.1 (hperm.mem_iff.2 hq) with h1 | h1
    · exact hdT q h1 k hk hh
    · have := (abXY.ob q h1).2 k hk
      omega
  obtain ⟨aox, capx, rfl, _, _⟩ := hX.ow.sl.form
  obtain ⟨aoy, capy, rfl, _, _⟩ := hY.ow.sl.form
  have hXY : Y.length = X.length := by
    have h1 := congrArg List.length hqx
    have h2 := congrArg List.length hqy
    rw [List.length_map] at h1 h2
    omega
  have HXY := Lib.hid hXY
  have hX4 : X.length ≤ 4 := by
    have h1 := congrArg List.length hqx
    rw [List.length_map, D3.n] at h1
    omega
  have hl64 : ∀ q ∈ X ++ (Y ++ [((Value.slice aoa A.length capa), A)]), q.2.length ≤ 64 := fun q hq => by
    rcases List.mem_append.1 hq with h1 | h1
    · have h2 : q.2 ∈ m3.dur := hqx ▸ List.mem_map.2 ⟨q, h1, rfl⟩
      rw [D3.ok.d _ h2, D3.sz]; omega
    · rcases List.mem_append.1 h1 with h1 | h1
      · have h2 : q.2 ∈ m3.dur := hqy ▸ List.mem_map.2 ⟨q, h1, rfl⟩
        rw [D3.ok.d _ h2, D3.sz]; omega
      · obtain rfl : q = (_, A) := by simpa using h1
        have := HAL.out; dsimp only; omega
  clear hXY hX hY hqx hqy hm21 hm22 hDd21 hT20 hoa20 hob20 hM20 hqw hT10 hd13 hdT la lb
  go_wp2_with fail
  go_loopw [12, 18] (fun u i wr => ∃ (j : Nat), j ≤ X.length ∧ i = .int .i64 j ∧ Cz W wr p m3 L13 (.slice aox X.length capx) (.slice aoy Y.length capy) (.slice aot T.length capt) X Y T u (.slice aob A.length capb) A j) (fun _ i _ => X.length - (intOf i).toNat)
  case atStart => exact ⟨0, Nat.zero_le _, rfl, hCz⟩
  case round =>
    obtain ⟨j, hj, rfl, hC⟩ := hrel
    clear hCz
    have hob1 := (hC.fam.ob _ List.mem_cons_self).1
    dsimp only at hob1
    obtain ⟨aou, capu, rfl, _, _⟩ := hob1.sl.form
    clear hob1
    by_cases hlt : j < X.length
    · have y1 : (j : Int) < X.length := by omega
      have hlt2 : j < Y.length := by have := HXY.out; omega
      have y2 : (j : Int) < Y.length := by omega
      go_wp2_with fail
      refine wp_region_T [⟨0, true, []⟩, ⟨1, true, []⟩, ⟨2, true, []⟩, ⟨3, true, []⟩, ⟨4, true, []⟩, ⟨5, true, []⟩, ⟨6, true, []⟩, ⟨7, true, []⟩, ⟨8, true, []⟩, ⟨9, false, []⟩, ⟨10, false, []⟩, ⟨11, true, []⟩] (by kernel_rfl) (by kernel_rfl) ?_
      have hC0 := hC.ext (Mod.drew [] _)
      obtain ⟨w0, hw0⟩ : ∃ w, w = wr.drew := ⟨_, rfl⟩
      rw [← hw0] at hC0 ⊢
      clear hw0 hC
      obtain ⟨bx, ox, rfl, cx⟩ := sl_at' hC0.ox.sl (i := j) (by simpa using hlt)
      obtain ⟨bY, oy, rfl, cy⟩ := sl_at' hC0.oy.sl (i := j) (by simpa using hlt2)
      rw [List.getElem_map] at cx cy
      have h3 := hC0.three hlt hlt2
      have hl3 : ∀ q ∈ [X[j], Y[j], (Value.slice aou A.length capu, A)], q.2.length ≤ 140737488355000 := fun q hq => by
        simp only [List.mem_cons, List.not_mem_nil, or_false] at hq
        rcases hq with rfl | rfl | rfl
        · have := hl64 X[j] (List.mem_append_left _ (List.getElem_mem hlt)); omega
        · have := hl64 Y[j] (List.mem_append_right _ (List.mem_append_left _ (List.getElem_mem hlt2))); omega
        · have := HAL.out; dsimp only; omega
      have hstep := fun (w1 w2 : World) (u' : Value) (M : List Nat) hm hM hm2 ho hn => hC0.step (w1 := w1) (w2 := w2) (u' := u') (M := M) hlt hlt2 hm hM hm2 ho hn
      have hdk0 := hC0.dk
      have hfar3 : ∀ q ∈ [X[j], Y[j], (Value.slice aou A.length capu, A)], ∀ k ∈ blks q.1, k ∉ L13 := fun q hq => hC0.far q ((Zs_perm hlt hlt2).mem_iff.2 (by
        simp only [List.mem_cons, List.not_mem_nil, or_false] at hq ⊢
        rcases hq with hq | hq | hq
        · exact .inl hq
        · exact .inr (.inl hq)
        · exact .inr (.inr (.inl hq))))
      have hox := (h3.ob X[j] List.mem_cons_self).1
      have hoy := (h3.ob Y[j] (List.mem_cons_of_mem _ List.mem_cons_self)).1
      obtain ⟨x, hx⟩ : ∃ x, x = X[j] := ⟨_, rfl⟩
      obtain ⟨y, hy⟩ : ∃ y, y = Y[j] := ⟨_, rfl⟩
      simp only [← hx, ← hy] at cx cy h3 hl3 hstep hox hoy hfar3
      clear hx hy
      obtain ⟨xv, xl⟩ := x
      obtain ⟨yv, yl⟩ := y
      dsimp only at cx cy hox hoy
      obtain ⟨aoX, capX, rfl, _, _⟩ := hox.sl.form
      obtain ⟨aoY, capY, rfl, _, _⟩ := hoy.sl.form
      iterate 9 (refine wpT_n rfl rfl (fun K hK => ?_); go_wp2_with fail)
      refine wpT_e0 rfl rfl (fun K hK => ?_)
      refine wp_bslice stDR [.slice aoX xl.length capX, .slice aoY yl.length capY, .slice aou A.length capu] rfl (by decide) (by rfl) (by simp [Value.cells]) ?_
      intro g x2 hg1 hg2 hmx2 hBx2
      simp only [put_some, List.set_cons_succ, List.set_cons_zero]
      refine hK _ _ ?_
      clear hK K
      have hS2 : Sl x2 1 (.slice (some ⟨g, 0, none⟩) 3 3) 3 [.slice aoX xl.length capX, .slice aoY yl.length capY, .slice aou A.length capu] := (Ow.of_blk (rest := []) hBx2 (Nat.le_refl _) (by omega) rfl rfl : Ow x2 23 1 (.slice (some ⟨g, 0, none⟩) 3 3) 3 [.slice aoX xl.length capX, .slice aoY yl.length capY, .slice aou A.length capu]).sl
      have AP := apart_fam [(.slice aoX xl.length capX, xl), (.slice aoY yl.length capY, yl), (.slice aou A.length capu, A)] W.heap.size 3 _ x2 rfl hS2 (h3.ext hmx2) (by omega) hl3
      refine wpT_call rfl rfl (fun K hK => ?_)
      go_wp2_with (go_at_call 28; (refine AP.mono ?_); rintro e x3 ⟨rfl, M, hmx3, hMx⟩)
      have hmM : Mod M w0 x3 := (hmx2.weak (by simp)).trans hmx3
      have hdk3 : Dk x3 p m3 L13 := hdk0.mod hmM (fun b hb hbM => by
        obtain ⟨q, hq, hbq⟩ := hMx b hbM
        exact hfar3 q hq b hbq hb)
      refine wpT_n rfl rfl (fun K hK => ?_)
      go_wp2_with fail
      refine wpT_nil ?_
      go_wp2_with fail
      go_wp2_with (go_at_call 40; (refine (RD3 _ _ _ hdk3).mono ?_); rintro e x4 ⟨u4, rfl, ho4, hn4, hm4⟩)
      go_roundw
      case rel => exact ⟨j + 1, by omega, by go_num, hstep x3 x4 u4 M hmM hMx hm4 ho4 hn4⟩
      case measure => simp [intOf]; omega
    · obtain rfl : j = X.length := by omega
      have hdk := hC.dk
      go_wp2_with (first
                    | (go_at_call 54; (with_reducible refine (IM3 _ _ _ hdk).mono ?_); rintro e w23 ⟨v23, Q23, rfl, hR23, hq23, hm23⟩; have hC23 := hC.ext hm23; have hRT : RowsR w23 (.slice aot T.length capt) T := ⟨hC23.ot.sl, fun q hq => Ob.bs (hC23.fam.ob q (List.mem_cons_of_mem _ (List.mem_append_left _ hq))).1⟩)
                    | (go_at_call 56; refine (sameRows_yes Q23 T _ _ _ hR23.r hRT (hq23.trans hqt.symm)).mono ?_; rintro e w24 ⟨rfl, hm24⟩; have hC24 := hC23.ext hm24)
                    | (go_at_call 27; refine (same_yes A A _ _ _ (Ob.bs (hC24.fam.ob _ List.mem_cons_self).1) (Ob.bs (hC24.fam.ob _ (List.mem_cons_of_mem _ (List.mem_append_right _ List.mem_cons_self))).1) rfl).mono ?_; rintro e w25 ⟨rfl, hm25⟩))
      go_ret
      exact ⟨rfl, hC24.m0.ext hm25⟩
end Go.Proofs.Ytkedbphdflhhlaa
