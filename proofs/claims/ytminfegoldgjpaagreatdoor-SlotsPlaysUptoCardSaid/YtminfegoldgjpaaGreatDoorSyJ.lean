import Derived.Test.YtminfegoldgjpaaGreatDoorSyF
import Derived.Test.YtminfegoldgjpaaGreatDoorOpB
/-! Slots: a step of a script (does): a byte is turned. -/
set_option linter.unusedVariables false
set_option linter.unusedSimpArgs false
set_option maxRecDepth 100000
namespace Go.Proofs.YtminfegoldgjpaaGreatDoor
open Go.RowKit Gw

/-- both devices have turned, alike, and little -/
def DoesX (W : World) (p q P Q : Nat) (O : List (Nat × TypeId × List Value)) (n0 r0 : Nat) (e : Ending) (w' : World) : Prop :=
  ∃ V L2 M2, e = .returned (.bool true) ∧ Bw W w' p q P Q V V L2 M2 O ∧ V.m.sz = 64 ∧ V.m.dur.length = 10 ∧ V.n ≤ n0 + 2100 ∧ V.m.row.length ≤ r0 + 1100
theorem xor8b (a b : Nat) (ha : a < 256) (hb : b < 256) : bits .xor .u8 (a : Int) (b : Int) = ((a ^^^ b : Nat) : Int) := by
  have ha' : a % 2 ^ IntKind.u8.bits = a := Nat.mod_eq_of_lt ha
  have hb' : b % 2 ^ IntKind.u8.bits = b := Nat.mod_eq_of_lt hb
  have hx := Nat.xor_lt_two_pow (n := 8) ha hb
  simp only [bits, BitVec.ofInt_natCast, BitVec.toNat_xor, BitVec.toNat_ofNat, ha', hb']
  rw [IntKind.wrap_u8]
  omega
theorem Bw.add {W w : World} {p q P Q : Nat} {v u : Pv} {L M : List Nat} {O : List (Nat × TypeId × List Value)} {g : Nat} {t : TypeId} {cs : List Value} (h : Bw W w p q P Q v u L M O) (h1 : W.heap.size ≤ g) (h2 : g ∉ p :: L) (h3 : g ∉ P :: M) (hB : Blk w g t cs) : Bw W w p q P Q v u L M ((g, t, cs) :: O) := by
  refine ⟨h.D, h.E, h.ap, fun y hy => ?_, h.m, h.dn, h.rn⟩
  rcases List.mem_cons.1 hy with e | e
  · subst e
    exact ⟨h1, h2, h3, hB⟩
  · exact h.O y e
set_option maxRecDepth 1000000 in
set_option maxHeartbeats 20000000 in
theorem does5_any (W w : World) (x p q P Q s r a b h k f0 f1 c : Nat) (v : Pv) (L M : List Nat) (o : Sop) (ho : OkSop W o) (hk : pick o.d 7 = 5) (B : Bw W w p q P Q v v L M (osB x p P s r a b h k f0 f1 c)) (hT0 : TabC W) (hz : v.m.sz = 64) (hd : v.m.dur.length = 10) (hn : v.n ≤ 900000) (hr : v.m.row.length ≤ 900000) (hc : 2 ≤ c) (hc4 : c ≤ 4) (h0 : f0 + c ≤ 10) (h1 : f1 + c ≤ 10) :
    Calls Tryz.prog 17 #[.pointer (some ⟨x, 0, none⟩), o.val] w (DoesX W p q P Q (osB x p P s r a b h k f0 f1 c) v.n v.m.row.length) := by
  obtain ⟨hF, hold, wd, wl, wx, wcov, wn, hf⟩ := ho
  obtain ⟨d, l, x_, cov, n, fv, F⟩ := o
  dsimp only at hk hF hold wd wl wx wcov wn hf
  obtain ⟨aof, capf, rfl, _, _⟩ := hF.form
  unfold Sop.val DoesX
  dsimp only
  have PK := fun w => pick_any d 7 w wd.1 wd.2 (by omega) (by omega)
  rw [hk] at PK
  clear hk
  have PN := fun w => pick_any n 10 w wn.1 wn.2 (by omega) (by omega)
  obtain ⟨A, hA⟩ : ∃ A, A = pick n 10 := ⟨_, rfl⟩
  have hA1 := pick_ge n 10
  have hA2 := pick_lt n 10 (by omega)
  rw [← hA] at PN hA1 hA2
  clear hA
  have PX := fun w => pick_any x_ 64 w wx.1 wx.2 (by omega) (by omega)
  have g1 := pick_ge x_ 64
  have g2 := pick_lt x_ 64 (by omega)
  obtain ⟨I, hI⟩ : ∃ k : Nat, pick x_ 64 = k := ⟨_, (Int.toNat_of_nonneg g1).symm⟩
  rw [hI] at PX g2
  clear hI g1
  have PJ := fun w => pick_any l 8 w wl.1 wl.2 (by omega) (by omega)
  have g1 := pick_ge l 8
  have g3 := pick_lt l 8 (by omega)
  obtain ⟨J, hJ⟩ : ∃ k : Nat, pick l 8 = k := ⟨_, (Int.toNat_of_nonneg g1).symm⟩
  rw [hJ] at PJ g3
  clear hJ g1
  have RD := fun w h => pRead_any p q v L A w h (by omega)
  have RQ := fun w h => qRead_any P Q v M A w h (by omega)
  have hrl : v.e (noneE v.m.dur.length A) = 0 → (v.rd A).length = 64 := fun he => by
    unfold Pv.e at he
    cases hg : v.go with
    | false => rw [hg] at he; simp at he
    | true =>
      rw [hg, if_pos rfl] at he
      obtain ⟨y1, y2⟩ := noneE_zero he
      unfold Pv.rd
      rw [hg, if_pos rfl]
      unfold oR
      dsimp only
      rw [if_pos he, B.D.ok.m.read (by omega)]
      exact hz
  have hmm := v.md_m
  have hmn := md_n2 v
  obtain ⟨E, hE⟩ : ∃ E : Int, E = v.e (noneE v.m.dur.length A) := ⟨_, rfl⟩
  rw [← hE] at RD RQ hrl
  clear hE
  obtain ⟨Bd, hBd⟩ : ∃ B, B = v.rd A := ⟨_, rfl⟩
  rw [← hBd] at RD RQ hrl
  clear hBd
  obtain ⟨V, hV⟩ : ∃ V, V = v.md := ⟨_, rfl⟩
  rw [← hV] at RD RQ hmm hmn
  clear hV
  have SB := fun va vb w ha hb => same_any Bd Bd va vb w ha hb
  rw [decide_eq_true (rfl : Bd = Bd)] at SB
  go_enter Tryz.func17, Tryz.ntmps17
  go_wp2_with (with_reducible refine st_box ?_)
  refine StopOp.go rfl fun K hK => ?_
  refine wp_box (v := .agg #[.int .i64 d, .int .i64 l, .int .i64 x_, .int .u64 (cov : Nat), .int .i64 n, .slice aof F.length capf]) (by rfl) ?_
  intro t w1 ht1 ht2 hm1 hT
  simp only [put_some, List.set_cons_succ, List.set_cons_zero]
  refine hK _ _ ?_
  clear hK K
  have hT1 : Blk w1 t 56 [.int .i64 d, .int .i64 l, .int .i64 x_, .int .u64 (cov : Nat), .int .i64 n, .slice aof F.length capf] := hT
  clear hT
  have B1 := B.new hm1 ht1 hT1
  clear hT1 hm1 ht2
  have d0 := (B1.blk 0 rfl).cell' (i := 0) rfl
  have d4 := (B1.blk 0 rfl).cell' (i := 4) rfl
  have e0 := (B1.blk 1 rfl).cell' (i := 0) rfl
  have D1 := B1.D
  by_cases hE0 : E = 0
  · subst hE0
    have hB64 := hrl rfl
    go_upto_region 38 with (first
                  | (go_at_call 10; (with_reducible refine (PK _).mono ?_); rintro e w2 ⟨rfl, rfl⟩)
                  | (go_at_call 10; (with_reducible refine (PN _).mono ?_); rintro e w2 ⟨rfl, rfl⟩)
                  | (go_at_call 58; (with_reducible refine (RD _ D1).mono ?_); rintro e w2 ⟨ra, rfl, hoa, hna, hP2, hm2⟩; obtain ⟨aoa, capa, rfl, _, _⟩ := Ob.frn hoa hB64; have B2 := B1.rd hP2 hm2; have e2 := (B2.blk 1 rfl).cell' (i := 2) rfl; have E2 := B2.E)
                  | (go_at_call 59; (with_reducible refine (RQ _ E2).mono ?_); rintro e w3 ⟨rb, rfl, hob, hnb, hP3, hm3⟩; obtain ⟨aob, capb, rfl, _, _⟩ := Ob.frn hob hB64; have B3 := B2.rr hP3 hm3; have hoa3 := Ow.mod hoa hm3 (fun y hy hh => by have e : y = P := (by simpa using hh); have h1 := hna y hy; have h2 := B1.E.lt1 P List.mem_cons_self; omega); have hA3 : Bs w3 (.slice aoa 64 capa) Bd := Ob.bs hoa3; have hB3 : Bs w3 (.slice aob 64 capb) Bd := Ob.bs hob)
                  | (go_at_call 15; (with_reducible refine (SB _ _ _ hA3 hB3).mono ?_); rintro e w4 ⟨rfl, hm4⟩))
    obtain ⟨gb, rest, rfl, hBb, _, hcb1, hcb2⟩ := Ob.blk hoa3 (by omega)
    have hgbw : w1.heap.size ≤ gb := hna gb (by simp [blks])
    obtain ⟨xk, hxk⟩ : ∃ xk, Bd[I]? = some xk := ⟨_, List.getElem?_eq_getElem (by omega)⟩
    have hc2 : 2 ^ J % 256 < 256 := Nat.mod_lt _ (by omega)
    obtain ⟨yk, hyk⟩ : ∃ y, y = UInt8.ofNat (xk.toNat ^^^ (2 ^ J % 256)) := ⟨_, rfl⟩
    have hyn : yk.toNat = xk.toNat ^^^ (2 ^ J % 256) := by rw [hyk, UInt8.toNat_ofNat']; exact Nat.mod_eq_of_lt (Nat.xor_lt_two_pow (n := 8) xk.toNat_lt hc2)
    have hX : bits .xor .u8 (xk.toNat : Int) ((2 : Int) ^ J % 256) = ((yk.toNat : Nat) : Int) := by
      have e : ((2 : Int) ^ J % 256) = ((2 ^ J % 256 : Nat) : Int) := by push_cast; rfl
      rw [e, xor8b _ _ xk.toNat_lt hc2, hyn]
    clear hyn hyk hc2
    have HX := Lib.hid hxk
    have HB := Lib.hid hB64
    clear hxk hB64 hrl hA3 hB3 hoa hob
    refine wp_region_T [⟨0, true, []⟩, ⟨1, true, []⟩, ⟨2, true, []⟩, ⟨6, true, []⟩, ⟨7, true, []⟩, ⟨3, false, [7]⟩, ⟨4, true, []⟩, ⟨5, true, []⟩, ⟨8, false, [5]⟩, ⟨9, true, []⟩, ⟨10, true, []⟩, ⟨11, true, []⟩, ⟨12, false, []⟩] (by kernel_rfl) (by kernel_rfl) ?_
    have hm5 := Mod.drew [] w4
    obtain ⟨w5, hx5⟩ : ∃ x, x = w4.drew := ⟨_, rfl⟩
    rw [← hx5] at hm5 ⊢
    clear hx5
    have B5 := (B3.ext hm4).ext hm5
    have hBx := (hBb.ext hm4).ext hm5
    have cb := hBx.cell' (i := I) (u := .int .u8 (xk.toNat : Nat)) (by rw [List.getElem?_append_left (by rw [bv_length, HB.out]; omega)]; simp [bv, HX.out])
    have d2 := (B5.blk 0 rfl).cell' (i := 2) rfl
    have d1 := (B5.blk 0 rfl).cell' (i := 1) rfl
    iterate 5 (refine wpT_n rfl rfl (fun K hK => ?_); go_wp2_with fail)
    refine wpT_callh rfl rfl (fun K hK => ?_)
    go_wp2_with (go_at_call 10; (with_reducible refine (PX _).mono ?_); rintro e w6 ⟨rfl, rfl⟩)
    refine ⟨agains_same, ?_⟩
    iterate 2 (refine wpT_n rfl rfl (fun K hK => ?_); go_wp2_with fail)
    refine wpT_callh rfl rfl (fun K hK => ?_)
    go_wp2_with (go_at_call 10; (with_reducible refine (PJ _).mono ?_); rintro e w6 ⟨rfl, rfl⟩)
    refine ⟨agains_same, ?_⟩
    iterate 3 (refine wpT_n rfl rfl (fun K hK => ?_); go_wp2_with fail)
    refine wpT_e0 rfl rfl (fun K hK => ?_)
    refine wp_store1 (by kernel_rfl) (by rfl) (u := .int .u8 (yk.toNat : Nat)) (by first | rfl | exact congrArg (Value.int .u8) hX) ⟨rfl, rfl⟩ hBx (by rw [List.length_append, bv_length, HB.out]; omega) ?_
    intro w6 hm6 hB6
    refine hK _ _ ?_
    clear hK K
    rw [bv_set _ _ _ _ (by rw [HB.out]; omega)] at hB6
    have hl6 : (Bd.set I yk).length = 64 := by rw [List.length_set]; exact HB.out
    obtain ⟨Be, hBe⟩ : ∃ B, B = Bd.set I yk := ⟨_, rfl⟩
    rw [← hBe] at hB6 hl6
    have o1 : gb ∉ p :: L := fun hh => by have := B1.D.lt0 gb hh; omega
    have o2 : gb ∉ P :: M := fun hh => by have := B1.E.lt1 gb hh; omega
    have o3 : W.heap.size ≤ gb := by have := B1.m.size; omega
    have B6 := (B5.drop hm6 o1 o2 (B1.young hgbw) o3).add o3 o1 o2 hB6
    have hbsg : ∀ {w : World}, Blk w gb 5 (bv Be ++ rest) → Bs w (.slice (some ⟨gb, 0, none⟩) 64 capa) Be := fun h => hl6 ▸ Bs.of_blk (c := capa) h (by omega) (by omega)
    have hVn : V.n ≤ 1000000 := by omega
    have hVr : V.m.row.length ≤ 1000000 := by rw [hmm]; omega
    have WR := fun w bw hD hb hbp => pWrite_any p q V L A Be bw w hD hb hbp hVn hVr
    have WQ := fun w bw hE hb hbp => qWrite_any P Q V M A Be bw w hE hb hbp hVn hVr
    obtain ⟨E3, hE3⟩ : ∃ E : Int, E = V.e (writeE V.m A Be.length) := ⟨_, rfl⟩
    rw [← hE3] at WR WQ
    have CP := fun v w h => copy_any Be v w h (by omega)
    obtain ⟨q1, q2, q3, q4⟩ := wr_sz V A Be
    obtain ⟨V3, hV3⟩ : ∃ V', V' = V.wr A Be := ⟨_, rfl⟩
    rw [← hV3] at WR WQ q1 q2 q3 q4
    rw [hmm] at q1 q2 q3
    clear hE3 hV3 hBe cb d1 d2 hBx hBb hB6 hX
    refine wpT_nil ?_
    go_wp2_with fail
    refine wp_region_T [⟨0, true, []⟩, ⟨1, true, []⟩, ⟨2, true, []⟩, ⟨3, true, []⟩, ⟨4, true, []⟩, ⟨5, true, []⟩, ⟨8, true, []⟩, ⟨9, true, []⟩, ⟨10, true, []⟩, ⟨11, true, []⟩, ⟨12, true, []⟩, ⟨13, true, []⟩, ⟨6, false, [1, 3, 9, 11]⟩, ⟨7, false, [9, 11]⟩, ⟨14, false, []⟩, ⟨15, true, []⟩, ⟨16, true, []⟩] (by kernel_rfl) (by kernel_rfl) ?_
    have hm7 := Mod.drew [] w6
    obtain ⟨w7, hx7⟩ : ∃ x, x = w6.drew := ⟨_, rfl⟩
    rw [← hx7] at hm7 ⊢
    clear hx7
    have B7 := B6.ext hm7
    have e0 := (B7.blk 2 rfl).cell' (i := 0) rfl
    have e2 := (B7.blk 2 rfl).cell' (i := 2) rfl
    have hb7 := hbsg (B7.blk 0 rfl)
    iterate 12 (refine wpT_n rfl rfl (fun K hK => ?_); go_wp2_with fail)
    refine wpT_callh rfl rfl (fun K hK => ?_)
    go_wp2_with (go_at_call 13; (with_reducible refine (CP _ _ hb7).mono ?_); rintro e w8 ⟨cv, rfl, hoc, hnc, hm8⟩; obtain ⟨aoc, capc, rfl, _, _⟩ := Ob.frn hoc hl6)
    refine ⟨(agains_cons rfl (again_const (fun _ => rfl)) (agains_cons rfl (again_load rfl rfl (hm8.block _ (B7.blk 2 rfl).lt (by simp)) (B7.blk 2 rfl).kinds) (agains_cons rfl (again_const (fun _ => rfl)) (agains_cons rfl (again_load rfl rfl (hm8.block _ (B7.blk 2 rfl).lt (by simp)) (B7.blk 2 rfl).kinds) agains_nil)))), ?_⟩
    have B8 := B7.ext hm8
    have D8 := B8.D
    have hbc := Ob.bs hoc
    have hncp : ∀ y ∈ blks (.slice aoc 64 capc), y ≠ p := fun y hy => by have h1 := hnc y hy; have h2 := B7.D.lt0 p List.mem_cons_self; omega
    refine wpT_callh rfl rfl (fun K hK => ?_)
    go_wp2_with (go_at_call 55; (with_reducible refine (WR _ _ D8 hbc hncp).mono ?_); rintro e w9 ⟨rfl, hP9⟩)
    obtain ⟨L9, B9, hm9⟩ := B8.dt hP9
    refine ⟨(agains_cons rfl (again_const (fun _ => rfl)) (agains_cons rfl (again_load rfl rfl (hm9.block _ (B8.blk 2 rfl).lt (B8.outD 2 rfl)) (B8.blk 2 rfl).kinds) agains_nil)), ?_⟩
    have E9 := B9.E
    have hb9 := hbsg (B9.blk 0 rfl)
    have hgzP : ∀ y ∈ blks (.slice (some ⟨gb, 0, none⟩) 64 capa), y ≠ P := fun y hy e => B9.outE 0 rfl (by have h1 : y = gb := List.mem_singleton.1 hy; rw [← h1, e]; exact List.mem_cons_self)
    refine wpT_call rfl rfl (fun K hK => ?_)
    go_wp2_with (go_at_call 56; (with_reducible refine (WQ _ _ E9 hb9 hgzP).mono ?_); rintro e w10 ⟨rfl, hP10⟩)
    obtain ⟨M10, B10, hm10⟩ := B9.rt hP10
    iterate 2 (refine wpT_n rfl rfl (fun K hK => ?_); go_wp2_with fail)
    refine wpT_nil ?_
    go_wp2_with fail
    go_ret
    exact ⟨V3, _, _, rfl, B10.tail.tail, q1.trans hz, q2.trans hd, by omega, by omega⟩
  · have hE0z : (E == 0) = false := by rw [beq_eq_false_iff_ne]; exact hE0
    go_wp2_with (first
                  | (go_at_call 10; (with_reducible refine (PK _).mono ?_); rintro e w2 ⟨rfl, rfl⟩)
                  | (go_at_call 10; (with_reducible refine (PN _).mono ?_); rintro e w2 ⟨rfl, rfl⟩)
                  | (go_at_call 58; (with_reducible refine (RD _ D1).mono ?_); rintro e w2 ⟨ra, rfl, hoa, hna, hP2, hm2⟩; obtain ⟨aoa, capa, rfl, _, _⟩ := hoa.sl.form; have B2 := B1.rd hP2 hm2; have e2 := (B2.blk 1 rfl).cell' (i := 2) rfl; have E2 := B2.E)
                  | (go_at_call 59; (with_reducible refine (RQ _ E2).mono ?_); rintro e w3 ⟨rb, rfl, hob, hnb, hP3, hm3⟩; obtain ⟨aob, capb, rfl, _, _⟩ := hob.sl.form; have B3 := B2.rr hP3 hm3; have hoa3 := Ow.mod hoa hm3 (fun y hy hh => by have e : y = P := (by simpa using hh); have h1 := hna y hy; have h2 := B1.E.lt1 P List.mem_cons_self; omega); have hA3 : Bs w3 (.slice aoa Bd.length capa) Bd := Ob.bs hoa3; have hB3 : Bs w3 (.slice aob Bd.length capb) Bd := Ob.bs hob)
                  | (go_at_call 15; (with_reducible refine (SB _ _ _ hA3 hB3).mono ?_); rintro e w4 ⟨rfl, hm4⟩))
    go_ret
    exact ⟨V, _, _, rfl, (B3.ext hm4).tail, by rw [hmm]; exact hz, by rw [hmm]; exact hd, by omega, by rw [hmm]; omega⟩
end Go.Proofs.YtminfegoldgjpaaGreatDoor
