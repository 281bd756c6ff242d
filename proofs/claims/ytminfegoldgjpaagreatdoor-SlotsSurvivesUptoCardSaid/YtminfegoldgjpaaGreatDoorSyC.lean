import Derived.Test.YtminfegoldgjpaaGreatDoorSyB
set_option linter.unusedVariables false
set_option linter.unusedSimpArgs false
set_option maxRecDepth 100000
namespace Go.Proofs.YtminfegoldgjpaaGreatDoor
open Go.RowKit Gw
theorem Bs.frn {w : World} {v : Value} {l : List UInt8} {n : Nat} (h : Bs w v l) (hl : l.length = n) : ∃ ao cap, v = .slice ao n cap ∧ n ≤ cap ∧ cap ≤ 9223372036854775807 := by
 subst hl; exact Sl.form h
def SSvR (w : World) (P Q : Nat) (M : List Nat) (R : Pv × Int × Hd) (e : Ending) (w' : World) : Prop := e = .returned (.tuple #[R.2.2.v, .int .i64 R.2.1]) ∧ PrP w P Q R.1 M w'
set_option maxRecDepth 1000000 in
set_option maxHeartbeats 40000000 in
theorem rsave_any (r h k P Q f0 f1 c z cov : Nat) (u : Pv) (M : List Nat) (B : List UInt8) (bw : Value) (w : World) (hS : Slr w r h k) (hP : Pr w P Q u M) (hA : Rgr w h P f0 c) (hB : Rgr w k P f1 c) (hz : u.m.sz = z) (h32 : 32 ≤ z) (hf0 : f0 + c ≤ u.m.dur.length) (hf1 : f1 + c ≤ u.m.dur.length) (hcz : c * z ≤ 65536) (hn : u.n + 9 * (c * z) + 8 ≤ 1000000) (hrow : u.m.row.length + 3 * (c * z) ≤ 1000000) (hro : r ∉ P :: M) (hho : h ∉ P :: M) (hko : k ∉ P :: M) (hbb : Bs w bw B) (hbB : ∀ x ∈ blks bw, x < w.heap.size ∧ x ∉ P :: M) (hcov : cov < 18446744073709551616) :
   Calls Tryz.prog 24 #[.pointer (some ⟨r, 0, none⟩), bw, .int .u64 (cov : Nat)] w (SSvR w P Q M (saveG f0 f1 c z u B cov)) := by
 obtain ⟨aob, capb, rfl, hcb, hcb2⟩ := hbb.form
 have hs1 := hP.ok.m.s1
 have hs2 := hP.ok.m.s2
 rw [hz] at hs1 hs2
 have hrP : r ≠ P := fun e => hro (e ▸ List.mem_cons_self)
 have hhP : h ≠ P := fun e => hho (e ▸ List.mem_cons_self)
 have hkP : k ≠ P := fun e => hko (e ▸ List.mem_cons_self)
 have BY := fun w hS hA hP => rsBytes_any r h k P Q f0 c z u M w hS hA hP hz (by omega) (by omega)
 have LD := fun w hS hP hA hB => rload_any r h k P Q f0 f1 c z u M w hS hP hA hB hz hf0 hf1 (by omega) hrP hhP hkP
 have hld := loadG_sz f0 f1 c z u
 have hlh := Blk.lt hA
 have hlk := Blk.lt hB
 have S0 := Sr.start hP
 unfold SLdR at LD
 unfold SSvR
 obtain ⟨R0, hR0⟩ : ∃ R, R = saveG f0 f1 c z u B cov := ⟨_, rfl⟩
 rw [← hR0]
 obtain ⟨CZ, hCZ⟩ : ∃ n, n = c * z := ⟨_, rfl⟩
 have hcz2 : (c : Int) * z - z = (CZ : Int) - z := by rw [hCZ]; push_cast; rfl
 have HL := fun h => hR0.trans (saveG_long (cov := cov) (f0 := f0) (f1 := f1) (v := u) h)
 rw [hcz2] at HL
 rw [← hCZ] at BY
 have yz : (z : Int) ≤ 4096 := by omega
 have yc : (CZ : Int) ≤ 65536 := by omega
 have HCZ := Lib.hid (And.intro hCZ hcz2)
 clear hcz2 hCZ
 by_cases hlong : (CZ : Int) - z < B.length
 · have HL := Lib.hid HL
   clear hR0 LD hld hcz hn hrow
   go_enter Tryz.func24, Tryz.ntmps24
   go_wp2_with (with_reducible refine st_alloc ?_)
   refine StopOp.go rfl fun K hK => ?_
   refine wp_alloc zero_header ?_
   intro g w1 hg1 hg2 hm1 hG1
   simp only [put_some, List.set_cons_succ, List.set_cons_zero]
   refine hK _ _ ?_
   clear hK K
   have S1 := S0.new (cs := [.int .u64 0, .int .u64 0, .int .i64 0, .int .u32 0]) hm1 hg1 hG1
   go_wp2_with (with_reducible refine st_alloc ?_)
   refine StopOp.go rfl fun K hK => ?_
   refine wp_alloc zero_header ?_
   intro t8 w2 h81 h82 hm2 hG2
   simp only [put_some, List.set_cons_succ, List.set_cons_zero]
   refine hK _ _ ?_
   clear hK K
   go_wp2_with (with_reducible refine st_store ?_)
   refine StopOp.go rfl fun K hK => ?_
   refine wp_store (u := .agg #[.int .u64 0, .int .u64 0, .int .i64 0, .int .u32 0]) (by rfl) (by rfl) (by kernel_rfl) hG2 (by simp [Value.cells]) (by simp [Value.cells, Value.oneCell']) ?_
   intro w3 hm3 hG3
   refine hK _ _ ?_
   clear hK K
   have S3 := (S1.new (cs := [.int .u64 0, .int .u64 0, .int .i64 0, .int .u32 0]) hm2 h81 hG2).set (i := 0) (cs' := [.int .u64 0, .int .u64 0, .int .i64 0, .int .u32 0]) rfl hm3 hG3 rfl
   clear hG1 hG2 hG3 hm1 hm2 hm3 S1
   go_wp2_with (first
                 | (with_reducible refine st_store ?_)
                 | (go_at_call 36; (with_reducible refine (BY _ (hS.mod S3.M hro) (hA.mod S3.M hho) S3.P).mono ?_); rintro e w4 ⟨rfl, hm4⟩; have S4 := S3.ext hm4; have zz0 := (S4.blk 0 rfl).cell' (i := 0) rfl; have zz1 := (S4.blk 0 rfl).cell' (i := 1) rfl; have zz2 := (S4.blk 0 rfl).cell' (i := 2) rfl; have zz3 := (S4.blk 0 rfl).cell' (i := 3) rfl))
   refine StopOp.go rfl fun K hK => ?_
   refine wp_store (u := .agg #[.int .u64 0, .int .u64 0, .int .i64 0, .int .u32 0]) (by rfl) (by rfl) (by kernel_rfl) (S4.blk 1 rfl) (by simp [Value.cells]) (by simp [Value.cells, Value.oneCell']) ?_
   intro w90 hm90 hB90
   refine hK _ _ ?_
   clear hK K
   have z0 := hB90.cell' (i := 0) rfl
   have z1 := hB90.cell' (i := 1) rfl
   have z2 := hB90.cell' (i := 2) rfl
   have z3 := hB90.cell' (i := 3) rfl
   have hfin := (S4.set (i := 1) rfl hm90 hB90 rfl).fin
   have hlaw : R0 = _ := HL.out hlong
   go_wp2_with fail
   refine bodyPost_ret (v := .tuple #[.agg #[.int .u64 0, .int .u64 0, .int .i64 0, .int .u32 0], .int .i64 3]) (by simp [results, Tryz.results24, go_sem, z0, z1, z2, z3]) rfl ?_
   rw [hlaw]
   exact ⟨rfl, hfin⟩
 have hlong' : (B.length : Int) ≤ (CZ : Int) - z := by omega
 have hBb : B.length ≤ 67108864 := by omega
 have LR := fun R (h : loadG f0 f1 c z u = R) => And.intro (fun he => hR0.trans (saveG_err (cov := cov) (b := B) (by rw [HCZ.out.2]; exact hlong) h he)) (And.intro (fun he hm => hR0.trans (saveG_full (cov := cov) (b := B) (by rw [HCZ.out.2]; exact hlong) h he hm)) (fun he hm => hR0.trans (saveG_put (cov := cov) (b := B) (by rw [HCZ.out.2]; exact hlong) h he hm)))
 obtain ⟨R, hR⟩ : ∃ R, R = loadG f0 f1 c z u := ⟨_, rfl⟩
 have LR := LR R hR.symm
 rw [← hR] at LD hld
 obtain ⟨l1, l2, l3, l4, l5⟩ := hld
 obtain ⟨V1, e1, ⟨hg, hc', hl, hs'⟩, b1, i1⟩ := R
 obtain ⟨⟨w1', w2', w3', w4'⟩, l6⟩ := l3
 unfold Hd.v at LD
 dsimp only at LD LR l1 l2 l4 l5 w1' w2' w3' w4'
 have hNdef : nextH ⟨hg, hc', hl, hs'⟩ cov B = ⟨(hg + 1) % 18446744073709551616, cov, (B.length : Nat), crcS B⟩ := rfl
 rw [hNdef] at LR
 have SU := fun w h => rsum_any B (.slice aob B.length capb) w h
 have hcr : crcS B < 4294967296 := crcS_lt B
 have hwr := nat_wrap hg (by omega)
 obtain ⟨ng, hng⟩ : ∃ n, n = (hg + 1) % 18446744073709551616 := ⟨_, rfl⟩
 obtain ⟨ns, hns⟩ : ∃ n, n = crcS B := ⟨_, rfl⟩
 rw [← hng, ← hns] at LR
 rw [← hng] at hwr
 rw [← hns] at hcr SU
 have hngb : ng < 18446744073709551616 := by omega
 have PU := fun w => rhput_any ⟨ng, cov, (B.length : Nat), ns⟩ ⟨hngb, hcov, hcr, by dsimp only; omega⟩ w
 unfold HputR Hd.v at PU
 dsimp only at PU
 have hmax : mayH ⟨ng, cov, (B.length : Nat), ns⟩ = decide (hg ≠ 18446744073709551615) := by
   unfold mayH
   by_cases hh : hg = 18446744073709551615
   · have h1 : decide (hg ≠ 18446744073709551615) = false := decide_eq_false (fun h => h hh)
     rw [h1]
     exact decide_eq_false (by first | omega | (dsimp only; omega))
   · have h1 : decide (hg ≠ 18446744073709551615) = true := decide_eq_true hh
     rw [h1]
     exact decide_eq_true (by first | omega | (dsimp only; omega))
 have yg : (hg : Int) ≤ 18446744073709551615 := by omega
 have yng : (ng : Int) ≤ 18446744073709551615 := by omega
 have yns : (ns : Int) ≤ 4294967295 := by omega
 have ycov : (cov : Int) ≤ 18446744073709551615 := by omega
 have hn00 : V1.n + 4 * (c * z) + 4 ≤ 1000000 := by omega
 have hn0 : V1.n + 2 * (c * z) ≤ 1000000 := by omega
 have hz0 : V1.m.sz = z := by rw [l1]; exact hz
 have hrow00 : V1.m.row.length + 3 * (c * z) ≤ 1000000 := by rw [l1]; omega
 have hrow0 : V1.m.row.length + c * z ≤ 1000000 := by omega
 have HLR := Lib.hid LR
 have HWR := Lib.hid hwr
 have HMX := Lib.hid hmax
 clear LR hR hR0 HL l4 l6 hNdef hng hns hn w1' w2' w3' w4' hwr hngb hcov hcr hmax
 go_enter Tryz.func24, Tryz.ntmps24
 go_wp2_with (with_reducible refine st_alloc ?_)
 refine StopOp.go rfl fun K hK => ?_
 refine wp_alloc zero_header ?_
 intro g w1 hg1 hg2 hm1 hG1
 simp only [put_some, List.set_cons_succ, List.set_cons_zero]
 refine hK _ _ ?_
 clear hK K
 have S1 := S0.new (cs := [.int .u64 0, .int .u64 0, .int .i64 0, .int .u32 0]) hm1 hg1 hG1
 go_wp2_with (with_reducible refine st_alloc ?_)
 refine StopOp.go rfl fun K hK => ?_
 refine wp_alloc zero_header ?_
 intro t8 w2 h81 h82 hm2 hG2
 simp only [put_some, List.set_cons_succ, List.set_cons_zero]
 refine hK _ _ ?_
 clear hK K
 go_wp2_with (with_reducible refine st_store ?_)
 refine StopOp.go rfl fun K hK => ?_
 refine wp_store (u := .agg #[.int .u64 0, .int .u64 0, .int .i64 0, .int .u32 0]) (by rfl) (by rfl) (by kernel_rfl) hG2 (by simp [Value.cells]) (by simp [Value.cells, Value.oneCell']) ?_
 intro w3 hm3 hG3
 refine hK _ _ ?_
 clear hK K
 have S3 := (S1.new (cs := [.int .u64 0, .int .u64 0, .int .i64 0, .int .u32 0]) hm2 h81 hG2).set (i := 0) (cs' := [.int .u64 0, .int .u64 0, .int .i64 0, .int .u32 0]) rfl hm3 hG3 rfl
 clear hG1 hG2 hG3 hm1 hm2 hm3 S1
 go_wp2_with (first
               | (with_reducible refine st_alloc ?_)
               | (go_at_call 36; (with_reducible refine (BY _ (hS.mod S3.M hro) (hA.mod S3.M hho) S3.P).mono ?_); rintro e w4 ⟨rfl, hm4⟩; have S4 := S3.ext hm4)
               | (go_at_call 21; (with_reducible refine (LD _ (hS.mod S4.M hro) S4.P (hA.mod S4.M hho) (hB.mod S4.M hko)).mono ?_); rintro e w5 ⟨lbw, rfl, hob5, hnw5, hP5, hm5⟩; obtain ⟨aol, capl, rfl, _, _⟩ := hob5.sl.form))
 have S5 := S4.rd hm5 hP5
 refine StopOp.go rfl fun K hK => ?_
 refine wp_alloc zero_header ?_
 intro t9 w8 h91 h92 hm8 hB8
 simp only [put_some, List.set_cons_succ, List.set_cons_zero]
 refine hK _ _ ?_
 clear hK K
 go_wp2_with (with_reducible refine st_store ?_)
 refine StopOp.go rfl fun K hK => ?_
 refine wp_store (u := .agg #[.int .u64 (hg : Nat), .int .u64 (hc' : Nat), .int .i64 hl, .int .u32 (hs' : Nat)]) (by rfl) (by rfl) (by kernel_rfl) hB8 (by simp [Value.cells]) (by simp [Value.cells, Value.oneCell']) ?_
 intro w9 hm9 hB9
 refine hK _ _ ?_
 clear hK K
 have S9 := (S5.new (cs := [.int .u64 0, .int .u64 0, .int .i64 0, .int .u32 0]) hm8 h91 hB8).set (i := 0) (cs' := [.int .u64 (hg : Nat), .int .u64 (hc' : Nat), .int .i64 hl, .int .u32 (hs' : Nat)]) rfl hm9 hB9 rfl
 clear hB8 hB9 hm8 hm9 S5 S4 S3 hm4 hm5 hP5
 have q0 := (S9.blk 1 rfl).cell' (i := 0) rfl
 have q1 := (S9.blk 1 rfl).cell' (i := 1) rfl
 have q2 := (S9.blk 1 rfl).cell' (i := 2) rfl
 have q3 := (S9.blk 1 rfl).cell' (i := 3) rfl
 have k9 := (S9.blk 0 rfl).cell' (i := 0) rfl
 by_cases he1 : e1 = 0
 · subst he1
   by_cases hgm : hg = 18446744073709551615
   · have hmy : mayH ⟨ng, cov, (B.length : Nat), ns⟩ = false := by rw [HMX.out]; exact decide_eq_false (fun h => h hgm)
     have dgm : ((hg : Int) == 18446744073709551615) = true := by rw [hgm]; rfl
     have hlw := HLR.out.2.1 (by first | exact trivial | rfl) hmy
     clear hgm
     go_wp2_with (with_reducible refine st_store ?_)
     refine StopOp.go rfl fun K hK => ?_
     refine wp_store (u := .agg #[.int .u64 0, .int .u64 0, .int .i64 0, .int .u32 0]) (by rfl) (by rfl) (by kernel_rfl) (S9.blk 2 rfl) (by simp [Value.cells]) (by simp [Value.cells, Value.oneCell']) ?_
     intro w90 hm90 hB90
     refine hK _ _ ?_
     clear hK K
     have z0 := hB90.cell' (i := 0) rfl
     have z1 := hB90.cell' (i := 1) rfl
     have z2 := hB90.cell' (i := 2) rfl
     have z3 := hB90.cell' (i := 3) rfl
     have hfin := (S9.set (i := 2) rfl hm90 hB90 rfl).fin
     have hlaw : R0 = _ := hlw
     go_wp2_with fail
     refine bodyPost_ret (v := .tuple #[.agg #[.int .u64 0, .int .u64 0, .int .i64 0, .int .u32 0], .int .i64 6]) (by simp [results, Tryz.results24, go_sem, z0, z1, z2, z3]) rfl ?_
     rw [hlaw]
     exact ⟨rfl, hfin⟩
   · have hmy : mayH ⟨ng, cov, (B.length : Nat), ns⟩ = true := by rw [HMX.out]; exact decide_eq_true hgm
     have dgm : ((hg : Int) == 18446744073709551615) = false := by rw [beq_eq_false_iff_ne]; omega
     have hput := HLR.out.2.2 (by first | exact trivial | rfl) hmy
     have hpe : putE ⟨ng, cov, (B.length : Nat), ns⟩ = 0 := by unfold putE; rw [hmy]; rfl
     have hpb : putB ⟨ng, cov, (B.length : Nat), ns⟩ = hdr ⟨ng, cov, (B.length : Nat), ns⟩ := by unfold putB; rw [hmy]; rfl
     rw [hpe, hpb] at PU
     have hS9 : Slr w9 r h k := hS.mod S9.M hro
     by_cases hi0 : i1 = 0
     · subst hi0
       rw [if_pos rfl] at hput
       have SLT := fun w H => rslot1 r h k w H
       have hdu0 : f1 + c ≤ V1.m.dur.length := by rw [l1]; exact hf1
       go_upto_region 13 with (go_at_call 74; (with_reducible refine (SLT _ hS9).mono ?_); rintro e w9' ⟨rfl, rfl⟩)
       go_cut [15] (fun u wx => ∃ n, u = .pointer (some ⟨n, 0, none⟩) ∧ Mod [] w9 wx ∧ w9.heap.size ≤ n ∧ Blk wx n 25 [.int .u64 (ng : Nat), .int .u64 (cov : Nat), .int .i64 (B.length : Nat), .int .u32 (ns : Nat)])
       case first =>
         have hwr := HWR.out
         have hK5 := S9.blk 0 rfl
         have hb5 := Bs.md hbb S9.M (fun x hx => (hbB x hx).2)
         refine wp_region_T2 7 9 [⟨0, true, []⟩, ⟨1, true, []⟩, ⟨2, true, []⟩, ⟨3, true, []⟩, ⟨4, true, []⟩, ⟨5, true, []⟩, ⟨6, true, []⟩, ⟨7, false, [1, 2, 5]⟩, ⟨8, true, []⟩, ⟨9, false, [1, 2, 5, 8]⟩, ⟨10, false, []⟩] [⟨0, true, []⟩, ⟨1, true, []⟩, ⟨2, true, []⟩, ⟨3, true, []⟩, ⟨4, true, []⟩, ⟨5, true, []⟩, ⟨6, true, []⟩, ⟨9, false, [1, 2, 5]⟩, ⟨7, false, [1, 2, 5]⟩, ⟨8, true, []⟩, ⟨10, false, []⟩] (by kernel_rfl) (by kernel_rfl) (by kernel_rfl) (by kernel_rfl) (by kernel_rfl) ?_ ?_
         all_goals have hmD := Mod.drew [] w9
         all_goals obtain ⟨x, hx⟩ : ∃ x, x = w9.drew := ⟨_, rfl⟩
         all_goals rw [← hx] at hmD ⊢
         all_goals clear hx
         all_goals have hKx := hK5.ext hmD
         all_goals have hbx := hb5.ext hmD
         all_goals have k0 := hKx.cell' (i := 0) rfl
         · iterate 7 (refine wpT_n rfl rfl (fun K hK => ?_); go_wp2_with fail)
           refine wpT_callh rfl rfl (fun K hK => ?_)
           go_wp2_with (go_at_call 26; (with_reducible refine (SU _ hbx).mono ?_); rintro e wz ⟨rfl, hwz⟩; obtain rfl := hwz)
           refine ⟨agains_same, ?_⟩
           refine wpT_n rfl rfl (fun K hK => ?_)
           go_wp2_with fail
           refine wpT_e rfl rfl (fun K hK => ?_)
           refine wp_alloc zero_header ?_
           intro n w6 hn1 hn2 hm6 hB6
           simp only [put_some, List.set_cons_succ, List.set_cons_zero]
           refine hK _ _ ⟨agains_cons rfl (again_load rfl rfl (hm6.block t9 hKx.lt (by simp)) hKx.kinds) (agains_cons rfl (again_const (fun _ => rfl)) (agains_cons rfl (again_len rfl (by rfl) (by kernel_rfl)) (agains_cons rfl (again_build rfl) agains_nil))), ?_⟩
           clear hK K
           refine wpT_e0 rfl rfl (fun K hK => ?_)
           refine wp_store (u := .agg #[.int .u64 (ng : Nat), .int .u64 (cov : Nat), .int .i64 (B.length : Nat), .int .u32 (ns : Nat)]) (by rfl) (by rfl) (by kernel_rfl) hB6 (by simp [Value.cells]) (by simp [Value.cells, Value.oneCell']) ?_
           intro w7 hm7 hB7
           refine hK _ _ ?_
           clear hK K
           refine wpT_nil ?_
           go_wp2_with fail
           go_meet
           exact ⟨n, rfl, (hmD.ext hm6).then hm7 (fun h hh => .inr (by have e : h = n := (by simpa using hh); have := hmD.size; omega)), by have := hmD.size; omega, hB7⟩
         · iterate 7 (refine wpT_n rfl rfl (fun K hK => ?_); go_wp2_with fail)
           refine wpT_e rfl rfl (fun K hK => ?_)
           refine wp_alloc zero_header ?_
           intro n w6 hn1 hn2 hm6 hB6
           simp only [put_some, List.set_cons_succ, List.set_cons_zero]
           refine hK _ _ ⟨agains_cons rfl (again_load rfl rfl (hm6.block t9 hKx.lt (by simp)) hKx.kinds) (agains_cons rfl (again_const (fun _ => rfl)) (agains_cons rfl (again_len rfl (by rfl) (by kernel_rfl)) agains_nil)), ?_⟩
           clear hK K
           refine wpT_callh rfl rfl (fun K hK => ?_)
           go_wp2_with (go_at_call 26; (with_reducible refine (SU _ (hbx.ext hm6)).mono ?_); rintro e wz ⟨rfl, hwz⟩; obtain rfl := hwz)
           refine ⟨agains_same, ?_⟩
           refine wpT_n rfl rfl (fun K hK => ?_)
           go_wp2_with fail
           refine wpT_e0 rfl rfl (fun K hK => ?_)
           refine wp_store (u := .agg #[.int .u64 (ng : Nat), .int .u64 (cov : Nat), .int .i64 (B.length : Nat), .int .u32 (ns : Nat)]) (by rfl) (by rfl) (by kernel_rfl) hB6 (by simp [Value.cells]) (by simp [Value.cells, Value.oneCell']) ?_
           intro w7 hm7 hB7
           refine hK _ _ ?_
           clear hK K
           refine wpT_nil ?_
           go_wp2_with fail
           go_meet
           exact ⟨n, rfl, (hmD.ext hm6).then hm7 (fun h hh => .inr (by have e : h = n := (by simpa using hh); have := hmD.size; omega)), by have := hmD.size; omega, hB7⟩
       case rest =>
       obtain ⟨n, rfl, hm10, hn10, hN10⟩ := hcut
       have SA := S9.new hm10 hn10 hN10
       clear hN10
       have RA := hB.mod SA.M hko
       have p0 := Blk.cell' RA (i := 0) rfl
       have PA := SA.P
       have SIA := fun w h => qSize_any P Q V1 M w h
       simp only [hz0] at SIA
       have WR0 := hWrite_any k P Q f1 c z V1 _ (z : Nat) B (.slice aob B.length capb) _ SA.P (hB.mod SA.M hko) (Bs.md hbb SA.M (fun x hx => (hbB x hx).2)) hz0 hdu0 hn0 hrow0 ⟨by omega, by omega⟩ (SA.old hlk hko) (fun _ x hx => ⟨Nat.lt_of_lt_of_le (hbB x hx).1 SA.M.size, SA.old (hbB x hx).1 (hbB x hx).2⟩)
       unfold HWrP at WR0
       have hws := wrA_sz f1 c z V1 (z : Nat) B
       obtain ⟨⟨Va0, Ea0⟩, hW0⟩ : ∃ R, R = wrA f1 c z V1 (z : Nat) B := ⟨_, rfl⟩
       rw [← hW0] at WR0 hws
       dsimp only at WR0 hws
       obtain ⟨q1, q2, q3, q4⟩ := hws
       obtain ⟨q5, q6, q7, q8⟩ := sy_sz Va0
       have hzs0 : Va0.sy.m.sz = z := by rw [q5, q1]; exact hz0
       have hdz0 : Va0.m.sz = z := by rw [q1]; exact hz0
       have hns0 : Va0.n ≤ 1000000 := by omega
       have hrs0 : Va0.m.row.length ≤ 1000000 := by omega
       have hWW0 := Lib.hid hW0
       clear hW0
       have hdu1 : f1 + c ≤ Va0.sy.m.dur.length := by rw [q6, q2]; exact hdu0
       have hn1 : Va0.sy.n + 2 * (c * z) ≤ 1000000 := by omega
       have hrow1 : Va0.sy.m.row.length + c * z ≤ 1000000 := by omega
       have hz1 := hzs0
       clear q1 q2 q3 q4 q5 q6 q7 q8
       by_cases hEa0 : Ea0 = 0
       · subst hEa0
         have SY0 := fun M' w (hR : Rgr w k P f1 c) (hP : Pr w P Q Va0 M') => hSync_any k P Q f1 c Va0 M' w hR hP hns0 hrs0
         obtain ⟨Es0, hEs0⟩ : ∃ E, E = Va0.e 0 := ⟨_, rfl⟩
         rw [← hEs0] at SY0
         have HES0 := Lib.hid hEs0
         clear hEs0
         by_cases hes0 : Es0 = 0
         · subst hes0
           have SID := fun M' w h => qSize_any P Q Va0.sy M' w h
           simp only [hz1] at SID
           go_wp2_with (first
                         | (with_reducible refine st_make ?_)
                         | (go_at_call 76; (with_reducible refine (SIA _ PA).mono ?_); rintro e wsz ⟨rfl, rfl⟩)
                         | (go_at_call 75; (with_reducible refine (WR0).mono ?_); rintro e wc0 ⟨rfl, hqc0⟩; obtain ⟨Mc0, SC0⟩ := SA.wr hqc0; have zz0 := (SC0.blk 2 rfl).cell' (i := 0) rfl; have zz1 := (SC0.blk 2 rfl).cell' (i := 1) rfl; have zz2 := (SC0.blk 2 rfl).cell' (i := 2) rfl; have zz3 := (SC0.blk 2 rfl).cell' (i := 3) rfl; have RC0 := hB.mod SC0.M hko; have PC0 := SC0.P)
                         | (go_at_call 77; (with_reducible refine (SY0 _ _ RC0 PC0).mono ?_); rintro e wd0 ⟨rfl, hqd0⟩; obtain ⟨Md0, SD0⟩ := SC0.wr hqd0; have zd0 := (SD0.blk 2 rfl).cell' (i := 0) rfl; have zd1 := (SD0.blk 2 rfl).cell' (i := 1) rfl; have zd2 := (SD0.blk 2 rfl).cell' (i := 2) rfl; have zd3 := (SD0.blk 2 rfl).cell' (i := 3) rfl; have RD0 := hB.mod SD0.M hko; have PD0 := SD0.P; have pd0 := Blk.cell' RD0 (i := 0) rfl)
                         | (go_at_call 76; (with_reducible refine (SID _ _ PD0).mono ?_); rintro e wsz ⟨rfl, rfl⟩))
           refine StopOp.go rfl fun K hK => ?_
           refine wp_make (nl := z) (nc := z) stB (by rfl) (by rfl) rfl rfl (Nat.le_refl _) (by omega) (by omega) ?_
           intro sec w11 hs11 hs12 hm11 hB11
           simp only [put_some, List.set_cons_succ, List.set_cons_zero]
           refine hK _ _ ?_
           clear hK K
           have hB11' : Blk w11 sec 5 (bv (zeros z)) := by rw [bv_zeros]; simpa [Value.cells] using hB11
           have SE := SD0.new hm11 hs11 hB11'
           have n0 := (SE.blk 1 rfl).cell' (i := 0) rfl
           have n1 := (SE.blk 1 rfl).cell' (i := 1) rfl
           have n2 := (SE.blk 1 rfl).cell' (i := 2) rfl
           have n3 := (SE.blk 1 rfl).cell' (i := 3) rfl
           go_wp2_with (first
                         | (with_reducible refine st_copy ?_)
                         | (go_at_call 57; (with_reducible refine (PU _).mono ?_); rintro e w12 ⟨hvv, rfl, hoh, hnh, hlth, hm12⟩; obtain ⟨aoh, caph, rfl, _, _⟩ := Bs.frn hoh (hdr_len _)))
           have SF := SE.ext hm12
           have hsrc := Bs.onn hoh (hdr_len _)
           refine StopOp.go rfl fun K hK => ?_
           refine wp_copy_head (rest := []) 32 (cap := z) (n := z) (m := 32) (by omega) Tryz.underlying39 (by kernel_rfl) (by rfl) (by rfl) (by simpa using SF.blk 0 rfl) (by rw [bv_length]; simp [zeros]) hsrc (bv_one _) ?_
           intro w13 hB13 hm13
           simp only [put_some, List.set_cons_succ, List.set_cons_zero]
           refine hK _ _ ?_
           clear hK K
           have hB13' : Blk w13 sec 5 (bv (secH z ⟨ng, cov, (B.length : Nat), ns⟩)) := by rw [← bv_sec z h32]; simpa using hB13
           have SG := SF.set (i := 0) rfl hm13 hB13' rfl
           clear hB11 hB13 hsrc n0 n1 n2 n3 SE SF
           have hsb : Bs w13 (.slice (some ⟨sec, 0, none⟩) z z) (secH z ⟨ng, cov, (B.length : Nat), ns⟩) := Bs.onz (Bs.of_blk (rest := []) (by simpa using SG.blk 0 rfl) (by rw [sec_len h32]; exact Nat.le_refl _) (by omega)) (sec_len h32 _)
           have WR1 := hWrite_any k P Q f1 c z Va0.sy _ 0 (secH z ⟨ng, cov, (B.length : Nat), ns⟩) (.slice (some ⟨sec, 0, none⟩) z z) w13 SG.P (hB.mod SG.M hko) hsb hz1 hdu1 hn1 hrow1 ⟨by omega, by omega⟩ (SG.old hlk hko) (fun _ x hx => by have e : x = sec := (by simpa [blks] using hx); subst e; exact ⟨(SG.blk 0 rfl).lt, SG.out 0 rfl⟩)
           unfold HWrP at WR1
           have hws := wrA_sz f1 c z Va0.sy 0 (secH z ⟨ng, cov, (B.length : Nat), ns⟩)
           obtain ⟨⟨Va1, Ea1⟩, hW1⟩ : ∃ R, R = wrA f1 c z Va0.sy 0 (secH z ⟨ng, cov, (B.length : Nat), ns⟩) := ⟨_, rfl⟩
           rw [← hW1] at WR1 hws
           dsimp only at WR1 hws
           obtain ⟨q1, q2, q3, q4⟩ := hws
           obtain ⟨q5, q6, q7, q8⟩ := sy_sz Va1
           have hzs1 : Va1.sy.m.sz = z := by rw [q5, q1]; exact hz1
           have hdz1 : Va1.m.sz = z := by rw [q1]; exact hz1
           have hns1 : Va1.n ≤ 1000000 := by omega
           have hrs1 : Va1.m.row.length ≤ 1000000 := by omega
           have hWW1 := Lib.hid hW1
           clear hW1
           clear q1 q2 q3 q4 q5 q6 q7 q8
           by_cases hEa1 : Ea1 = 0
           · subst hEa1
             have SY1 := fun M' w (hR : Rgr w k P f1 c) (hP : Pr w P Q Va1 M') => hSync_any k P Q f1 c Va1 M' w hR hP hns1 hrs1
             obtain ⟨Es1, hEs1⟩ : ∃ E, E = Va1.e 0 := ⟨_, rfl⟩
             rw [← hEs1] at SY1
             have HES1 := Lib.hid hEs1
             clear hEs1
             by_cases hes1 : Es1 = 0
             · subst hes1
               go_wp2_with (first
                             | (with_reducible refine st_store ?_)
                             | (go_at_call 75; (with_reducible refine (WR1).mono ?_); rintro e wc1 ⟨rfl, hqc1⟩; obtain ⟨Mc1, SC1⟩ := SG.wr hqc1; have zz0 := (SC1.blk 3 rfl).cell' (i := 0) rfl; have zz1 := (SC1.blk 3 rfl).cell' (i := 1) rfl; have zz2 := (SC1.blk 3 rfl).cell' (i := 2) rfl; have zz3 := (SC1.blk 3 rfl).cell' (i := 3) rfl; have RC1 := hB.mod SC1.M hko; have PC1 := SC1.P)
                             | (go_at_call 77; (with_reducible refine (SY1 _ _ RC1 PC1).mono ?_); rintro e wd1 ⟨rfl, hqd1⟩; obtain ⟨Md1, SD1⟩ := SC1.wr hqd1; have zd0 := (SD1.blk 3 rfl).cell' (i := 0) rfl; have zd1 := (SD1.blk 3 rfl).cell' (i := 1) rfl; have zd2 := (SD1.blk 3 rfl).cell' (i := 2) rfl; have zd3 := (SD1.blk 3 rfl).cell' (i := 3) rfl; have nd0 := (SD1.blk 1 rfl).cell' (i := 0) rfl; have nd1 := (SD1.blk 1 rfl).cell' (i := 1) rfl; have nd2 := (SD1.blk 1 rfl).cell' (i := 2) rfl; have nd3 := (SD1.blk 1 rfl).cell' (i := 3) rfl))
               refine StopOp.go rfl fun K hK => ?_
               refine wp_store (u := .agg #[.int .u64 (ng : Nat), .int .u64 (cov : Nat), .int .i64 (B.length : Nat), .int .u32 (ns : Nat)]) (by rfl) (by rfl) (by kernel_rfl) (SD1.blk 4 rfl) (by simp [Value.cells]) (by simp [Value.cells, Value.oneCell']) ?_
               intro w90 hm90 hB90
               refine hK _ _ ?_
               clear hK K
               have z0 := hB90.cell' (i := 0) rfl
               have z1 := hB90.cell' (i := 1) rfl
               have z2 := hB90.cell' (i := 2) rfl
               have z3 := hB90.cell' (i := 3) rfl
               have hfin := (SD1.set (i := 4) rfl hm90 hB90 rfl).fin
               have hlaw : R0 = _ := (hput.trans (saveP_q hWW0.out.symm HES0.out.symm)).trans (saveQ_y hWW1.out.symm HES1.out.symm)
               go_wp2_with fail
               refine bodyPost_ret (v := .tuple #[.agg #[.int .u64 (ng : Nat), .int .u64 (cov : Nat), .int .i64 (B.length : Nat), .int .u32 (ns : Nat)], .int .i64 0]) (by simp [results, Tryz.results24, go_sem, z0, z1, z2, z3]) rfl ?_
               rw [hlaw]
               exact ⟨rfl, hfin⟩
             · have des1 : (Es1 != 0) = true := bne_iff_ne.2 hes1
               go_wp2_with (first
                             | (with_reducible refine st_store ?_)
                             | (go_at_call 75; (with_reducible refine (WR1).mono ?_); rintro e wc1 ⟨rfl, hqc1⟩; obtain ⟨Mc1, SC1⟩ := SG.wr hqc1; have zz0 := (SC1.blk 3 rfl).cell' (i := 0) rfl; have zz1 := (SC1.blk 3 rfl).cell' (i := 1) rfl; have zz2 := (SC1.blk 3 rfl).cell' (i := 2) rfl; have zz3 := (SC1.blk 3 rfl).cell' (i := 3) rfl; have RC1 := hB.mod SC1.M hko; have PC1 := SC1.P)
                             | (go_at_call 77; (with_reducible refine (SY1 _ _ RC1 PC1).mono ?_); rintro e wd1 ⟨rfl, hqd1⟩; obtain ⟨Md1, SD1⟩ := SC1.wr hqd1; have zd0 := (SD1.blk 3 rfl).cell' (i := 0) rfl; have zd1 := (SD1.blk 3 rfl).cell' (i := 1) rfl; have zd2 := (SD1.blk 3 rfl).cell' (i := 2) rfl; have zd3 := (SD1.blk 3 rfl).cell' (i := 3) rfl; have nd0 := (SD1.blk 1 rfl).cell' (i := 0) rfl; have nd1 := (SD1.blk 1 rfl).cell' (i := 1) rfl; have nd2 := (SD1.blk 1 rfl).cell' (i := 2) rfl; have nd3 := (SD1.blk 1 rfl).cell' (i := 3) rfl))
               refine StopOp.go rfl fun K hK => ?_
               refine wp_store (u := .agg #[.int .u64 0, .int .u64 0, .int .i64 0, .int .u32 0]) (by rfl) (by rfl) (by kernel_rfl) (SD1.blk 4 rfl) (by simp [Value.cells]) (by simp [Value.cells, Value.oneCell']) ?_
               intro w90 hm90 hB90
               refine hK _ _ ?_
               clear hK K
               have z0 := hB90.cell' (i := 0) rfl
               have z1 := hB90.cell' (i := 1) rfl
               have z2 := hB90.cell' (i := 2) rfl
               have z3 := hB90.cell' (i := 3) rfl
               have hfin := (SD1.set (i := 4) rfl hm90 hB90 rfl).fin
               have hlaw : R0 = (Va1.sy, Es1, hd0) := (hput.trans (saveP_q hWW0.out.symm HES0.out.symm)).trans (by rw [HES1.out]; exact saveQ_s hWW1.out.symm (by rw [← HES1.out]; exact hes1))
               go_wp2_with fail
               refine bodyPost_ret (v := .tuple #[.agg #[.int .u64 0, .int .u64 0, .int .i64 0, .int .u32 0], .int .i64 Es1]) (by simp [results, Tryz.results24, go_sem, z0, z1, z2, z3]) rfl ?_
               rw [hlaw]
               exact ⟨rfl, hfin⟩
           · have dea1 : (Ea1 != 0) = true := bne_iff_ne.2 hEa1
             go_wp2_with (first
                           | (with_reducible refine st_store ?_)
                           | (go_at_call 75; (with_reducible refine (WR1).mono ?_); rintro e wc1 ⟨rfl, hqc1⟩; obtain ⟨Mc1, SC1⟩ := SG.wr hqc1; have zz0 := (SC1.blk 3 rfl).cell' (i := 0) rfl; have zz1 := (SC1.blk 3 rfl).cell' (i := 1) rfl; have zz2 := (SC1.blk 3 rfl).cell' (i := 2) rfl; have zz3 := (SC1.blk 3 rfl).cell' (i := 3) rfl; have RC1 := hB.mod SC1.M hko; have PC1 := SC1.P))
             refine StopOp.go rfl fun K hK => ?_
             refine wp_store (u := .agg #[.int .u64 0, .int .u64 0, .int .i64 0, .int .u32 0]) (by rfl) (by rfl) (by kernel_rfl) (SC1.blk 4 rfl) (by simp [Value.cells]) (by simp [Value.cells, Value.oneCell']) ?_
             intro w90 hm90 hB90
             refine hK _ _ ?_
             clear hK K
             have z0 := hB90.cell' (i := 0) rfl
             have z1 := hB90.cell' (i := 1) rfl
             have z2 := hB90.cell' (i := 2) rfl
             have z3 := hB90.cell' (i := 3) rfl
             have hfin := (SC1.set (i := 4) rfl hm90 hB90 rfl).fin
             have hlaw : R0 = _ := (hput.trans (saveP_q hWW0.out.symm HES0.out.symm)).trans (saveQ_w hWW1.out.symm hEa1)
             go_wp2_with fail
             refine bodyPost_ret (v := .tuple #[.agg #[.int .u64 0, .int .u64 0, .int .i64 0, .int .u32 0], .int .i64 Ea1]) (by simp [results, Tryz.results24, go_sem, z0, z1, z2, z3]) rfl ?_
             rw [hlaw]
             exact ⟨rfl, hfin⟩
         · have des0 : (Es0 != 0) = true := bne_iff_ne.2 hes0
           go_wp2_with (first
                         | (with_reducible refine st_store ?_)
                         | (go_at_call 76; (with_reducible refine (SIA _ PA).mono ?_); rintro e wsz ⟨rfl, rfl⟩)
                         | (go_at_call 75; (with_reducible refine (WR0).mono ?_); rintro e wc0 ⟨rfl, hqc0⟩; obtain ⟨Mc0, SC0⟩ := SA.wr hqc0; have zz0 := (SC0.blk 2 rfl).cell' (i := 0) rfl; have zz1 := (SC0.blk 2 rfl).cell' (i := 1) rfl; have zz2 := (SC0.blk 2 rfl).cell' (i := 2) rfl; have zz3 := (SC0.blk 2 rfl).cell' (i := 3) rfl; have RC0 := hB.mod SC0.M hko; have PC0 := SC0.P)
                         | (go_at_call 77; (with_reducible refine (SY0 _ _ RC0 PC0).mono ?_); rintro e wd0 ⟨rfl, hqd0⟩; obtain ⟨Md0, SD0⟩ := SC0.wr hqd0; have zd0 := (SD0.blk 2 rfl).cell' (i := 0) rfl; have zd1 := (SD0.blk 2 rfl).cell' (i := 1) rfl; have zd2 := (SD0.blk 2 rfl).cell' (i := 2) rfl; have zd3 := (SD0.blk 2 rfl).cell' (i := 3) rfl; have RD0 := hB.mod SD0.M hko; have PD0 := SD0.P; have pd0 := Blk.cell' RD0 (i := 0) rfl))
           refine StopOp.go rfl fun K hK => ?_
           refine wp_store (u := .agg #[.int .u64 0, .int .u64 0, .int .i64 0, .int .u32 0]) (by rfl) (by rfl) (by kernel_rfl) (SD0.blk 3 rfl) (by simp [Value.cells]) (by simp [Value.cells, Value.oneCell']) ?_
           intro w90 hm90 hB90
           refine hK _ _ ?_
           clear hK K
           have z0 := hB90.cell' (i := 0) rfl
           have z1 := hB90.cell' (i := 1) rfl
           have z2 := hB90.cell' (i := 2) rfl
           have z3 := hB90.cell' (i := 3) rfl
           have hfin := (SD0.set (i := 3) rfl hm90 hB90 rfl).fin
           have hlaw : R0 = (Va0.sy, Es0, hd0) := hput.trans (by rw [HES0.out]; exact saveP_s hWW0.out.symm (by rw [← HES0.out]; exact hes0))
           go_wp2_with fail
           refine bodyPost_ret (v := .tuple #[.agg #[.int .u64 0, .int .u64 0, .int .i64 0, .int .u32 0], .int .i64 Es0]) (by simp [results, Tryz.results24, go_sem, z0, z1, z2, z3]) rfl ?_
           rw [hlaw]
           exact ⟨rfl, hfin⟩
       · have dea0 : (Ea0 != 0) = true := bne_iff_ne.2 hEa0
         go_wp2_with (first
                       | (with_reducible refine st_store ?_)
                       | (go_at_call 76; (with_reducible refine (SIA _ PA).mono ?_); rintro e wsz ⟨rfl, rfl⟩)
                       | (go_at_call 75; (with_reducible refine (WR0).mono ?_); rintro e wc0 ⟨rfl, hqc0⟩; obtain ⟨Mc0, SC0⟩ := SA.wr hqc0; have zz0 := (SC0.blk 2 rfl).cell' (i := 0) rfl; have zz1 := (SC0.blk 2 rfl).cell' (i := 1) rfl; have zz2 := (SC0.blk 2 rfl).cell' (i := 2) rfl; have zz3 := (SC0.blk 2 rfl).cell' (i := 3) rfl; have RC0 := hB.mod SC0.M hko; have PC0 := SC0.P))
         refine StopOp.go rfl fun K hK => ?_
         refine wp_store (u := .agg #[.int .u64 0, .int .u64 0, .int .i64 0, .int .u32 0]) (by rfl) (by rfl) (by kernel_rfl) (SC0.blk 3 rfl) (by simp [Value.cells]) (by simp [Value.cells, Value.oneCell']) ?_
         intro w90 hm90 hB90
         refine hK _ _ ?_
         clear hK K
         have z0 := hB90.cell' (i := 0) rfl
         have z1 := hB90.cell' (i := 1) rfl
         have z2 := hB90.cell' (i := 2) rfl
         have z3 := hB90.cell' (i := 3) rfl
         have hfin := (SC0.set (i := 3) rfl hm90 hB90 rfl).fin
         have hlaw : R0 = _ := hput.trans (saveP_w hWW0.out.symm hEa0)
         go_wp2_with fail
         refine bodyPost_ret (v := .tuple #[.agg #[.int .u64 0, .int .u64 0, .int .i64 0, .int .u32 0], .int .i64 Ea0]) (by simp [results, Tryz.results24, go_sem, z0, z1, z2, z3]) rfl ?_
         rw [hlaw]
         exact ⟨rfl, hfin⟩
     · rw [if_neg hi0] at hput
       have dI : (i1 == 0) = false := beq_eq_false_iff_ne.2 hi0
       have SLT := fun w H => rslot0 r h k w H
       have hdu0 : f0 + c ≤ V1.m.dur.length := by rw [l1]; exact hf0
       go_upto_region 13 with (go_at_call 74; (with_reducible refine (SLT _ hS9).mono ?_); rintro e w9' ⟨rfl, rfl⟩)
       go_cut [15] (fun u wx => ∃ n, u = .pointer (some ⟨n, 0, none⟩) ∧ Mod [] w9 wx ∧ w9.heap.size ≤ n ∧ Blk wx n 25 [.int .u64 (ng : Nat), .int .u64 (cov : Nat), .int .i64 (B.length : Nat), .int .u32 (ns : Nat)])
       case first =>
         have hwr := HWR.out
         have hK5 := S9.blk 0 rfl
         have hb5 := Bs.md hbb S9.M (fun x hx => (hbB x hx).2)
         refine wp_region_T2 7 9 [⟨0, true, []⟩, ⟨1, true, []⟩, ⟨2, true, []⟩, ⟨3, true, []⟩, ⟨4, true, []⟩, ⟨5, true, []⟩, ⟨6, true, []⟩, ⟨7, false, [1, 2, 5]⟩, ⟨8, true, []⟩, ⟨9, false, [1, 2, 5, 8]⟩, ⟨10, false, []⟩] [⟨0, true, []⟩, ⟨1, true, []⟩, ⟨2, true, []⟩, ⟨3, true, []⟩, ⟨4, true, []⟩, ⟨5, true, []⟩, ⟨6, true, []⟩, ⟨9, false, [1, 2, 5]⟩, ⟨7, false, [1, 2, 5]⟩, ⟨8, true, []⟩, ⟨10, false, []⟩] (by kernel_rfl) (by kernel_rfl) (by kernel_rfl) (by kernel_rfl) (by kernel_rfl) ?_ ?_
         all_goals have hmD := Mod.drew [] w9
         all_goals obtain ⟨x, hx⟩ : ∃ x, x = w9.drew := ⟨_, rfl⟩
         all_goals rw [← hx] at hmD ⊢
         all_goals clear hx
         all_goals have hKx := hK5.ext hmD
         all_goals have hbx := hb5.ext hmD
         all_goals have k0 := hKx.cell' (i := 0) rfl
         · iterate 7 (refine wpT_n rfl rfl (fun K hK => ?_); go_wp2_with fail)
           refine wpT_callh rfl rfl (fun K hK => ?_)
           go_wp2_with (go_at_call 26; (with_reducible refine (SU _ hbx).mono ?_); rintro e wz ⟨rfl, hwz⟩; obtain rfl := hwz)
           refine ⟨agains_same, ?_⟩
           refine wpT_n rfl rfl (fun K hK => ?_)
           go_wp2_with fail
           refine wpT_e rfl rfl (fun K hK => ?_)
           refine wp_alloc zero_header ?_
           intro n w6 hn1 hn2 hm6 hB6
           simp only [put_some, List.set_cons_succ, List.set_cons_zero]
           refine hK _ _ ⟨agains_cons rfl (again_load rfl rfl (hm6.block t9 hKx.lt (by simp)) hKx.kinds) (agains_cons rfl (again_const (fun _ => rfl)) (agains_cons rfl (again_len rfl (by rfl) (by kernel_rfl)) (agains_cons rfl (again_build rfl) agains_nil))), ?_⟩
           clear hK K
           refine wpT_e0 rfl rfl (fun K hK => ?_)
           refine wp_store (u := .agg #[.int .u64 (ng : Nat), .int .u64 (cov : Nat), .int .i64 (B.length : Nat), .int .u32 (ns : Nat)]) (by rfl) (by rfl) (by kernel_rfl) hB6 (by simp [Value.cells]) (by simp [Value.cells, Value.oneCell']) ?_
           intro w7 hm7 hB7
           refine hK _ _ ?_
           clear hK K
           refine wpT_nil ?_
           go_wp2_with fail
           go_meet
           exact ⟨n, rfl, (hmD.ext hm6).then hm7 (fun h hh => .inr (by have e : h = n := (by simpa using hh); have := hmD.size; omega)), by have := hmD.size; omega, hB7⟩
         · iterate 7 (refine wpT_n rfl rfl (fun K hK => ?_); go_wp2_with fail)
           refine wpT_e rfl rfl (fun K hK => ?_)
           refine wp_alloc zero_header ?_
           intro n w6 hn1 hn2 hm6 hB6
           simp only [put_some, List.set_cons_succ, List.set_cons_zero]
           refine hK _ _ ⟨agains_cons rfl (again_load rfl rfl (hm6.block t9 hKx.lt (by simp)) hKx.kinds) (agains_cons rfl (again_const (fun _ => rfl)) (agains_cons rfl (again_len rfl (by rfl) (by kernel_rfl)) agains_nil)), ?_⟩
           clear hK K
           refine wpT_callh rfl rfl (fun K hK => ?_)
           go_wp2_with (go_at_call 26; (with_reducible refine (SU _ (hbx.ext hm6)).mono ?_); rintro e wz ⟨rfl, hwz⟩; obtain rfl := hwz)
           refine ⟨agains_same, ?_⟩
           refine wpT_n rfl rfl (fun K hK => ?_)
           go_wp2_with fail
           refine wpT_e0 rfl rfl (fun K hK => ?_)
           refine wp_store (u := .agg #[.int .u64 (ng : Nat), .int .u64 (cov : Nat), .int .i64 (B.length : Nat), .int .u32 (ns : Nat)]) (by rfl) (by rfl) (by kernel_rfl) hB6 (by simp [Value.cells]) (by simp [Value.cells, Value.oneCell']) ?_
           intro w7 hm7 hB7
           refine hK _ _ ?_
           clear hK K
           refine wpT_nil ?_
           go_wp2_with fail
           go_meet
           exact ⟨n, rfl, (hmD.ext hm6).then hm7 (fun h hh => .inr (by have e : h = n := (by simpa using hh); have := hmD.size; omega)), by have := hmD.size; omega, hB7⟩
       case rest =>
       obtain ⟨n, rfl, hm10, hn10, hN10⟩ := hcut
       have SA := S9.new hm10 hn10 hN10
       clear hN10
       have RA := hA.mod SA.M hho
       have p0 := Blk.cell' RA (i := 0) rfl
       have PA := SA.P
       have SIA := fun w h => qSize_any P Q V1 M w h
       simp only [hz0] at SIA
       have WR0 := hWrite_any h P Q f0 c z V1 _ (z : Nat) B (.slice aob B.length capb) _ SA.P (hA.mod SA.M hho) (Bs.md hbb SA.M (fun x hx => (hbB x hx).2)) hz0 hdu0 hn0 hrow0 ⟨by omega, by omega⟩ (SA.old hlh hho) (fun _ x hx => ⟨Nat.lt_of_lt_of_le (hbB x hx).1 SA.M.size, SA.old (hbB x hx).1 (hbB x hx).2⟩)
       unfold HWrP at WR0
       have hws := wrA_sz f0 c z V1 (z : Nat) B
       obtain ⟨⟨Va0, Ea0⟩, hW0⟩ : ∃ R, R = wrA f0 c z V1 (z : Nat) B := ⟨_, rfl⟩
       rw [← hW0] at WR0 hws
       dsimp only at WR0 hws
       obtain ⟨q1, q2, q3, q4⟩ := hws
       obtain ⟨q5, q6, q7, q8⟩ := sy_sz Va0
       have hzs0 : Va0.sy.m.sz = z := by rw [q5, q1]; exact hz0
       have hdz0 : Va0.m.sz = z := by rw [q1]; exact hz0
       have hns0 : Va0.n ≤ 1000000 := by omega
       have hrs0 : Va0.m.row.length ≤ 1000000 := by omega
       have hWW0 := Lib.hid hW0
       clear hW0
       have hdu1 : f0 + c ≤ Va0.sy.m.dur.length := by rw [q6, q2]; exact hdu0
       have hn1 : Va0.sy.n + 2 * (c * z) ≤ 1000000 := by omega
       have hrow1 : Va0.sy.m.row.length + c * z ≤ 1000000 := by omega
       have hz1 := hzs0
       clear q1 q2 q3 q4 q5 q6 q7 q8
       by_cases hEa0 : Ea0 = 0
       · subst hEa0
         have SY0 := fun M' w (hR : Rgr w h P f0 c) (hP : Pr w P Q Va0 M') => hSync_any h P Q f0 c Va0 M' w hR hP hns0 hrs0
         obtain ⟨Es0, hEs0⟩ : ∃ E, E = Va0.e 0 := ⟨_, rfl⟩
         rw [← hEs0] at SY0
         have HES0 := Lib.hid hEs0
         clear hEs0
         by_cases hes0 : Es0 = 0
         · subst hes0
           have SID := fun M' w h => qSize_any P Q Va0.sy M' w h
           simp only [hz1] at SID
           go_wp2_with (first
                         | (with_reducible refine st_make ?_)
                         | (go_at_call 76; (with_reducible refine (SIA _ PA).mono ?_); rintro e wsz ⟨rfl, rfl⟩)
                         | (go_at_call 75; (with_reducible refine (WR0).mono ?_); rintro e wc0 ⟨rfl, hqc0⟩; obtain ⟨Mc0, SC0⟩ := SA.wr hqc0; have zz0 := (SC0.blk 2 rfl).cell' (i := 0) rfl; have zz1 := (SC0.blk 2 rfl).cell' (i := 1) rfl; have zz2 := (SC0.blk 2 rfl).cell' (i := 2) rfl; have zz3 := (SC0.blk 2 rfl).cell' (i := 3) rfl; have RC0 := hA.mod SC0.M hho; have PC0 := SC0.P)
                         | (go_at_call 77; (with_reducible refine (SY0 _ _ RC0 PC0).mono ?_); rintro e wd0 ⟨rfl, hqd0⟩; obtain ⟨Md0, SD0⟩ := SC0.wr hqd0; have zd0 := (SD0.blk 2 rfl).cell' (i := 0) rfl; have zd1 := (SD0.blk 2 rfl).cell' (i := 1) rfl; have zd2 := (SD0.blk 2 rfl).cell' (i := 2) rfl; have zd3 := (SD0.blk 2 rfl).cell' (i := 3) rfl; have RD0 := hA.mod SD0.M hho; have PD0 := SD0.P; have pd0 := Blk.cell' RD0 (i := 0) rfl)
                         | (go_at_call 76; (with_reducible refine (SID _ _ PD0).mono ?_); rintro e wsz ⟨rfl, rfl⟩))
           refine StopOp.go rfl fun K hK => ?_
           refine wp_make (nl := z) (nc := z) stB (by rfl) (by rfl) rfl rfl (Nat.le_refl _) (by omega) (by omega) ?_
           intro sec w11 hs11 hs12 hm11 hB11
           simp only [put_some, List.set_cons_succ, List.set_cons_zero]
           refine hK _ _ ?_
           clear hK K
           have hB11' : Blk w11 sec 5 (bv (zeros z)) := by rw [bv_zeros]; simpa [Value.cells] using hB11
           have SE := SD0.new hm11 hs11 hB11'
           have n0 := (SE.blk 1 rfl).cell' (i := 0) rfl
           have n1 := (SE.blk 1 rfl).cell' (i := 1) rfl
           have n2 := (SE.blk 1 rfl).cell' (i := 2) rfl
           have n3 := (SE.blk 1 rfl).cell' (i := 3) rfl
           go_wp2_with (first
                         | (with_reducible refine st_copy ?_)
                         | (go_at_call 57; (with_reducible refine (PU _).mono ?_); rintro e w12 ⟨hvv, rfl, hoh, hnh, hlth, hm12⟩; obtain ⟨aoh, caph, rfl, _, _⟩ := Bs.frn hoh (hdr_len _)))
           have SF := SE.ext hm12
           have hsrc := Bs.onn hoh (hdr_len _)
           refine StopOp.go rfl fun K hK => ?_
           refine wp_copy_head (rest := []) 32 (cap := z) (n := z) (m := 32) (by omega) Tryz.underlying39 (by kernel_rfl) (by rfl) (by rfl) (by simpa using SF.blk 0 rfl) (by rw [bv_length]; simp [zeros]) hsrc (bv_one _) ?_
           intro w13 hB13 hm13
           simp only [put_some, List.set_cons_succ, List.set_cons_zero]
           refine hK _ _ ?_
           clear hK K
           have hB13' : Blk w13 sec 5 (bv (secH z ⟨ng, cov, (B.length : Nat), ns⟩)) := by rw [← bv_sec z h32]; simpa using hB13
           have SG := SF.set (i := 0) rfl hm13 hB13' rfl
           clear hB11 hB13 hsrc n0 n1 n2 n3 SE SF
           have hsb : Bs w13 (.slice (some ⟨sec, 0, none⟩) z z) (secH z ⟨ng, cov, (B.length : Nat), ns⟩) := Bs.onz (Bs.of_blk (rest := []) (by simpa using SG.blk 0 rfl) (by rw [sec_len h32]; exact Nat.le_refl _) (by omega)) (sec_len h32 _)
           have WR1 := hWrite_any h P Q f0 c z Va0.sy _ 0 (secH z ⟨ng, cov, (B.length : Nat), ns⟩) (.slice (some ⟨sec, 0, none⟩) z z) w13 SG.P (hA.mod SG.M hho) hsb hz1 hdu1 hn1 hrow1 ⟨by omega, by omega⟩ (SG.old hlh hho) (fun _ x hx => by have e : x = sec := (by simpa [blks] using hx); subst e; exact ⟨(SG.blk 0 rfl).lt, SG.out 0 rfl⟩)
           unfold HWrP at WR1
           have hws := wrA_sz f0 c z Va0.sy 0 (secH z ⟨ng, cov, (B.length : Nat), ns⟩)
           obtain ⟨⟨Va1, Ea1⟩, hW1⟩ : ∃ R, R = wrA f0 c z Va0.sy 0 (secH z ⟨ng, cov, (B.length : Nat), ns⟩) := ⟨_, rfl⟩
           rw [← hW1] at WR1 hws
           dsimp only at WR1 hws
           obtain ⟨q1, q2, q3, q4⟩ := hws
           obtain ⟨q5, q6, q7, q8⟩ := sy_sz Va1
           have hzs1 : Va1.sy.m.sz = z := by rw [q5, q1]; exact hz1
           have hdz1 : Va1.m.sz = z := by rw [q1]; exact hz1
           have hns1 : Va1.n ≤ 1000000 := by omega
           have hrs1 : Va1.m.row.length ≤ 1000000 := by omega
           have hWW1 := Lib.hid hW1
           clear hW1
           clear q1 q2 q3 q4 q5 q6 q7 q8
           by_cases hEa1 : Ea1 = 0
           · subst hEa1
             have SY1 := fun M' w (hR : Rgr w h P f0 c) (hP : Pr w P Q Va1 M') => hSync_any h P Q f0 c Va1 M' w hR hP hns1 hrs1
             obtain ⟨Es1, hEs1⟩ : ∃ E, E = Va1.e 0 := ⟨_, rfl⟩
             rw [← hEs1] at SY1
             have HES1 := Lib.hid hEs1
             clear hEs1
             by_cases hes1 : Es1 = 0
             · subst hes1
               go_wp2_with (first
                             | (with_reducible refine st_store ?_)
                             | (go_at_call 75; (with_reducible refine (WR1).mono ?_); rintro e wc1 ⟨rfl, hqc1⟩; obtain ⟨Mc1, SC1⟩ := SG.wr hqc1; have zz0 := (SC1.blk 3 rfl).cell' (i := 0) rfl; have zz1 := (SC1.blk 3 rfl).cell' (i := 1) rfl; have zz2 := (SC1.blk 3 rfl).cell' (i := 2) rfl; have zz3 := (SC1.blk 3 rfl).cell' (i := 3) rfl; have RC1 := hA.mod SC1.M hho; have PC1 := SC1.P)
                             | (go_at_call 77; (with_reducible refine (SY1 _ _ RC1 PC1).mono ?_); rintro e wd1 ⟨rfl, hqd1⟩; obtain ⟨Md1, SD1⟩ := SC1.wr hqd1; have zd0 := (SD1.blk 3 rfl).cell' (i := 0) rfl; have zd1 := (SD1.blk 3 rfl).cell' (i := 1) rfl; have zd2 := (SD1.blk 3 rfl).cell' (i := 2) rfl; have zd3 := (SD1.blk 3 rfl).cell' (i := 3) rfl; have nd0 := (SD1.blk 1 rfl).cell' (i := 0) rfl; have nd1 := (SD1.blk 1 rfl).cell' (i := 1) rfl; have nd2 := (SD1.blk 1 rfl).cell' (i := 2) rfl; have nd3 := (SD1.blk 1 rfl).cell' (i := 3) rfl))
               refine StopOp.go rfl fun K hK => ?_
               refine wp_store (u := .agg #[.int .u64 (ng : Nat), .int .u64 (cov : Nat), .int .i64 (B.length : Nat), .int .u32 (ns : Nat)]) (by rfl) (by rfl) (by kernel_rfl) (SD1.blk 4 rfl) (by simp [Value.cells]) (by simp [Value.cells, Value.oneCell']) ?_
               intro w90 hm90 hB90
               refine hK _ _ ?_
               clear hK K
               have z0 := hB90.cell' (i := 0) rfl
               have z1 := hB90.cell' (i := 1) rfl
               have z2 := hB90.cell' (i := 2) rfl
               have z3 := hB90.cell' (i := 3) rfl
               have hfin := (SD1.set (i := 4) rfl hm90 hB90 rfl).fin
               have hlaw : R0 = _ := (hput.trans (saveP_q hWW0.out.symm HES0.out.symm)).trans (saveQ_y hWW1.out.symm HES1.out.symm)
               go_wp2_with fail
               refine bodyPost_ret (v := .tuple #[.agg #[.int .u64 (ng : Nat), .int .u64 (cov : Nat), .int .i64 (B.length : Nat), .int .u32 (ns : Nat)], .int .i64 0]) (by simp [results, Tryz.results24, go_sem, z0, z1, z2, z3]) rfl ?_
               rw [hlaw]
               exact ⟨rfl, hfin⟩
             · have des1 : (Es1 != 0) = true := bne_iff_ne.2 hes1
               go_wp2_with (first
                             | (with_reducible refine st_store ?_)
                             | (go_at_call 75; (with_reducible refine (WR1).mono ?_); rintro e wc1 ⟨rfl, hqc1⟩; obtain ⟨Mc1, SC1⟩ := SG.wr hqc1; have zz0 := (SC1.blk 3 rfl).cell' (i := 0) rfl; have zz1 := (SC1.blk 3 rfl).cell' (i := 1) rfl; have zz2 := (SC1.blk 3 rfl).cell' (i := 2) rfl; have zz3 := (SC1.blk 3 rfl).cell' (i := 3) rfl; have RC1 := hA.mod SC1.M hho; have PC1 := SC1.P)
                             | (go_at_call 77; (with_reducible refine (SY1 _ _ RC1 PC1).mono ?_); rintro e wd1 ⟨rfl, hqd1⟩; obtain ⟨Md1, SD1⟩ := SC1.wr hqd1; have zd0 := (SD1.blk 3 rfl).cell' (i := 0) rfl; have zd1 := (SD1.blk 3 rfl).cell' (i := 1) rfl; have zd2 := (SD1.blk 3 rfl).cell' (i := 2) rfl; have zd3 := (SD1.blk 3 rfl).cell' (i := 3) rfl; have nd0 := (SD1.blk 1 rfl).cell' (i := 0) rfl; have nd1 := (SD1.blk 1 rfl).cell' (i := 1) rfl; have nd2 := (SD1.blk 1 rfl).cell' (i := 2) rfl; have nd3 := (SD1.blk 1 rfl).cell' (i := 3) rfl))
               refine StopOp.go rfl fun K hK => ?_
               refine wp_store (u := .agg #[.int .u64 0, .int .u64 0, .int .i64 0, .int .u32 0]) (by rfl) (by rfl) (by kernel_rfl) (SD1.blk 4 rfl) (by simp [Value.cells]) (by simp [Value.cells, Value.oneCell']) ?_
               intro w90 hm90 hB90
               refine hK _ _ ?_
               clear hK K
               have z0 := hB90.cell' (i := 0) rfl
               have z1 := hB90.cell' (i := 1) rfl
               have z2 := hB90.cell' (i := 2) rfl
               have z3 := hB90.cell' (i := 3) rfl
               have hfin := (SD1.set (i := 4) rfl hm90 hB90 rfl).fin
               have hlaw : R0 = (Va1.sy, Es1, hd0) := (hput.trans (saveP_q hWW0.out.symm HES0.out.symm)).trans (by rw [HES1.out]; exact saveQ_s hWW1.out.symm (by rw [← HES1.out]; exact hes1))
               go_wp2_with fail
               refine bodyPost_ret (v := .tuple #[.agg #[.int .u64 0, .int .u64 0, .int .i64 0, .int .u32 0], .int .i64 Es1]) (by simp [results, Tryz.results24, go_sem, z0, z1, z2, z3]) rfl ?_
               rw [hlaw]
               exact ⟨rfl, hfin⟩
           · have dea1 : (Ea1 != 0) = true := bne_iff_ne.2 hEa1
             go_wp2_with (first
                           | (with_reducible refine st_store ?_)
                           | (go_at_call 75; (with_reducible refine (WR1).mono ?_); rintro e wc1 ⟨rfl, hqc1⟩; obtain ⟨Mc1, SC1⟩ := SG.wr hqc1; have zz0 := (SC1.blk 3 rfl).cell' (i := 0) rfl; have zz1 := (SC1.blk 3 rfl).cell' (i := 1) rfl; have zz2 := (SC1.blk 3 rfl).cell' (i := 2) rfl; have zz3 := (SC1.blk 3 rfl).cell' (i := 3) rfl; have RC1 := hA.mod SC1.M hho; have PC1 := SC1.P))
             refine StopOp.go rfl fun K hK => ?_
             refine wp_store (u := .agg #[.int .u64 0, .int .u64 0, .int .i64 0, .int .u32 0]) (by rfl) (by rfl) (by kernel_rfl) (SC1.blk 4 rfl) (by simp [Value.cells]) (by simp [Value.cells, Value.oneCell']) ?_
             intro w90 hm90 hB90
             refine hK _ _ ?_
             clear hK K
             have z0 := hB90.cell' (i := 0) rfl
             have z1 := hB90.cell' (i := 1) rfl
             have z2 := hB90.cell' (i := 2) rfl
             have z3 := hB90.cell' (i := 3) rfl
             have hfin := (SC1.set (i := 4) rfl hm90 hB90 rfl).fin
             have hlaw : R0 = _ := (hput.trans (saveP_q hWW0.out.symm HES0.out.symm)).trans (saveQ_w hWW1.out.symm hEa1)
             go_wp2_with fail
             refine bodyPost_ret (v := .tuple #[.agg #[.int .u64 0, .int .u64 0, .int .i64 0, .int .u32 0], .int .i64 Ea1]) (by simp [results, Tryz.results24, go_sem, z0, z1, z2, z3]) rfl ?_
             rw [hlaw]
             exact ⟨rfl, hfin⟩
         · have des0 : (Es0 != 0) = true := bne_iff_ne.2 hes0
           go_wp2_with (first
                         | (with_reducible refine st_store ?_)
                         | (go_at_call 76; (with_reducible refine (SIA _ PA).mono ?_); rintro e wsz ⟨rfl, rfl⟩)
                         | (go_at_call 75; (with_reducible refine (WR0).mono ?_); rintro e wc0 ⟨rfl, hqc0⟩; obtain ⟨Mc0, SC0⟩ := SA.wr hqc0; have zz0 := (SC0.blk 2 rfl).cell' (i := 0) rfl; have zz1 := (SC0.blk 2 rfl).cell' (i := 1) rfl; have zz2 := (SC0.blk 2 rfl).cell' (i := 2) rfl; have zz3 := (SC0.blk 2 rfl).cell' (i := 3) rfl; have RC0 := hA.mod SC0.M hho; have PC0 := SC0.P)
                         | (go_at_call 77; (with_reducible refine (SY0 _ _ RC0 PC0).mono ?_); rintro e wd0 ⟨rfl, hqd0⟩; obtain ⟨Md0, SD0⟩ := SC0.wr hqd0; have zd0 := (SD0.blk 2 rfl).cell' (i := 0) rfl; have zd1 := (SD0.blk 2 rfl).cell' (i := 1) rfl; have zd2 := (SD0.blk 2 rfl).cell' (i := 2) rfl; have zd3 := (SD0.blk 2 rfl).cell' (i := 3) rfl; have RD0 := hA.mod SD0.M hho; have PD0 := SD0.P; have pd0 := Blk.cell' RD0 (i := 0) rfl))
           refine StopOp.go rfl fun K hK => ?_
           refine wp_store (u := .agg #[.int .u64 0, .int .u64 0, .int .i64 0, .int .u32 0]) (by rfl) (by rfl) (by kernel_rfl) (SD0.blk 3 rfl) (by simp [Value.cells]) (by simp [Value.cells, Value.oneCell']) ?_
           intro w90 hm90 hB90
           refine hK _ _ ?_
           clear hK K
           have z0 := hB90.cell' (i := 0) rfl
           have z1 := hB90.cell' (i := 1) rfl
           have z2 := hB90.cell' (i := 2) rfl
           have z3 := hB90.cell' (i := 3) rfl
           have hfin := (SD0.set (i := 3) rfl hm90 hB90 rfl).fin
           have hlaw : R0 = (Va0.sy, Es0, hd0) := hput.trans (by rw [HES0.out]; exact saveP_s hWW0.out.symm (by rw [← HES0.out]; exact hes0))
           go_wp2_with fail
           refine bodyPost_ret (v := .tuple #[.agg #[.int .u64 0, .int .u64 0, .int .i64 0, .int .u32 0], .int .i64 Es0]) (by simp [results, Tryz.results24, go_sem, z0, z1, z2, z3]) rfl ?_
           rw [hlaw]
           exact ⟨rfl, hfin⟩
       · have dea0 : (Ea0 != 0) = true := bne_iff_ne.2 hEa0
         go_wp2_with (first
                       | (with_reducible refine st_store ?_)
                       | (go_at_call 76; (with_reducible refine (SIA _ PA).mono ?_); rintro e wsz ⟨rfl, rfl⟩)
                       | (go_at_call 75; (with_reducible refine (WR0).mono ?_); rintro e wc0 ⟨rfl, hqc0⟩; obtain ⟨Mc0, SC0⟩ := SA.wr hqc0; have zz0 := (SC0.blk 2 rfl).cell' (i := 0) rfl; have zz1 := (SC0.blk 2 rfl).cell' (i := 1) rfl; have zz2 := (SC0.blk 2 rfl).cell' (i := 2) rfl; have zz3 := (SC0.blk 2 rfl).cell' (i := 3) rfl; have RC0 := hA.mod SC0.M hho; have PC0 := SC0.P))
         refine StopOp.go rfl fun K hK => ?_
         refine wp_store (u := .agg #[.int .u64 0, .int .u64 0, .int .i64 0, .int .u32 0]) (by rfl) (by rfl) (by kernel_rfl) (SC0.blk 3 rfl) (by simp [Value.cells]) (by simp [Value.cells, Value.oneCell']) ?_
         intro w90 hm90 hB90
         refine hK _ _ ?_
         clear hK K
         have z0 := hB90.cell' (i := 0) rfl
         have z1 := hB90.cell' (i := 1) rfl
         have z2 := hB90.cell' (i := 2) rfl
         have z3 := hB90.cell' (i := 3) rfl
         have hfin := (SC0.set (i := 3) rfl hm90 hB90 rfl).fin
         have hlaw : R0 = _ := hput.trans (saveP_w hWW0.out.symm hEa0)
         go_wp2_with fail
         refine bodyPost_ret (v := .tuple #[.agg #[.int .u64 0, .int .u64 0, .int .i64 0, .int .u32 0], .int .i64 Ea0]) (by simp [results, Tryz.results24, go_sem, z0, z1, z2, z3]) rfl ?_
         rw [hlaw]
         exact ⟨rfl, hfin⟩
 · have de1 : (e1 != 0) = true := bne_iff_ne.2 he1
   go_wp2_with (with_reducible refine st_store ?_)
   refine StopOp.go rfl fun K hK => ?_
   refine wp_store (u := .agg #[.int .u64 0, .int .u64 0, .int .i64 0, .int .u32 0]) (by rfl) (by rfl) (by kernel_rfl) (S9.blk 2 rfl) (by simp [Value.cells]) (by simp [Value.cells, Value.oneCell']) ?_
   intro w90 hm90 hB90
   refine hK _ _ ?_
   clear hK K
   have z0 := hB90.cell' (i := 0) rfl
   have z1 := hB90.cell' (i := 1) rfl
   have z2 := hB90.cell' (i := 2) rfl
   have z3 := hB90.cell' (i := 3) rfl
   have hfin := (S9.set (i := 2) rfl hm90 hB90 rfl).fin
   have hlaw : R0 = _ := HLR.out.1 he1
   go_wp2_with fail
   refine bodyPost_ret (v := .tuple #[.agg #[.int .u64 0, .int .u64 0, .int .i64 0, .int .u32 0], .int .i64 e1]) (by simp [results, Tryz.results24, go_sem, z0, z1, z2, z3]) rfl ?_
   rw [hlaw]
   exact ⟨rfl, hfin⟩
end Go.Proofs.YtminfegoldgjpaaGreatDoor
