import Derived.Test.YtminfegoldgjpaaGreatDoorSwF
import Derived.Test.YtminfegoldgjpaaGreatDoorGDs
import Derived.Test.YtminfegoldgjpaaGreatDoorRegT
import Derived.Test.YtminfegoldgjpaaGreatDoorRegB
set_option linter.unusedVariables false
set_option linter.unusedSimpArgs false
set_option maxRecDepth 100000
namespace Go.Proofs.YtminfegoldgjpaaGreatDoor
open Go.RowKit Gw
theorem zero_anon : (Tryz.prog.info? 91).map (·.zero) = some (some (.agg #[.int .i64 0, .slice none 0 0])) := by kernel_rfl
theorem stAN : ST Tryz.prog 92 91 (.agg #[.int .i64 0, .slice none 0 0]) 2 32 := ⟨Tryz.underlying92, by kernel_rfl, rfl, by decide⟩
theorem nat_wrap (g : Nat) (hg : g < 18446744073709551616) : IntKind.u64.wrap ((g : Int) + 1) = (((g + 1) % 18446744073709551616 : Nat) : Int) := by
 rw [IntKind.wrap_u64]
 omega
theorem sec_len {z : Nat} (h32 : 32 ≤ z) (N : Hd) : (secH z N).length = z := by
 unfold secH
 rw [List.length_append, hdr_len]
 simp [zeros]
 omega
theorem Bs.onz {w : World} {ao : Option Addr} {n cap : Nat} {l : List UInt8} (h : Bs w (.slice ao l.length cap) l) (hn : l.length = n) : Bs w (.slice ao n cap) l := hn ▸ h
set_option maxRecDepth 1000000 in
set_option maxHeartbeats 40000000 in
theorem ssave_any (s a b p q f0 f1 c z cov : Nat) (v : Pv) (L : List Nat) (B : List UInt8) (bw : Value) (w : World) (hS : Sls w s a b) (hP : Pd w p q v L) (hA : Rgn w a p f0 c z) (hB : Rgn w b p f1 c z) (hz : v.m.sz = z) (h32 : 32 ≤ z) (hf0 : f0 + c ≤ v.m.dur.length) (hf1 : f1 + c ≤ v.m.dur.length) (hcz : c * z ≤ 65536) (hn : v.n + 9 * (c * z) + 8 ≤ 1000000) (hrow : v.m.row.length + 3 * (c * z) ≤ 1000000) (hT : TabC w) (h0 : 0 ∉ p :: L) (hs : s ∉ p :: L) (ha : a ∉ p :: L) (hb : b ∉ p :: L) (hbb : Bs w bw B) (hbB : ∀ x ∈ blks bw, x < w.heap.size ∧ x ∉ p :: L) (hcov : cov < 18446744073709551616) :
   Calls Tryz.prog 8 #[.pointer (some ⟨s, 0, none⟩), bw, .int .u64 (cov : Nat)] w (SSvP w p q L (saveG f0 f1 c z v B cov)) := by
 obtain ⟨aob, capb, rfl, hcb, hcb2⟩ := hbb.form
 have hs1 := hP.ok.m.s1
 have hs2 := hP.ok.m.s2
 rw [hz] at hs1 hs2
 have hap : a ≠ p := fun e => ha (e ▸ List.mem_cons_self)
 have hbp : b ≠ p := fun e => hb (e ▸ List.mem_cons_self)
 have hsp : s ≠ p := fun e => hs (e ▸ List.mem_cons_self)
 have hzp : 0 ≠ p := fun e => h0 (e ▸ List.mem_cons_self)
 have TH := fun w h => sthere_yes s a b w h
 have BY := fun w h hA => sBytes_any s a b p f0 c z w h hA (by omega) (by omega)
 have LD := fun w hS hP hA hB hT => sload_any s a b p q f0 f1 c z v L w hS hP hA hB hz hf0 hf1 (by omega) hT hzp hap hbp hsp
 have hld := loadG_sz f0 f1 c z v
 have hla := Blk.lt hA
 have hlb := Blk.lt hB
 have SV0 := Sv.start hP
 unfold SLdP at LD
 unfold SSvP
 obtain ⟨R0, hR0⟩ : ∃ R, R = saveG f0 f1 c z v B cov := ⟨_, rfl⟩
 rw [← hR0]
 obtain ⟨CZ, hCZ⟩ : ∃ n, n = c * z := ⟨_, rfl⟩
 have hcz2 : (c : Int) * z - z = (CZ : Int) - z := by rw [hCZ]; push_cast; rfl
 have HL := fun h => hR0.trans (saveG_long (cov := cov) (f0 := f0) (f1 := f1) (v := v) h)
 rw [hcz2] at HL
 rw [← hCZ] at BY
 have yz : (z : Int) ≤ 4096 := by omega
 have yc : (CZ : Int) ≤ 65536 := by omega
 have HCZ := Lib.hid (And.intro hCZ hcz2)
 clear hcz2 hCZ
 by_cases hlong : (CZ : Int) - z < B.length
 · have HL := Lib.hid HL
   clear hR0 LD hld hcz hn hrow
   go_enter Tryz.func8, Tryz.ntmps8
   go_wp2_with (with_reducible refine st_alloc ?_)
   refine StopOp.go rfl fun K hK => ?_
   refine wp_alloc zero_header ?_
   intro g w1 hg1 hg2 hm1 hG1
   simp only [put_some, List.set_cons_succ, List.set_cons_zero]
   refine hK _ _ ?_
   clear hK K
   have SV1 := SV0.new (cs := [.int .u64 0, .int .u64 0, .int .i64 0, .int .u32 0]) hm1 hg1 hG1
   go_wp2_with (first
                 | (with_reducible refine st_store ?_)
                 | (go_at_call 37; (with_reducible refine (TH _ (hS.ext hm1)).mono ?_); rintro e w2 ⟨rfl, rfl⟩)
                 | (go_at_call 11; (with_reducible refine (BY _ (hS.ext hm1) (hA.ext hm1)).mono ?_); rintro e w2 ⟨rfl, hm2⟩))
   refine StopOp.go rfl fun K hK => ?_
   refine wp_store (u := .agg #[.int .u64 0, .int .u64 0, .int .i64 0, .int .u32 0]) (by rfl) (by rfl) (by kernel_rfl) ((SV1.ext hm2).blk 0 rfl) (by simp [Value.cells]) (by simp [Value.cells, Value.oneCell']) ?_
   intro w90 hm90 hB90
   refine hK _ _ ?_
   clear hK K
   have z0 := hB90.cell' (i := 0) rfl
   have z1 := hB90.cell' (i := 1) rfl
   have z2 := hB90.cell' (i := 2) rfl
   have z3 := hB90.cell' (i := 3) rfl
   have hfin := ((SV1.ext hm2).set (i := 0) rfl hm90 hB90 rfl).fin
   have hlaw : R0 = _ := HL.out hlong
   go_wp2_with fail
   refine bodyPost_ret (v := .tuple #[.agg #[.int .u64 0, .int .u64 0, .int .i64 0, .int .u32 0], .int .i64 3]) (by simp [results, Tryz.results8, go_sem, z0, z1, z2, z3]) rfl ?_
   rw [hlaw]
   exact ⟨rfl, hfin⟩
 have hlong' : (B.length : Int) ≤ (CZ : Int) - z := by omega
 have LR := fun R (h : loadG f0 f1 c z v = R) => And.intro (fun he => hR0.trans (saveG_err (cov := cov) (b := B) (by rw [HCZ.out.2]; exact hlong) h he)) (And.intro (fun he hm => hR0.trans (saveG_full (cov := cov) (b := B) (by rw [HCZ.out.2]; exact hlong) h he hm)) (fun he hm => hR0.trans (saveG_put (cov := cov) (b := B) (by rw [HCZ.out.2]; exact hlong) h he hm)))
 obtain ⟨R, hR⟩ : ∃ R, R = loadG f0 f1 c z v := ⟨_, rfl⟩
 have LR := LR R hR.symm
 rw [← hR] at LD hld
 obtain ⟨l1, l2, l3, l4, l5⟩ := hld
 obtain ⟨V1, e1, ⟨hg, hc', hl, hs'⟩, b1, i1⟩ := R
 obtain ⟨⟨w1', w2', w3', w4'⟩, l6⟩ := l3
 unfold Hd.v at LD
 dsimp only at LD LR l1 l2 l4 l5 w1' w2' w3' w4'
 have hNdef : nextH ⟨hg, hc', hl, hs'⟩ cov B = ⟨(hg + 1) % 18446744073709551616, cov, (B.length : Nat), crcS B⟩ := rfl
 rw [hNdef] at LR
 have SU := fun w h hT => sum_any B (.slice aob B.length capb) w h hT
 have hcr : crcS B < 4294967296 := crcS_lt B
 have hwr := nat_wrap hg (by omega)
 obtain ⟨ng, hng⟩ : ∃ n, n = (hg + 1) % 18446744073709551616 := ⟨_, rfl⟩
 obtain ⟨ns, hns⟩ : ∃ n, n = crcS B := ⟨_, rfl⟩
 rw [← hng, ← hns] at LR
 rw [← hng] at hwr
 rw [← hns] at hcr SU
 have hngb : ng < 18446744073709551616 := by omega
 have PU := fun w h => hput_any ⟨ng, cov, (B.length : Nat), ns⟩ ⟨hngb, hcov, hcr, by dsimp only; omega⟩ w h
 unfold HputP Hd.v at PU
 dsimp only at PU
 have yg : (hg : Int) ≤ 18446744073709551615 := by omega
 have yng : (ng : Int) ≤ 18446744073709551615 := by omega
 have yns : (ns : Int) ≤ 4294967295 := by omega
 have ycov : (cov : Int) ≤ 18446744073709551615 := by omega
 have hn0 : V1.n + 2 * (c * z) ≤ 1000000 := by omega
 have hn00 : V1.n + 4 * (c * z) + 4 ≤ 1000000 := by omega
 have HLR := Lib.hid LR
 have HWR := Lib.hid hwr
 clear LR hR hR0 HL l4 l6 hNdef hng hns hn w1' w2' w3' w4' hn0 hwr hngb hcov hcr
 go_enter Tryz.func8, Tryz.ntmps8
 go_wp2_with (with_reducible refine st_alloc ?_)
 refine StopOp.go rfl fun K hK => ?_
 refine wp_alloc zero_header ?_
 intro g w1 hg1 hg2 hm1 hG1
 simp only [put_some, List.set_cons_succ, List.set_cons_zero]
 refine hK _ _ ?_
 clear hK K
 have SV1 := SV0.new (cs := [.int .u64 0, .int .u64 0, .int .i64 0, .int .u32 0]) hm1 hg1 hG1
 go_wp2_with (first
               | (with_reducible refine st_alloc ?_)
               | (go_at_call 37; (with_reducible refine (TH _ (hS.ext hm1)).mono ?_); rintro e w2 ⟨rfl, rfl⟩)
               | (go_at_call 11; (with_reducible refine (BY _ (hS.ext hm1) (hA.ext hm1)).mono ?_); rintro e w2 ⟨rfl, hm2⟩)
               | (go_at_call 12; (with_reducible refine (LD _ (hS.mod (SV1.ext hm2).M hs) (SV1.ext hm2).P (hA.mod (SV1.ext hm2).M ha) (hB.mod (SV1.ext hm2).M hb) (hT.mod (SV1.ext hm2).M h0)).mono ?_); rintro e w3 ⟨lbw, rfl, hob3, hnw3, hP3, hm3⟩; obtain ⟨aol, capl, rfl, _, _⟩ := hob3.sl.form))
 have SV3 := (SV1.ext hm2).rd hm3 hP3
 refine StopOp.go rfl fun K hK => ?_
 refine wp_alloc zero_header ?_
 intro k w4 hk1 hk2 hm4 hK4
 simp only [put_some, List.set_cons_succ, List.set_cons_zero]
 refine hK _ _ ?_
 clear hK K
 go_wp2_with (with_reducible refine st_store ?_)
 refine StopOp.go rfl fun K hK => ?_
 refine wp_store (u := .agg #[.int .u64 (hg : Nat), .int .u64 (hc' : Nat), .int .i64 hl, .int .u32 (hs' : Nat)]) (by rfl) (by rfl) (by kernel_rfl) hK4 (by simp [Value.cells]) (by simp [Value.cells, Value.oneCell']) ?_
 intro w5 hm5 hB5
 refine hK _ _ ?_
 clear hK K
 have SV5 := (SV3.new hm4 hk1 hK4).set (i := 0) (cs' := [.int .u64 (hg : Nat), .int .u64 (hc' : Nat), .int .i64 hl, .int .u32 (hs' : Nat)]) rfl hm5 hB5 rfl
 clear hG1 hK4 hB5 SV1 SV3
 by_cases he1 : e1 = 0
 · subst he1
   go_upto_region 8 with fail
   go_cut [12] (fun u wx => ∃ n, u = .pointer (some ⟨n, 0, none⟩) ∧ Mod [] w5 wx ∧ w5.heap.size ≤ n ∧ Blk wx n 25 [.int .u64 (ng : Nat), .int .u64 (cov : Nat), .int .i64 (B.length : Nat), .int .u32 (ns : Nat)])
   case first =>
     have hwr := HWR.out
     have hK5 := SV5.blk 0 rfl
     have hb5 := Bs.md hbb SV5.M (fun x hx => (hbB x hx).2)
     have hT5 := hT.mod SV5.M h0
     refine wp_region_T2 7 9 [⟨0, true, []⟩, ⟨1, true, []⟩, ⟨2, true, []⟩, ⟨3, true, []⟩, ⟨4, true, []⟩, ⟨5, true, []⟩, ⟨6, true, []⟩, ⟨7, false, [1, 2, 5]⟩, ⟨8, true, []⟩, ⟨9, false, [1, 2, 5, 8]⟩, ⟨10, false, []⟩] [⟨0, true, []⟩, ⟨1, true, []⟩, ⟨2, true, []⟩, ⟨3, true, []⟩, ⟨4, true, []⟩, ⟨5, true, []⟩, ⟨6, true, []⟩, ⟨9, false, [1, 2, 5]⟩, ⟨7, false, [1, 2, 5]⟩, ⟨8, true, []⟩, ⟨10, false, []⟩] (by kernel_rfl) (by kernel_rfl) (by kernel_rfl) (by kernel_rfl) (by kernel_rfl) ?_ ?_
     all_goals have hmD := Mod.drew [] w5
     all_goals obtain ⟨x, hx⟩ : ∃ x, x = w5.drew := ⟨_, rfl⟩
     all_goals rw [← hx] at hmD ⊢
     all_goals clear hx
     all_goals have hKx := hK5.ext hmD
     all_goals have hbx := hb5.ext hmD
     all_goals have hTx := hT5.ext hmD
     all_goals have k0 := hKx.cell' (i := 0) rfl
     · iterate 7 (refine wpT_n rfl rfl (fun K hK => ?_); go_wp2_with fail)
       refine wpT_callh rfl rfl (fun K hK => ?_)
       go_wp2_with (go_at_call 38; (with_reducible refine (SU _ hbx hTx).mono ?_); rintro e wz ⟨rfl, hwz⟩; obtain rfl := hwz)
       refine ⟨agains_same, ?_⟩
       refine wpT_n rfl rfl (fun K hK => ?_)
       go_wp2_with fail
       refine wpT_e rfl rfl (fun K hK => ?_)
       refine wp_alloc zero_header ?_
       intro n w6 hn1 hn2 hm6 hB6
       simp only [put_some, List.set_cons_succ, List.set_cons_zero]
       refine hK _ _ ⟨agains_cons rfl (again_load rfl rfl (hm6.block k hKx.lt (by simp)) hKx.kinds) (agains_cons rfl (again_const (fun _ => rfl)) (agains_cons rfl (again_len rfl (by rfl) (by kernel_rfl)) (agains_cons rfl (again_build rfl) agains_nil))), ?_⟩
       clear hK K
       refine wpT_e0 rfl rfl (fun K hK => ?_)
       refine wp_store (u := .agg #[.int .u64 (ng : Nat), .int .u64 (cov : Nat), .int .i64 (B.length : Nat), .int .u32 (ns : Nat)]) (by rfl) (by rfl) (by kernel_rfl) hB6 (by simp [Value.cells]) (by simp [Value.cells, Value.oneCell']) ?_
       intro w7 hm7 hB7
       refine hK _ _ ?_
       clear hK K
       refine wpT_nil ?_
       go_wp2_with fail
       go_meet
       exact ⟨n, rfl, (hmD.ext hm6).then hm7 (fun h hh => .inr (by have e : h = n := (by simpa using hh); have := hmD.size; omega)), by have := hmD.size; omega, hB7⟩
     · iterate 7 (refine wpT_n rfl rfl (fun K hK => ?_); go_wp2_with fail)
       refine wpT_e rfl rfl (fun K hK => ?_)
       refine wp_alloc zero_header ?_
       intro n w6 hn1 hn2 hm6 hB6
       simp only [put_some, List.set_cons_succ, List.set_cons_zero]
       refine hK _ _ ⟨agains_cons rfl (again_load rfl rfl (hm6.block k hKx.lt (by simp)) hKx.kinds) (agains_cons rfl (again_const (fun _ => rfl)) (agains_cons rfl (again_len rfl (by rfl) (by kernel_rfl)) agains_nil)), ?_⟩
       clear hK K
       refine wpT_callh rfl rfl (fun K hK => ?_)
       go_wp2_with (go_at_call 38; (with_reducible refine (SU _ (hbx.ext hm6) (hTx.ext hm6)).mono ?_); rintro e wz ⟨rfl, hwz⟩; obtain rfl := hwz)
       refine ⟨agains_same, ?_⟩
       refine wpT_n rfl rfl (fun K hK => ?_)
       go_wp2_with fail
       refine wpT_e0 rfl rfl (fun K hK => ?_)
       refine wp_store (u := .agg #[.int .u64 (ng : Nat), .int .u64 (cov : Nat), .int .i64 (B.length : Nat), .int .u32 (ns : Nat)]) (by rfl) (by rfl) (by kernel_rfl) hB6 (by simp [Value.cells]) (by simp [Value.cells, Value.oneCell']) ?_
       intro w7 hm7 hB7
       refine hK _ _ ?_
       clear hK K
       refine wpT_nil ?_
       go_wp2_with fail
       go_meet
       exact ⟨n, rfl, (hmD.ext hm6).then hm7 (fun h hh => .inr (by have e : h = n := (by simpa using hh); have := hmD.size; omega)), by have := hmD.size; omega, hB7⟩
   case rest =>
     obtain ⟨n, rfl, hm6, hn6, hN6⟩ := hcut
     have SV6 := SV5.new hm6 hn6 hN6
     clear hN6
     have n0 := (SV6.blk 0 rfl).cell' (i := 0) rfl
     have n1 := (SV6.blk 0 rfl).cell' (i := 1) rfl
     have n2 := (SV6.blk 0 rfl).cell' (i := 2) rfl
     have n3 := (SV6.blk 0 rfl).cell' (i := 3) rfl
     cases hmy : mayH ⟨ng, cov, (B.length : Nat), ns⟩ with
     | false =>
       have hpe : putE ⟨ng, cov, (B.length : Nat), ns⟩ = 2 := by unfold putE; rw [hmy]; rfl
       rw [hpe] at PU
       go_wp2_with (first
                     | (with_reducible refine st_store ?_)
                     | (go_at_call 14; (with_reducible refine (PU _ (hT.mod SV6.M h0)).mono ?_); rintro e w7 ⟨hvv, rfl, hoh, hnh, hm7⟩; obtain ⟨aoh, caph, rfl, _, _⟩ := hoh.sl.form))
       refine StopOp.go rfl fun K hK => ?_
       refine wp_store (u := .agg #[.int .u64 0, .int .u64 0, .int .i64 0, .int .u32 0]) (by rfl) (by rfl) (by kernel_rfl) ((SV6.ext hm7).blk 2 rfl) (by simp [Value.cells]) (by simp [Value.cells, Value.oneCell']) ?_
       intro w90 hm90 hB90
       refine hK _ _ ?_
       clear hK K
       have z0 := hB90.cell' (i := 0) rfl
       have z1 := hB90.cell' (i := 1) rfl
       have z2 := hB90.cell' (i := 2) rfl
       have z3 := hB90.cell' (i := 3) rfl
       have hfin := ((SV6.ext hm7).set (i := 2) rfl hm90 hB90 rfl).fin
       have hlaw : R0 = _ := HLR.out.2.1 (by first | exact trivial | rfl) hmy
       go_wp2_with fail
       refine bodyPost_ret (v := .tuple #[.agg #[.int .u64 0, .int .u64 0, .int .i64 0, .int .u32 0], .int .i64 6]) (by simp [results, Tryz.results8, go_sem, z0, z1, z2, z3]) rfl ?_
       rw [hlaw]
       exact ⟨rfl, hfin⟩
     | true =>
       have hpe : putE ⟨ng, cov, (B.length : Nat), ns⟩ = 0 := by unfold putE; rw [hmy]; rfl
       have hpb : putB ⟨ng, cov, (B.length : Nat), ns⟩ = hdr ⟨ng, cov, (B.length : Nat), ns⟩ := by unfold putB; rw [hmy]; rfl
       rw [hpe, hpb] at PU
       have hput := HLR.out.2.2 (by first | exact trivial | rfl) hmy
       go_wp2_with (first
                     | (with_reducible refine st_alloc ?_)
                     | (go_at_call 14; (with_reducible refine (PU _ (hT.mod SV6.M h0)).mono ?_); rintro e w7 ⟨hvv, rfl, hoh, hnh, hm7⟩; obtain ⟨aoh, caph, rfl, _, _⟩ := Ob.frn hoh (hdr_len _); have d0 := Blk.cell' (hS.mod (SV6.ext hm7).M hs) (i := 0) rfl; have d1 := Blk.cell' (hS.mod (SV6.ext hm7).M hs) (i := 1) rfl))
       have SV7 := SV6.ext hm7
       refine StopOp.go rfl fun K hK => ?_
       refine wp_alloc zero_slot ?_
       intro x w8 hx1 hx2 hm8 hX8
       simp only [put_some, List.set_cons_succ, List.set_cons_zero]
       refine hK _ _ ?_
       clear hK K
       go_wp2_with (with_reducible refine st_store ?_)
       refine StopOp.go rfl fun K hK => ?_
       refine wp_store (u := .agg #[.pointer (some ⟨a, 0, none⟩)]) (by rfl) (by rfl) (by kernel_rfl) hX8 (by simp [Value.cells]) (by simp [Value.cells, Value.oneCell']) ?_
       intro w9 hm9 hB9
       refine hK _ _ ?_
       clear hK K
       have SV9 := (SV7.new hm8 hx1 hX8).set (i := 0) (cs' := [.pointer (some ⟨a, 0, none⟩)]) rfl hm9 hB9 rfl
       have hm79 : Mod [] w7 w9 := hm8.fresh hm9 (by simpa using hx1)
       clear d0 d1 n0 n1 n2 n3 hX8 hB9
       by_cases hi0 : i1 = 0
       · subst hi0
         rw [if_pos rfl] at hput
         have d1 := Blk.cell' (hS.mod SV9.M hs) (i := 1) rfl
         go_wp2_with (with_reducible refine st_store ?_)
         refine StopOp.go rfl fun K hK => ?_
         refine wp_store (u := .agg #[.pointer (some ⟨b, 0, none⟩)]) (by rfl) (by rfl) (by kernel_rfl) (SV9.blk 0 rfl) (by simp [Value.cells]) (by simp [Value.cells, Value.oneCell']) ?_
         intro w10 hm10 hB10
         refine hK _ _ ?_
         clear hK K
         have SV10 := SV9.set (i := 0) (cs' := [.pointer (some ⟨b, 0, none⟩)]) rfl hm10 hB10 rfl
         have hm7x : Mod [] w7 w10 := hm79.fresh hm10 (by have := hm7.size; simpa using hx1)
         clear d1 hB10
         have x0 := (SV10.blk 0 rfl).cell' (i := 0) rfl
         have SI := fun w h => gSize_any b p f1 c z w h
         go_wp2_with (first
                       | (with_reducible refine st_make ?_)
                       | (go_at_call 39; (with_reducible refine (SI _ (hB.mod SV10.M hb)).mono ?_); rintro e w11 ⟨rfl, rfl⟩))
         refine StopOp.go rfl fun K hK => ?_
         refine wp_make (nl := z) (nc := z) stB (by rfl) (by rfl) rfl rfl (Nat.le_refl _) (by omega) (by omega) ?_
         intro sec w11 hs11 hs12 hm11 hB11
         simp only [put_some, List.set_cons_succ, List.set_cons_zero]
         refine hK _ _ ?_
         clear hK K
         have hB11' : Blk w11 sec 5 (bv (zeros z)) := by rw [bv_zeros]; simpa [Value.cells] using hB11
         have SV11 := SV10.new hm11 hs11 hB11'
         have hsrc := Bs.onn ((hoh.bs).ext (hm7x.ext hm11)) (hdr_len _)
         go_wp2_with (with_reducible refine st_copy ?_)
         refine StopOp.go rfl fun K hK => ?_
         refine wp_copy_head (rest := []) 32 (cap := z) (n := z) (m := 32) (by omega) Tryz.underlying39 (by kernel_rfl) (by rfl) (by rfl) (by simpa using hB11') (by rw [bv_length]; simp [zeros]) hsrc (bv_one _) ?_
         intro w12 hB12 hm12
         simp only [put_some, List.set_cons_succ, List.set_cons_zero]
         refine hK _ _ ?_
         clear hK K
         have hB12' : Blk w12 sec 5 (bv (secH z ⟨ng, cov, (B.length : Nat), ns⟩)) := by rw [← bv_sec z h32]; simpa using hB12
         have SV12 := SV11.set (i := 0) rfl hm12 hB12' rfl
         clear hB11 hB12 hsrc x0
         have x0 := (SV12.blk 1 rfl).cell' (i := 0) rfl
         go_wp2_with (first
                       | (with_reducible refine st_bslice ?_)
                       | (go_at_call 39; (with_reducible refine (SI _ (hB.mod SV12.M hb)).mono ?_); rintro e w11 ⟨rfl, rfl⟩))
         refine StopOp.go rfl fun K hK => ?_
         refine wp_bslice stAN [.agg #[.int .i64 (z : Nat), .slice aob B.length capb], .agg #[.int .i64 0, .slice (some ⟨sec, 0, none⟩) z z]] rfl (by decide) (by rfl) (by simp [Value.cells]) ?_
         intro ls w13 hl1 hl2 hm13 hB13
         simp only [put_some, List.set_cons_succ, List.set_cons_zero]
         refine hK _ _ ?_
         clear hK K
         have hB13' : Blk w13 ls 91 [.int .i64 (z : Nat), .slice aob B.length capb, .int .i64 0, .slice (some ⟨sec, 0, none⟩) z z] := hB13
         have SV13 := SV12.new hm13 hl1 hB13'
         clear hB13 x0
         have hz0 : V1.m.sz = z := by rw [l1]; exact hz
         have hdf10 : f1 + c ≤ V1.m.dur.length := by rw [l1]; exact hf1
         have hrow00 : V1.m.row.length + 3 * (c * z) ≤ 1000000 := by rw [l1]; omega
         have hrow0 : V1.m.row.length + c * z ≤ 1000000 := by omega
         have hn0 : V1.n + 2 * (c * z) ≤ 1000000 := by omega
         have hat0 : i64 ((z : Nat) : Int) := ⟨by omega, by omega⟩
         have hat1 : i64 0 := ⟨by omega, by omega⟩
         have l00 := (SV13.blk 0 rfl).cell' (i := 0) rfl
         have l01 := (SV13.blk 0 rfl).cell' (i := 1) rfl
         go_wp2_with (first
                       | (with_reducible refine st_alloc ?_)
                       | (with_reducible refine wp_loopN 2 (fun _ _ => ?_)))
         refine StopOp.go rfl fun K hK => ?_
         refine wp_alloc zero_anon ?_
         intro y0 wa0 ha01 ha02 hma0 hYa0
         simp only [put_some, List.set_cons_succ, List.set_cons_zero]
         refine hK _ _ ?_
         clear hK K
         go_wp2_with (with_reducible refine st_store ?_)
         refine StopOp.go rfl fun K hK => ?_
         refine wp_store (u := .agg #[.int .i64 (z : Nat), .slice aob B.length capb]) (by rfl) (by rfl) (by kernel_rfl) hYa0 (by simp [Value.cells]) (by simp [Value.cells, Value.oneCell']) ?_
         intro wb0 hmb0 hYb0
         refine hK _ _ ?_
         clear hK K
         have SY0 := (SV13.new hma0 ha01 hYa0).set (i := 0) (cs' := [.int .i64 (z : Nat), .slice aob B.length capb]) rfl hmb0 hYb0 rfl
         try clear l00 l01
         have y00 := (SY0.blk 0 rfl).cell' (i := 0) rfl
         have y01 := (SY0.blk 0 rfl).cell' (i := 1) rfl
         have x00 := (SY0.blk 3 rfl).cell' (i := 0) rfl
         have WR := gWrite_any b p q f1 c z V1 _ (z : Nat) B (.slice aob B.length capb) wb0 SY0.P (hB.mod SY0.M hb) (Bs.md hbb SY0.M (fun x hx => (hbB x hx).2)) hz0 hdf10 hn0 hrow0 hat0 (SY0.old hlb hb) (fun x hx => ⟨Nat.lt_of_lt_of_le (hbB x hx).1 SY0.M.size, SY0.old (hbB x hx).1 (hbB x hx).2⟩)
         unfold GWrP at WR
         have hws := wrA_sz f1 c z V1 (z : Nat) B
         obtain ⟨⟨Va0, Ea0⟩, hW0⟩ : ∃ R, R = wrA f1 c z V1 (z : Nat) B := ⟨_, rfl⟩
         rw [← hW0] at WR hws
         dsimp only at WR hws
         obtain ⟨q1, q2, q3, q4⟩ := hws
         obtain ⟨q5, q6, q7, q8⟩ := sy_sz Va0
         have hzs0 : Va0.sy.m.sz = z := by rw [q5, q1]; exact hz0
         have hns0 : Va0.n ≤ 1000000 := by omega
         have hrs0 : Va0.m.row.length ≤ 1000000 := by omega
         have hWW0 := Lib.hid hW0
         clear hW0
         have hdf11 : f1 + c ≤ Va0.sy.m.dur.length := by rw [q6, q2]; exact hdf10
         have hn1 : Va0.sy.n + 2 * (c * z) ≤ 1000000 := by omega
         have hrow1 : Va0.sy.m.row.length + c * z ≤ 1000000 := by omega
         have hz1 := hzs0
         clear q1 q2 q3 q4 q5 q6 q7 q8
         by_cases hEa0 : Ea0 = 0
         · subst hEa0
           have SYN := fun L' w (hR : Rgn w b p f1 c z) (hP : Pd w p q Va0 L') => gSync_any b p q f1 c z Va0 L' w hR hP hns0 hrs0
           obtain ⟨Es0, hEs0⟩ : ∃ E, E = Va0.e 0 := ⟨_, rfl⟩
           rw [← hEs0] at SYN
           have HES0 := Lib.hid hEs0
           clear hEs0
           by_cases hes0 : Es0 = 0
           · subst hes0
             go_wp2_with (first
                           | (with_reducible refine st_alloc ?_)
                           | (go_at_call 40; (with_reducible refine (WR).mono ?_); rintro e wc0 ⟨rfl, hqc0⟩; obtain ⟨Lc0, SC0⟩ := SY0.wr hqc0; have xc0 := (SC0.blk 3 rfl).cell' (i := 0) rfl)
                           | (go_at_call 41; (with_reducible refine (SYN _ _ (hB.mod SC0.M hb) SC0.P).mono ?_); rintro e wd0 ⟨rfl, hqd0⟩; obtain ⟨Ld0, SD0⟩ := SC0.wr hqd0; have nd00 := (SD0.blk 4 rfl).cell' (i := 0) rfl; have nd01 := (SD0.blk 4 rfl).cell' (i := 1) rfl; have nd02 := (SD0.blk 4 rfl).cell' (i := 2) rfl; have nd03 := (SD0.blk 4 rfl).cell' (i := 3) rfl; have nl00 := (SD0.blk 1 rfl).cell' (i := 2) rfl; have nl01 := (SD0.blk 1 rfl).cell' (i := 3) rfl)
                           | (with_reducible refine LoopN.step (fun _ _ => ?_)))
             refine StopOp.go rfl fun K hK => ?_
             refine wp_alloc zero_anon ?_
             intro y1 wa1 ha11 ha12 hma1 hYa1
             simp only [put_some, List.set_cons_succ, List.set_cons_zero]
             refine hK _ _ ?_
             clear hK K
             go_wp2_with (with_reducible refine st_store ?_)
             refine StopOp.go rfl fun K hK => ?_
             refine wp_store (u := .agg #[.int .i64 0, .slice (some ⟨sec, 0, none⟩) z z]) (by rfl) (by rfl) (by kernel_rfl) hYa1 (by simp [Value.cells]) (by simp [Value.cells, Value.oneCell']) ?_
             intro wb1 hmb1 hYb1
             refine hK _ _ ?_
             clear hK K
             have SY1 := (SD0.new hma1 ha11 hYa1).set (i := 0) (cs' := [.int .i64 0, .slice (some ⟨sec, 0, none⟩) z z]) rfl hmb1 hYb1 rfl
             try clear l10 l11
             have y10 := (SY1.blk 0 rfl).cell' (i := 0) rfl
             have y11 := (SY1.blk 0 rfl).cell' (i := 1) rfl
             have x10 := (SY1.blk 4 rfl).cell' (i := 0) rfl
             have hsb : Bs wb1 (.slice (some ⟨sec, 0, none⟩) z z) (secH z ⟨ng, cov, (B.length : Nat), ns⟩) := Bs.onz (Bs.of_blk (rest := []) (by simpa using SY1.blk 3 rfl) (by rw [sec_len h32]; exact Nat.le_refl _) (by omega)) (sec_len h32 _)
             have WR := gWrite_any b p q f1 c z Va0.sy _ 0 (secH z ⟨ng, cov, (B.length : Nat), ns⟩) (.slice (some ⟨sec, 0, none⟩) z z) wb1 SY1.P (hB.mod SY1.M hb) hsb hz1 hdf11 hn1 hrow1 hat1 (SY1.old hlb hb) (fun x hx => by have e : x = sec := (by simpa [blks] using hx); subst e; exact ⟨(SY1.blk 3 rfl).lt, SY1.out 3 rfl⟩)
             unfold GWrP at WR
             have hws := wrA_sz f1 c z Va0.sy 0 (secH z ⟨ng, cov, (B.length : Nat), ns⟩)
             obtain ⟨⟨Va1, Ea1⟩, hW1⟩ : ∃ R, R = wrA f1 c z Va0.sy 0 (secH z ⟨ng, cov, (B.length : Nat), ns⟩) := ⟨_, rfl⟩
             rw [← hW1] at WR hws
             dsimp only at WR hws
             obtain ⟨q1, q2, q3, q4⟩ := hws
             obtain ⟨q5, q6, q7, q8⟩ := sy_sz Va1
             have hzs1 : Va1.sy.m.sz = z := by rw [q5, q1]; exact hz1
             have hns1 : Va1.n ≤ 1000000 := by omega
             have hrs1 : Va1.m.row.length ≤ 1000000 := by omega
             have hWW1 := Lib.hid hW1
             clear hW1
             clear q1 q2 q3 q4 q5 q6 q7 q8
             by_cases hEa1 : Ea1 = 0
             · subst hEa1
               have SYN := fun L' w (hR : Rgn w b p f1 c z) (hP : Pd w p q Va1 L') => gSync_any b p q f1 c z Va1 L' w hR hP hns1 hrs1
               obtain ⟨Es1, hEs1⟩ : ∃ E, E = Va1.e 0 := ⟨_, rfl⟩
               rw [← hEs1] at SYN
               have HES1 := Lib.hid hEs1
               clear hEs1
               by_cases hes1 : Es1 = 0
               · subst hes1
                 go_wp2_with (first
                               | (with_reducible refine st_store ?_)
                               | (go_at_call 40; (with_reducible refine (WR).mono ?_); rintro e wc1 ⟨rfl, hqc1⟩; obtain ⟨Lc1, SC1⟩ := SY1.wr hqc1; have xc1 := (SC1.blk 4 rfl).cell' (i := 0) rfl)
                               | (go_at_call 41; (with_reducible refine (SYN _ _ (hB.mod SC1.M hb) SC1.P).mono ?_); rintro e wd1 ⟨rfl, hqd1⟩; obtain ⟨Ld1, SD1⟩ := SC1.wr hqd1; have nd10 := (SD1.blk 5 rfl).cell' (i := 0) rfl; have nd11 := (SD1.blk 5 rfl).cell' (i := 1) rfl; have nd12 := (SD1.blk 5 rfl).cell' (i := 2) rfl; have nd13 := (SD1.blk 5 rfl).cell' (i := 3) rfl; have nl10 := (SD1.blk 2 rfl).cell' (i := 2) rfl; have nl11 := (SD1.blk 2 rfl).cell' (i := 3) rfl)
                               | (with_reducible refine LoopN.step (fun _ _ => ?_)))
                 refine StopOp.go rfl fun K hK => ?_
                 refine wp_store (u := .agg #[.int .u64 (ng : Nat), .int .u64 (cov : Nat), .int .i64 (B.length : Nat), .int .u32 (ns : Nat)]) (by rfl) (by rfl) (by kernel_rfl) (SD1.blk 7 rfl) (by simp [Value.cells]) (by simp [Value.cells, Value.oneCell']) ?_
                 intro w90 hm90 hB90
                 refine hK _ _ ?_
                 clear hK K
                 have z0 := hB90.cell' (i := 0) rfl
                 have z1 := hB90.cell' (i := 1) rfl
                 have z2 := hB90.cell' (i := 2) rfl
                 have z3 := hB90.cell' (i := 3) rfl
                 have hfin := (SD1.set (i := 7) rfl hm90 hB90 rfl).fin
                 have hlaw : R0 = _ := (hput.trans (saveP_q hWW0.out.symm HES0.out.symm)).trans (saveQ_y hWW1.out.symm HES1.out.symm)
                 go_wp2_with fail
                 refine bodyPost_ret (v := .tuple #[.agg #[.int .u64 (ng : Nat), .int .u64 (cov : Nat), .int .i64 (B.length : Nat), .int .u32 (ns : Nat)], .int .i64 0]) (by simp [results, Tryz.results8, go_sem, z0, z1, z2, z3]) rfl ?_
                 rw [hlaw]
                 exact ⟨rfl, hfin⟩
               · have des1 : (Es1 != 0) = true := bne_iff_ne.2 hes1
                 go_wp2_with (first
                               | (with_reducible refine st_store ?_)
                               | (go_at_call 40; (with_reducible refine (WR).mono ?_); rintro e wc1 ⟨rfl, hqc1⟩; obtain ⟨Lc1, SC1⟩ := SY1.wr hqc1; have xc1 := (SC1.blk 4 rfl).cell' (i := 0) rfl)
                               | (go_at_call 41; (with_reducible refine (SYN _ _ (hB.mod SC1.M hb) SC1.P).mono ?_); rintro e wd1 ⟨rfl, hqd1⟩; obtain ⟨Ld1, SD1⟩ := SC1.wr hqd1; have nd10 := (SD1.blk 5 rfl).cell' (i := 0) rfl; have nd11 := (SD1.blk 5 rfl).cell' (i := 1) rfl; have nd12 := (SD1.blk 5 rfl).cell' (i := 2) rfl; have nd13 := (SD1.blk 5 rfl).cell' (i := 3) rfl; have nl10 := (SD1.blk 2 rfl).cell' (i := 2) rfl; have nl11 := (SD1.blk 2 rfl).cell' (i := 3) rfl))
                 refine StopOp.go rfl fun K hK => ?_
                 refine wp_store (u := .agg #[.int .u64 0, .int .u64 0, .int .i64 0, .int .u32 0]) (by rfl) (by rfl) (by kernel_rfl) (SD1.blk 7 rfl) (by simp [Value.cells]) (by simp [Value.cells, Value.oneCell']) ?_
                 intro w90 hm90 hB90
                 refine hK _ _ ?_
                 clear hK K
                 have z0 := hB90.cell' (i := 0) rfl
                 have z1 := hB90.cell' (i := 1) rfl
                 have z2 := hB90.cell' (i := 2) rfl
                 have z3 := hB90.cell' (i := 3) rfl
                 have hfin := (SD1.set (i := 7) rfl hm90 hB90 rfl).fin
                 have hlaw : R0 = (Va1.sy, Es1, hd0) := (hput.trans (saveP_q hWW0.out.symm HES0.out.symm)).trans (by rw [HES1.out]; exact saveQ_s hWW1.out.symm (by rw [← HES1.out]; exact hes1))
                 go_wp2_with fail
                 refine bodyPost_ret (v := .tuple #[.agg #[.int .u64 0, .int .u64 0, .int .i64 0, .int .u32 0], .int .i64 Es1]) (by simp [results, Tryz.results8, go_sem, z0, z1, z2, z3]) rfl ?_
                 rw [hlaw]
                 exact ⟨rfl, hfin⟩
             · have dea1 : (Ea1 != 0) = true := bne_iff_ne.2 hEa1
               go_wp2_with (first
                             | (with_reducible refine st_store ?_)
                             | (go_at_call 40; (with_reducible refine (WR).mono ?_); rintro e wc1 ⟨rfl, hqc1⟩; obtain ⟨Lc1, SC1⟩ := SY1.wr hqc1; have xc1 := (SC1.blk 4 rfl).cell' (i := 0) rfl))
               refine StopOp.go rfl fun K hK => ?_
               refine wp_store (u := .agg #[.int .u64 0, .int .u64 0, .int .i64 0, .int .u32 0]) (by rfl) (by rfl) (by kernel_rfl) (SC1.blk 7 rfl) (by simp [Value.cells]) (by simp [Value.cells, Value.oneCell']) ?_
               intro w90 hm90 hB90
               refine hK _ _ ?_
               clear hK K
               have z0 := hB90.cell' (i := 0) rfl
               have z1 := hB90.cell' (i := 1) rfl
               have z2 := hB90.cell' (i := 2) rfl
               have z3 := hB90.cell' (i := 3) rfl
               have hfin := (SC1.set (i := 7) rfl hm90 hB90 rfl).fin
               have hlaw : R0 = _ := (hput.trans (saveP_q hWW0.out.symm HES0.out.symm)).trans (saveQ_w hWW1.out.symm hEa1)
               go_wp2_with fail
               refine bodyPost_ret (v := .tuple #[.agg #[.int .u64 0, .int .u64 0, .int .i64 0, .int .u32 0], .int .i64 Ea1]) (by simp [results, Tryz.results8, go_sem, z0, z1, z2, z3]) rfl ?_
               rw [hlaw]
               exact ⟨rfl, hfin⟩
           · have des0 : (Es0 != 0) = true := bne_iff_ne.2 hes0
             go_wp2_with (first
                           | (with_reducible refine st_store ?_)
                           | (go_at_call 40; (with_reducible refine (WR).mono ?_); rintro e wc0 ⟨rfl, hqc0⟩; obtain ⟨Lc0, SC0⟩ := SY0.wr hqc0; have xc0 := (SC0.blk 3 rfl).cell' (i := 0) rfl)
                           | (go_at_call 41; (with_reducible refine (SYN _ _ (hB.mod SC0.M hb) SC0.P).mono ?_); rintro e wd0 ⟨rfl, hqd0⟩; obtain ⟨Ld0, SD0⟩ := SC0.wr hqd0; have nd00 := (SD0.blk 4 rfl).cell' (i := 0) rfl; have nd01 := (SD0.blk 4 rfl).cell' (i := 1) rfl; have nd02 := (SD0.blk 4 rfl).cell' (i := 2) rfl; have nd03 := (SD0.blk 4 rfl).cell' (i := 3) rfl; have nl00 := (SD0.blk 1 rfl).cell' (i := 2) rfl; have nl01 := (SD0.blk 1 rfl).cell' (i := 3) rfl))
             refine StopOp.go rfl fun K hK => ?_
             refine wp_store (u := .agg #[.int .u64 0, .int .u64 0, .int .i64 0, .int .u32 0]) (by rfl) (by rfl) (by kernel_rfl) (SD0.blk 6 rfl) (by simp [Value.cells]) (by simp [Value.cells, Value.oneCell']) ?_
             intro w90 hm90 hB90
             refine hK _ _ ?_
             clear hK K
             have z0 := hB90.cell' (i := 0) rfl
             have z1 := hB90.cell' (i := 1) rfl
             have z2 := hB90.cell' (i := 2) rfl
             have z3 := hB90.cell' (i := 3) rfl
             have hfin := (SD0.set (i := 6) rfl hm90 hB90 rfl).fin
             have hlaw : R0 = (Va0.sy, Es0, hd0) := hput.trans (by rw [HES0.out]; exact saveP_s hWW0.out.symm (by rw [← HES0.out]; exact hes0))
             go_wp2_with fail
             refine bodyPost_ret (v := .tuple #[.agg #[.int .u64 0, .int .u64 0, .int .i64 0, .int .u32 0], .int .i64 Es0]) (by simp [results, Tryz.results8, go_sem, z0, z1, z2, z3]) rfl ?_
             rw [hlaw]
             exact ⟨rfl, hfin⟩
         · have dea0 : (Ea0 != 0) = true := bne_iff_ne.2 hEa0
           go_wp2_with (first
                         | (with_reducible refine st_store ?_)
                         | (go_at_call 40; (with_reducible refine (WR).mono ?_); rintro e wc0 ⟨rfl, hqc0⟩; obtain ⟨Lc0, SC0⟩ := SY0.wr hqc0; have xc0 := (SC0.blk 3 rfl).cell' (i := 0) rfl))
           refine StopOp.go rfl fun K hK => ?_
           refine wp_store (u := .agg #[.int .u64 0, .int .u64 0, .int .i64 0, .int .u32 0]) (by rfl) (by rfl) (by kernel_rfl) (SC0.blk 6 rfl) (by simp [Value.cells]) (by simp [Value.cells, Value.oneCell']) ?_
           intro w90 hm90 hB90
           refine hK _ _ ?_
           clear hK K
           have z0 := hB90.cell' (i := 0) rfl
           have z1 := hB90.cell' (i := 1) rfl
           have z2 := hB90.cell' (i := 2) rfl
           have z3 := hB90.cell' (i := 3) rfl
           have hfin := (SC0.set (i := 6) rfl hm90 hB90 rfl).fin
           have hlaw : R0 = _ := hput.trans (saveP_w hWW0.out.symm hEa0)
           go_wp2_with fail
           refine bodyPost_ret (v := .tuple #[.agg #[.int .u64 0, .int .u64 0, .int .i64 0, .int .u32 0], .int .i64 Ea0]) (by simp [results, Tryz.results8, go_sem, z0, z1, z2, z3]) rfl ?_
           rw [hlaw]
           exact ⟨rfl, hfin⟩
       · rw [if_neg hi0] at hput
         have dI : (i1 == 0) = false := beq_eq_false_iff_ne.2 hi0
         have hm7x := hm79
         have x0 := (SV9.blk 0 rfl).cell' (i := 0) rfl
         have SI := fun w h => gSize_any a p f0 c z w h
         go_wp2_with (first
                       | (with_reducible refine st_make ?_)
                       | (go_at_call 39; (with_reducible refine (SI _ (hA.mod SV9.M ha)).mono ?_); rintro e w11 ⟨rfl, rfl⟩))
         refine StopOp.go rfl fun K hK => ?_
         refine wp_make (nl := z) (nc := z) stB (by rfl) (by rfl) rfl rfl (Nat.le_refl _) (by omega) (by omega) ?_
         intro sec w11 hs11 hs12 hm11 hB11
         simp only [put_some, List.set_cons_succ, List.set_cons_zero]
         refine hK _ _ ?_
         clear hK K
         have hB11' : Blk w11 sec 5 (bv (zeros z)) := by rw [bv_zeros]; simpa [Value.cells] using hB11
         have SV11 := SV9.new hm11 hs11 hB11'
         have hsrc := Bs.onn ((hoh.bs).ext (hm7x.ext hm11)) (hdr_len _)
         go_wp2_with (with_reducible refine st_copy ?_)
         refine StopOp.go rfl fun K hK => ?_
         refine wp_copy_head (rest := []) 32 (cap := z) (n := z) (m := 32) (by omega) Tryz.underlying39 (by kernel_rfl) (by rfl) (by rfl) (by simpa using hB11') (by rw [bv_length]; simp [zeros]) hsrc (bv_one _) ?_
         intro w12 hB12 hm12
         simp only [put_some, List.set_cons_succ, List.set_cons_zero]
         refine hK _ _ ?_
         clear hK K
         have hB12' : Blk w12 sec 5 (bv (secH z ⟨ng, cov, (B.length : Nat), ns⟩)) := by rw [← bv_sec z h32]; simpa using hB12
         have SV12 := SV11.set (i := 0) rfl hm12 hB12' rfl
         clear hB11 hB12 hsrc x0
         have x0 := (SV12.blk 1 rfl).cell' (i := 0) rfl
         go_wp2_with (first
                       | (with_reducible refine st_bslice ?_)
                       | (go_at_call 39; (with_reducible refine (SI _ (hA.mod SV12.M ha)).mono ?_); rintro e w11 ⟨rfl, rfl⟩))
         refine StopOp.go rfl fun K hK => ?_
         refine wp_bslice stAN [.agg #[.int .i64 (z : Nat), .slice aob B.length capb], .agg #[.int .i64 0, .slice (some ⟨sec, 0, none⟩) z z]] rfl (by decide) (by rfl) (by simp [Value.cells]) ?_
         intro ls w13 hl1 hl2 hm13 hB13
         simp only [put_some, List.set_cons_succ, List.set_cons_zero]
         refine hK _ _ ?_
         clear hK K
         have hB13' : Blk w13 ls 91 [.int .i64 (z : Nat), .slice aob B.length capb, .int .i64 0, .slice (some ⟨sec, 0, none⟩) z z] := hB13
         have SV13 := SV12.new hm13 hl1 hB13'
         clear hB13 x0
         have hz0 : V1.m.sz = z := by rw [l1]; exact hz
         have hdf00 : f0 + c ≤ V1.m.dur.length := by rw [l1]; exact hf0
         have hrow00 : V1.m.row.length + 3 * (c * z) ≤ 1000000 := by rw [l1]; omega
         have hrow0 : V1.m.row.length + c * z ≤ 1000000 := by omega
         have hn0 : V1.n + 2 * (c * z) ≤ 1000000 := by omega
         have hat0 : i64 ((z : Nat) : Int) := ⟨by omega, by omega⟩
         have hat1 : i64 0 := ⟨by omega, by omega⟩
         have l00 := (SV13.blk 0 rfl).cell' (i := 0) rfl
         have l01 := (SV13.blk 0 rfl).cell' (i := 1) rfl
         go_wp2_with (first
                       | (with_reducible refine st_alloc ?_)
                       | (with_reducible refine wp_loopN 2 (fun _ _ => ?_)))
         refine StopOp.go rfl fun K hK => ?_
         refine wp_alloc zero_anon ?_
         intro y0 wa0 ha01 ha02 hma0 hYa0
         simp only [put_some, List.set_cons_succ, List.set_cons_zero]
         refine hK _ _ ?_
         clear hK K
         go_wp2_with (with_reducible refine st_store ?_)
         refine StopOp.go rfl fun K hK => ?_
         refine wp_store (u := .agg #[.int .i64 (z : Nat), .slice aob B.length capb]) (by rfl) (by rfl) (by kernel_rfl) hYa0 (by simp [Value.cells]) (by simp [Value.cells, Value.oneCell']) ?_
         intro wb0 hmb0 hYb0
         refine hK _ _ ?_
         clear hK K
         have SY0 := (SV13.new hma0 ha01 hYa0).set (i := 0) (cs' := [.int .i64 (z : Nat), .slice aob B.length capb]) rfl hmb0 hYb0 rfl
         try clear l00 l01
         have y00 := (SY0.blk 0 rfl).cell' (i := 0) rfl
         have y01 := (SY0.blk 0 rfl).cell' (i := 1) rfl
         have x00 := (SY0.blk 3 rfl).cell' (i := 0) rfl
         have WR := gWrite_any a p q f0 c z V1 _ (z : Nat) B (.slice aob B.length capb) wb0 SY0.P (hA.mod SY0.M ha) (Bs.md hbb SY0.M (fun x hx => (hbB x hx).2)) hz0 hdf00 hn0 hrow0 hat0 (SY0.old hla ha) (fun x hx => ⟨Nat.lt_of_lt_of_le (hbB x hx).1 SY0.M.size, SY0.old (hbB x hx).1 (hbB x hx).2⟩)
         unfold GWrP at WR
         have hws := wrA_sz f0 c z V1 (z : Nat) B
         obtain ⟨⟨Va0, Ea0⟩, hW0⟩ : ∃ R, R = wrA f0 c z V1 (z : Nat) B := ⟨_, rfl⟩
         rw [← hW0] at WR hws
         dsimp only at WR hws
         obtain ⟨q1, q2, q3, q4⟩ := hws
         obtain ⟨q5, q6, q7, q8⟩ := sy_sz Va0
         have hzs0 : Va0.sy.m.sz = z := by rw [q5, q1]; exact hz0
         have hns0 : Va0.n ≤ 1000000 := by omega
         have hrs0 : Va0.m.row.length ≤ 1000000 := by omega
         have hWW0 := Lib.hid hW0
         clear hW0
         have hdf01 : f0 + c ≤ Va0.sy.m.dur.length := by rw [q6, q2]; exact hdf00
         have hn1 : Va0.sy.n + 2 * (c * z) ≤ 1000000 := by omega
         have hrow1 : Va0.sy.m.row.length + c * z ≤ 1000000 := by omega
         have hz1 := hzs0
         clear q1 q2 q3 q4 q5 q6 q7 q8
         by_cases hEa0 : Ea0 = 0
         · subst hEa0
           have SYN := fun L' w (hR : Rgn w a p f0 c z) (hP : Pd w p q Va0 L') => gSync_any a p q f0 c z Va0 L' w hR hP hns0 hrs0
           obtain ⟨Es0, hEs0⟩ : ∃ E, E = Va0.e 0 := ⟨_, rfl⟩
           rw [← hEs0] at SYN
           have HES0 := Lib.hid hEs0
           clear hEs0
           by_cases hes0 : Es0 = 0
           · subst hes0
             go_wp2_with (first
                           | (with_reducible refine st_alloc ?_)
                           | (go_at_call 40; (with_reducible refine (WR).mono ?_); rintro e wc0 ⟨rfl, hqc0⟩; obtain ⟨Lc0, SC0⟩ := SY0.wr hqc0; have xc0 := (SC0.blk 3 rfl).cell' (i := 0) rfl)
                           | (go_at_call 41; (with_reducible refine (SYN _ _ (hA.mod SC0.M ha) SC0.P).mono ?_); rintro e wd0 ⟨rfl, hqd0⟩; obtain ⟨Ld0, SD0⟩ := SC0.wr hqd0; have nd00 := (SD0.blk 4 rfl).cell' (i := 0) rfl; have nd01 := (SD0.blk 4 rfl).cell' (i := 1) rfl; have nd02 := (SD0.blk 4 rfl).cell' (i := 2) rfl; have nd03 := (SD0.blk 4 rfl).cell' (i := 3) rfl; have nl00 := (SD0.blk 1 rfl).cell' (i := 2) rfl; have nl01 := (SD0.blk 1 rfl).cell' (i := 3) rfl)
                           | (with_reducible refine LoopN.step (fun _ _ => ?_)))
             refine StopOp.go rfl fun K hK => ?_
             refine wp_alloc zero_anon ?_
             intro y1 wa1 ha11 ha12 hma1 hYa1
             simp only [put_some, List.set_cons_succ, List.set_cons_zero]
             refine hK _ _ ?_
             clear hK K
             go_wp2_with (with_reducible refine st_store ?_)
             refine StopOp.go rfl fun K hK => ?_
             refine wp_store (u := .agg #[.int .i64 0, .slice (some ⟨sec, 0, none⟩) z z]) (by rfl) (by rfl) (by kernel_rfl) hYa1 (by simp [Value.cells]) (by simp [Value.cells, Value.oneCell']) ?_
             intro wb1 hmb1 hYb1
             refine hK _ _ ?_
             clear hK K
             have SY1 := (SD0.new hma1 ha11 hYa1).set (i := 0) (cs' := [.int .i64 0, .slice (some ⟨sec, 0, none⟩) z z]) rfl hmb1 hYb1 rfl
             try clear l10 l11
             have y10 := (SY1.blk 0 rfl).cell' (i := 0) rfl
             have y11 := (SY1.blk 0 rfl).cell' (i := 1) rfl
             have x10 := (SY1.blk 4 rfl).cell' (i := 0) rfl
             have hsb : Bs wb1 (.slice (some ⟨sec, 0, none⟩) z z) (secH z ⟨ng, cov, (B.length : Nat), ns⟩) := Bs.onz (Bs.of_blk (rest := []) (by simpa using SY1.blk 3 rfl) (by rw [sec_len h32]; exact Nat.le_refl _) (by omega)) (sec_len h32 _)
             have WR := gWrite_any a p q f0 c z Va0.sy _ 0 (secH z ⟨ng, cov, (B.length : Nat), ns⟩) (.slice (some ⟨sec, 0, none⟩) z z) wb1 SY1.P (hA.mod SY1.M ha) hsb hz1 hdf01 hn1 hrow1 hat1 (SY1.old hla ha) (fun x hx => by have e : x = sec := (by simpa [blks] using hx); subst e; exact ⟨(SY1.blk 3 rfl).lt, SY1.out 3 rfl⟩)
             unfold GWrP at WR
             have hws := wrA_sz f0 c z Va0.sy 0 (secH z ⟨ng, cov, (B.length : Nat), ns⟩)
             obtain ⟨⟨Va1, Ea1⟩, hW1⟩ : ∃ R, R = wrA f0 c z Va0.sy 0 (secH z ⟨ng, cov, (B.length : Nat), ns⟩) := ⟨_, rfl⟩
             rw [← hW1] at WR hws
             dsimp only at WR hws
             obtain ⟨q1, q2, q3, q4⟩ := hws
             obtain ⟨q5, q6, q7, q8⟩ := sy_sz Va1
             have hzs1 : Va1.sy.m.sz = z := by rw [q5, q1]; exact hz1
             have hns1 : Va1.n ≤ 1000000 := by omega
             have hrs1 : Va1.m.row.length ≤ 1000000 := by omega
             have hWW1 := Lib.hid hW1
             clear hW1
             clear q1 q2 q3 q4 q5 q6 q7 q8
             by_cases hEa1 : Ea1 = 0
             · subst hEa1
               have SYN := fun L' w (hR : Rgn w a p f0 c z) (hP : Pd w p q Va1 L') => gSync_any a p q f0 c z Va1 L' w hR hP hns1 hrs1
               obtain ⟨Es1, hEs1⟩ : ∃ E, E = Va1.e 0 := ⟨_, rfl⟩
               rw [← hEs1] at SYN
               have HES1 := Lib.hid hEs1
               clear hEs1
               by_cases hes1 : Es1 = 0
               · subst hes1
                 go_wp2_with (first
                               | (with_reducible refine st_store ?_)
                               | (go_at_call 40; (with_reducible refine (WR).mono ?_); rintro e wc1 ⟨rfl, hqc1⟩; obtain ⟨Lc1, SC1⟩ := SY1.wr hqc1; have xc1 := (SC1.blk 4 rfl).cell' (i := 0) rfl)
                               | (go_at_call 41; (with_reducible refine (SYN _ _ (hA.mod SC1.M ha) SC1.P).mono ?_); rintro e wd1 ⟨rfl, hqd1⟩; obtain ⟨Ld1, SD1⟩ := SC1.wr hqd1; have nd10 := (SD1.blk 5 rfl).cell' (i := 0) rfl; have nd11 := (SD1.blk 5 rfl).cell' (i := 1) rfl; have nd12 := (SD1.blk 5 rfl).cell' (i := 2) rfl; have nd13 := (SD1.blk 5 rfl).cell' (i := 3) rfl; have nl10 := (SD1.blk 2 rfl).cell' (i := 2) rfl; have nl11 := (SD1.blk 2 rfl).cell' (i := 3) rfl)
                               | (with_reducible refine LoopN.step (fun _ _ => ?_)))
                 refine StopOp.go rfl fun K hK => ?_
                 refine wp_store (u := .agg #[.int .u64 (ng : Nat), .int .u64 (cov : Nat), .int .i64 (B.length : Nat), .int .u32 (ns : Nat)]) (by rfl) (by rfl) (by kernel_rfl) (SD1.blk 7 rfl) (by simp [Value.cells]) (by simp [Value.cells, Value.oneCell']) ?_
                 intro w90 hm90 hB90
                 refine hK _ _ ?_
                 clear hK K
                 have z0 := hB90.cell' (i := 0) rfl
                 have z1 := hB90.cell' (i := 1) rfl
                 have z2 := hB90.cell' (i := 2) rfl
                 have z3 := hB90.cell' (i := 3) rfl
                 have hfin := (SD1.set (i := 7) rfl hm90 hB90 rfl).fin
                 have hlaw : R0 = _ := (hput.trans (saveP_q hWW0.out.symm HES0.out.symm)).trans (saveQ_y hWW1.out.symm HES1.out.symm)
                 go_wp2_with fail
                 refine bodyPost_ret (v := .tuple #[.agg #[.int .u64 (ng : Nat), .int .u64 (cov : Nat), .int .i64 (B.length : Nat), .int .u32 (ns : Nat)], .int .i64 0]) (by simp [results, Tryz.results8, go_sem, z0, z1, z2, z3]) rfl ?_
                 rw [hlaw]
                 exact ⟨rfl, hfin⟩
               · have des1 : (Es1 != 0) = true := bne_iff_ne.2 hes1
                 go_wp2_with (first
                               | (with_reducible refine st_store ?_)
                               | (go_at_call 40; (with_reducible refine (WR).mono ?_); rintro e wc1 ⟨rfl, hqc1⟩; obtain ⟨Lc1, SC1⟩ := SY1.wr hqc1; have xc1 := (SC1.blk 4 rfl).cell' (i := 0) rfl)
                               | (go_at_call 41; (with_reducible refine (SYN _ _ (hA.mod SC1.M ha) SC1.P).mono ?_); rintro e wd1 ⟨rfl, hqd1⟩; obtain ⟨Ld1, SD1⟩ := SC1.wr hqd1; have nd10 := (SD1.blk 5 rfl).cell' (i := 0) rfl; have nd11 := (SD1.blk 5 rfl).cell' (i := 1) rfl; have nd12 := (SD1.blk 5 rfl).cell' (i := 2) rfl; have nd13 := (SD1.blk 5 rfl).cell' (i := 3) rfl; have nl10 := (SD1.blk 2 rfl).cell' (i := 2) rfl; have nl11 := (SD1.blk 2 rfl).cell' (i := 3) rfl))
                 refine StopOp.go rfl fun K hK => ?_
                 refine wp_store (u := .agg #[.int .u64 0, .int .u64 0, .int .i64 0, .int .u32 0]) (by rfl) (by rfl) (by kernel_rfl) (SD1.blk 7 rfl) (by simp [Value.cells]) (by simp [Value.cells, Value.oneCell']) ?_
                 intro w90 hm90 hB90
                 refine hK _ _ ?_
                 clear hK K
                 have z0 := hB90.cell' (i := 0) rfl
                 have z1 := hB90.cell' (i := 1) rfl
                 have z2 := hB90.cell' (i := 2) rfl
                 have z3 := hB90.cell' (i := 3) rfl
                 have hfin := (SD1.set (i := 7) rfl hm90 hB90 rfl).fin
                 have hlaw : R0 = (Va1.sy, Es1, hd0) := (hput.trans (saveP_q hWW0.out.symm HES0.out.symm)).trans (by rw [HES1.out]; exact saveQ_s hWW1.out.symm (by rw [← HES1.out]; exact hes1))
                 go_wp2_with fail
                 refine bodyPost_ret (v := .tuple #[.agg #[.int .u64 0, .int .u64 0, .int .i64 0, .int .u32 0], .int .i64 Es1]) (by simp [results, Tryz.results8, go_sem, z0, z1, z2, z3]) rfl ?_
                 rw [hlaw]
                 exact ⟨rfl, hfin⟩
             · have dea1 : (Ea1 != 0) = true := bne_iff_ne.2 hEa1
               go_wp2_with (first
                             | (with_reducible refine st_store ?_)
                             | (go_at_call 40; (with_reducible refine (WR).mono ?_); rintro e wc1 ⟨rfl, hqc1⟩; obtain ⟨Lc1, SC1⟩ := SY1.wr hqc1; have xc1 := (SC1.blk 4 rfl).cell' (i := 0) rfl))
               refine StopOp.go rfl fun K hK => ?_
               refine wp_store (u := .agg #[.int .u64 0, .int .u64 0, .int .i64 0, .int .u32 0]) (by rfl) (by rfl) (by kernel_rfl) (SC1.blk 7 rfl) (by simp [Value.cells]) (by simp [Value.cells, Value.oneCell']) ?_
               intro w90 hm90 hB90
               refine hK _ _ ?_
               clear hK K
               have z0 := hB90.cell' (i := 0) rfl
               have z1 := hB90.cell' (i := 1) rfl
               have z2 := hB90.cell' (i := 2) rfl
               have z3 := hB90.cell' (i := 3) rfl
               have hfin := (SC1.set (i := 7) rfl hm90 hB90 rfl).fin
               have hlaw : R0 = _ := (hput.trans (saveP_q hWW0.out.symm HES0.out.symm)).trans (saveQ_w hWW1.out.symm hEa1)
               go_wp2_with fail
               refine bodyPost_ret (v := .tuple #[.agg #[.int .u64 0, .int .u64 0, .int .i64 0, .int .u32 0], .int .i64 Ea1]) (by simp [results, Tryz.results8, go_sem, z0, z1, z2, z3]) rfl ?_
               rw [hlaw]
               exact ⟨rfl, hfin⟩
           · have des0 : (Es0 != 0) = true := bne_iff_ne.2 hes0
             go_wp2_with (first
                           | (with_reducible refine st_store ?_)
                           | (go_at_call 40; (with_reducible refine (WR).mono ?_); rintro e wc0 ⟨rfl, hqc0⟩; obtain ⟨Lc0, SC0⟩ := SY0.wr hqc0; have xc0 := (SC0.blk 3 rfl).cell' (i := 0) rfl)
                           | (go_at_call 41; (with_reducible refine (SYN _ _ (hA.mod SC0.M ha) SC0.P).mono ?_); rintro e wd0 ⟨rfl, hqd0⟩; obtain ⟨Ld0, SD0⟩ := SC0.wr hqd0; have nd00 := (SD0.blk 4 rfl).cell' (i := 0) rfl; have nd01 := (SD0.blk 4 rfl).cell' (i := 1) rfl; have nd02 := (SD0.blk 4 rfl).cell' (i := 2) rfl; have nd03 := (SD0.blk 4 rfl).cell' (i := 3) rfl; have nl00 := (SD0.blk 1 rfl).cell' (i := 2) rfl; have nl01 := (SD0.blk 1 rfl).cell' (i := 3) rfl))
             refine StopOp.go rfl fun K hK => ?_
             refine wp_store (u := .agg #[.int .u64 0, .int .u64 0, .int .i64 0, .int .u32 0]) (by rfl) (by rfl) (by kernel_rfl) (SD0.blk 6 rfl) (by simp [Value.cells]) (by simp [Value.cells, Value.oneCell']) ?_
             intro w90 hm90 hB90
             refine hK _ _ ?_
             clear hK K
             have z0 := hB90.cell' (i := 0) rfl
             have z1 := hB90.cell' (i := 1) rfl
             have z2 := hB90.cell' (i := 2) rfl
             have z3 := hB90.cell' (i := 3) rfl
             have hfin := (SD0.set (i := 6) rfl hm90 hB90 rfl).fin
             have hlaw : R0 = (Va0.sy, Es0, hd0) := hput.trans (by rw [HES0.out]; exact saveP_s hWW0.out.symm (by rw [← HES0.out]; exact hes0))
             go_wp2_with fail
             refine bodyPost_ret (v := .tuple #[.agg #[.int .u64 0, .int .u64 0, .int .i64 0, .int .u32 0], .int .i64 Es0]) (by simp [results, Tryz.results8, go_sem, z0, z1, z2, z3]) rfl ?_
             rw [hlaw]
             exact ⟨rfl, hfin⟩
         · have dea0 : (Ea0 != 0) = true := bne_iff_ne.2 hEa0
           go_wp2_with (first
                         | (with_reducible refine st_store ?_)
                         | (go_at_call 40; (with_reducible refine (WR).mono ?_); rintro e wc0 ⟨rfl, hqc0⟩; obtain ⟨Lc0, SC0⟩ := SY0.wr hqc0; have xc0 := (SC0.blk 3 rfl).cell' (i := 0) rfl))
           refine StopOp.go rfl fun K hK => ?_
           refine wp_store (u := .agg #[.int .u64 0, .int .u64 0, .int .i64 0, .int .u32 0]) (by rfl) (by rfl) (by kernel_rfl) (SC0.blk 6 rfl) (by simp [Value.cells]) (by simp [Value.cells, Value.oneCell']) ?_
           intro w90 hm90 hB90
           refine hK _ _ ?_
           clear hK K
           have z0 := hB90.cell' (i := 0) rfl
           have z1 := hB90.cell' (i := 1) rfl
           have z2 := hB90.cell' (i := 2) rfl
           have z3 := hB90.cell' (i := 3) rfl
           have hfin := (SC0.set (i := 6) rfl hm90 hB90 rfl).fin
           have hlaw : R0 = _ := hput.trans (saveP_w hWW0.out.symm hEa0)
           go_wp2_with fail
           refine bodyPost_ret (v := .tuple #[.agg #[.int .u64 0, .int .u64 0, .int .i64 0, .int .u32 0], .int .i64 Ea0]) (by simp [results, Tryz.results8, go_sem, z0, z1, z2, z3]) rfl ?_
           rw [hlaw]
           exact ⟨rfl, hfin⟩
 · have de1 : (e1 != 0) = true := bne_iff_ne.2 he1
   go_wp2_with (with_reducible refine st_store ?_)
   refine StopOp.go rfl fun K hK => ?_
   refine wp_store (u := .agg #[.int .u64 0, .int .u64 0, .int .i64 0, .int .u32 0]) (by rfl) (by rfl) (by kernel_rfl) (SV5.blk 1 rfl) (by simp [Value.cells]) (by simp [Value.cells, Value.oneCell']) ?_
   intro w90 hm90 hB90
   refine hK _ _ ?_
   clear hK K
   have z0 := hB90.cell' (i := 0) rfl
   have z1 := hB90.cell' (i := 1) rfl
   have z2 := hB90.cell' (i := 2) rfl
   have z3 := hB90.cell' (i := 3) rfl
   have hfin := (SV5.set (i := 1) rfl hm90 hB90 rfl).fin
   have hlaw : R0 = _ := HLR.out.1 he1
   go_wp2_with fail
   refine bodyPost_ret (v := .tuple #[.agg #[.int .u64 0, .int .u64 0, .int .i64 0, .int .u32 0], .int .i64 e1]) (by simp [results, Tryz.results8, go_sem, z0, z1, z2, z3]) rfl ?_
   rw [hlaw]
   exact ⟨rfl, hfin⟩
end Go.Proofs.YtminfegoldgjpaaGreatDoor
