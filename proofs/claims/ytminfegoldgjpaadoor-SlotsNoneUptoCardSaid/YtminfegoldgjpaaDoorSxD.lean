import Derived.Test.YtminfegoldgjpaaDoorSwL
import Derived.Test.YtminfegoldgjpaaDoorRegV
/-! SlotsNone. -/
set_option linter.unusedVariables false
set_option linter.unusedSimpArgs false
set_option maxRecDepth 100000
namespace Go.Proofs.YtminfegoldgjpaaDoor
open Go.RowKit Gw

set_option maxHeartbeats 4000000 in
theorem sload_no (v : Value) (w : World) (h : NoSl w v) : Calls Tryd.prog 15 #[v] w fun e w' => e = .returned (.tuple #[.agg #[.int .u64 0, .int .u64 0, .int .i64 0, .int .u32 0], .slice none 0 0, .int .i64 0, .int .i64 1]) ∧ Mod [] w w' := by
  have NO := fun w h => sthere_no v w h
  go_enter Tryd.func15, Tryd.ntmps15
  go_wp2_with (with_reducible refine st_alloc ?_)
  refine StopOp.go rfl fun K hK => ?_
  refine wp_alloc zero_header ?_
  intro g w1 hg1 hg2 hm1 hG1
  simp only [put_some, List.set_cons_succ, List.set_cons_zero]
  refine hK _ _ ?_
  clear hK K
  have h1 := h.ext hm1
  go_wp2_with (first
                | (with_reducible refine st_store ?_)
                | (go_at_call 44; (with_reducible refine (NO _ h1).mono ?_); rintro e w2 ⟨rfl, rfl⟩))
  refine StopOp.go rfl fun K hK => ?_
  refine wp_store (u := .agg #[.int .u64 0, .int .u64 0, .int .i64 0, .int .u32 0]) (by rfl) (by rfl) (by kernel_rfl) hG1 (by simp [Value.cells]) (by simp [Value.cells, Value.oneCell']) ?_
  intro w90 hm90 hB90
  refine hK _ _ ?_
  clear hK K
  have z0 := hB90.cell' (i := 0) rfl
  have z1 := hB90.cell' (i := 1) rfl
  have z2 := hB90.cell' (i := 2) rfl
  have z3 := hB90.cell' (i := 3) rfl
  go_wp2_with fail
  exact bodyPost_ret (v := .tuple #[.agg #[.int .u64 0, .int .u64 0, .int .i64 0, .int .u32 0], .slice none 0 0, .int .i64 0, .int .i64 1]) (by simp [results, Tryd.results15, go_sem, z0, z1, z2, z3]) rfl ⟨rfl, hm1.fresh hm90 (by simpa using hg1)⟩
set_option maxHeartbeats 4000000 in
theorem ssave_no (v bw : Value) (cov : Int) (w : World) (h : NoSl w v) : Calls Tryd.prog 16 #[v, bw, .int .u64 cov] w fun e w' => e = .returned (.tuple #[.agg #[.int .u64 0, .int .u64 0, .int .i64 0, .int .u32 0], .int .i64 1]) ∧ Mod [] w w' := by
  have NO := fun w h => sthere_no v w h
  go_enter Tryd.func16, Tryd.ntmps16
  go_wp2_with (with_reducible refine st_alloc ?_)
  refine StopOp.go rfl fun K hK => ?_
  refine wp_alloc zero_header ?_
  intro g w1 hg1 hg2 hm1 hG1
  simp only [put_some, List.set_cons_succ, List.set_cons_zero]
  refine hK _ _ ?_
  clear hK K
  have h1 := h.ext hm1
  go_wp2_with (first
                | (with_reducible refine st_store ?_)
                | (go_at_call 44; (with_reducible refine (NO _ h1).mono ?_); rintro e w2 ⟨rfl, rfl⟩))
  refine StopOp.go rfl fun K hK => ?_
  refine wp_store (u := .agg #[.int .u64 0, .int .u64 0, .int .i64 0, .int .u32 0]) (by rfl) (by rfl) (by kernel_rfl) hG1 (by simp [Value.cells]) (by simp [Value.cells, Value.oneCell']) ?_
  intro w90 hm90 hB90
  refine hK _ _ ?_
  clear hK K
  have z0 := hB90.cell' (i := 0) rfl
  have z1 := hB90.cell' (i := 1) rfl
  have z2 := hB90.cell' (i := 2) rfl
  have z3 := hB90.cell' (i := 3) rfl
  go_wp2_with fail
  exact bodyPost_ret (v := .tuple #[.agg #[.int .u64 0, .int .u64 0, .int .i64 0, .int .u32 0], .int .i64 1]) (by simp [results, Tryd.results16, go_sem, z0, z1, z2, z3]) rfl ⟨rfl, hm1.fresh hm90 (by simpa using hg1)⟩
set_option maxHeartbeats 4000000 in
theorem snew_na (v bv : Value) (w : World) (h : NoRg w v) : Calls Tryd.prog 22 #[v, bv] w fun e w' => e = .returned (.tuple #[.pointer none, .int .i64 1]) ∧ Mod [] w w' := by
  have NO := fun w h => gBytes_no v w h
  go_enter Tryd.func22, Tryd.ntmps22
  go_wp2_with (go_at_call 50; (with_reducible refine (NO _ h).mono ?_); rintro e w2 ⟨rfl, rfl⟩)
  go_ret2
  exact ⟨rfl, Mod.refl _ _⟩
set_option maxHeartbeats 4000000 in
theorem snew_nb (v : Value) (r p f c z : Nat) (w : World) (h : NoRg w v) (hR : Rgn w r p f c z) (hc : c * z ≤ 65536) (hc1 : 1 ≤ c * z) : Calls Tryd.prog 22 #[.pointer (some ⟨r, 0, none⟩), v] w fun e w' => e = .returned (.tuple #[.pointer none, .int .i64 1]) ∧ Mod [] w w' := by
  have NO := fun w h => gBytes_no v w h
  have BA := fun w h => gBytes_any r p f c z w h (by omega)
  obtain ⟨X, hX⟩ : ∃ X, X = c * z := ⟨_, rfl⟩
  rw [← hX] at hc hc1 BA
  clear hX
  have y1 : (1 : Int) ≤ X := by omega
  have y2 : (X : Int) ≤ 65536 := by omega
  have d1 : ((X : Int) == 0) = false := by rw [beq_eq_false_iff_ne]; omega
  go_enter Tryd.func22, Tryd.ntmps22
  go_wp2_with (first
                | (go_at_call 50; (with_reducible refine (BA _ hR).mono ?_); rintro e w2 ⟨rfl, hm2⟩; have h2 := h.ext hm2)
                | (go_at_call 50; (with_reducible refine (NO _ h2).mono ?_); rintro e w3 ⟨rfl, rfl⟩))
  go_ret2
  exact ⟨rfl, hm2⟩
theorem stSP : ST Tryd.prog 43 36 (.pointer none) 1 8 := ⟨Tryd.underlying43, by kernel_rfl, rfl, by decide⟩
set_option maxRecDepth 1000000 in
set_option maxHeartbeats 20000000 in
theorem slotsNone_core (B : List UInt8) (v : Value) (cov : Nat) (W : World) (hv0 : Bs W v B) (hl : B.length ≤ 1048576) (hT : TabC W) :
    Calls Tryd.prog 4 #[v, .int .u64 (cov : Nat)] W fun e w' => e = .returned (.bool true) ∧ Mod [] W w' := by
  obtain ⟨aob, capb, rfl, hcb, hcb2⟩ := hv0.form
  have AW := fun w h => slawake_any w h
  have CP := fun w h => copy_any B (.slice aob B.length capb) w h (by omega)
  have N0 := fun w => dnew_yes 10 64 w (by decide)
  unfold NewD at N0
  have hd : (⟨64, List.replicate 10 (zeros 64), []⟩ : Dm) = dev0 10 64 := rfl
  rw [hd] at N0
  have PN := fun w q L h => pnew_yes q (dev0 10 64) L w h dev10_ok
  have GN := fun p q L w h => gnew_ok p q ⟨dev0 10 64, false, -1, 0⟩ L 0 3 0 3 64 w h rfl rfl rfl (by omega) (by decide)
  have NA := fun v bv w h => snew_na v bv w h
  have NB := fun v r p w h hR => snew_nb v r p 0 3 64 w h hR (by omega) (by omega)
  obtain ⟨m0, hm0⟩ : ∃ d, d = dev0 10 64 := ⟨_, rfl⟩
  rw [← hm0] at N0 PN GN
  clear hd hm0
  go_enter Tryd.func4, Tryd.ntmps4
  go_wp2_with (first
                | (with_reducible refine st_box ?_)
                | (go_at_call 7; (with_reducible refine (AW _ hT).mono ?_); rintro e w1 ⟨rfl, hm1⟩))
  refine StopOp.go rfl fun K hK => ?_
  refine wp_box (v := .agg #[.pointer none, .pointer none]) (by rfl) ?_
  intro e w2 he1 he2 hm2 hE2
  simp only [put_some, List.set_cons_succ, List.set_cons_zero]
  refine hK _ _ ?_
  clear hK K
  have hE2' : Blk w2 e 42 [.pointer none, .pointer none] := hE2
  go_wp2_with (with_reducible refine st_bslice ?_)
  refine StopOp.go rfl fun K hK => ?_
  refine wp_bslice stSP [.pointer none, .pointer (some ⟨e, 0, none⟩)] rfl (by decide) (by rfl) (by simp [Value.cells]) ?_
  intro lb w4 hl1 hl2 hm4 hB4
  simp only [put_some, List.set_cons_succ, List.set_cons_zero]
  refine hK _ _ ?_
  clear hK K
  have hL4 : Blk w4 lb 36 [.pointer none, .pointer (some ⟨e, 0, none⟩)] := hB4
  have hE4 := hE2'.ext hm4
  have hM4 := (hm1.ext hm2).ext hm4
  have hv := Bs.ext hv0 hM4
  have hLK := hL4.kinds
  clear hE2 hB4 hE2' hm1 hm2 hm4 hv0
  go_wp2_with fail
  go_loopw [7] (fun iv_ wr => ∃ (j : Nat), j ≤ 2 ∧ iv_ = .int .i64 j ∧ Mod [] w4 wr) (fun iv_ _ => 2 - (intOf iv_).toNat)
  case atStart => exact ⟨0, by omega, rfl, Mod.refl _ _⟩
  case round =>
    obtain ⟨j, hj, rfl, hmr⟩ := hrel
    obtain h | h | h : j = 0 ∨ j = 1 ∨ j = 2 := by omega
    · subst h
      have hno : NoSl w4 (.pointer none) := .inl rfl
      have LN := fun w h => sload_no (.pointer none) w h
      have SN := fun bw w h => ssave_no (.pointer none) bw (cov : Nat) w h
      have BN := fun w h => sBytes_no (.pointer none) w h
      have hLr := hL4.ext hmr
      have l0 := hLr.cell' (i := 0) rfl
      go_wp2_with (first
                    | (with_reducible refine st_alloc ?_)
                    | (go_at_call 15; (with_reducible refine (LN _ (hno.ext hmr)).mono ?_); rintro e w5 ⟨rfl, hm5⟩))
      refine StopOp.go rfl fun K hK => ?_
      refine wp_alloc zero_header ?_
      intro t8 w6 h81 h82 hm6 hB6
      simp only [put_some, List.set_cons_succ, List.set_cons_zero]
      refine hK _ _ ?_
      clear hK K
      go_wp2_with (with_reducible refine st_store ?_)
      refine StopOp.go rfl fun K hK => ?_
      refine wp_store (u := .agg #[.int .u64 0, .int .u64 0, .int .i64 0, .int .u32 0]) (by rfl) (by rfl) (by kernel_rfl) hB6 (by simp [Value.cells]) (by simp [Value.cells, Value.oneCell']) ?_
      intro w7 hm7 hB7
      refine hK _ _ ?_
      clear hK K
      have hB7' : Blk w7 t8 25 [.int .u64 0, .int .u64 0, .int .i64 0, .int .u32 0] := hB7
      have hm47 : Mod [] w4 w7 := hmr.ext (hm5.ext (hm6.fresh hm7 (by simpa using h81)))
      clear hB6 hB7 l0 hLr hm5 hm6 hm7
      go_upto_region 9 with fail
      go_cut [12, 13] (fun u v wx => ∃ n, u = .pointer (some ⟨n, 0, none⟩) ∧ v = .int .i64 1 ∧ Mod [] w7 wx ∧ Blk wx n 25 [.int .u64 0, .int .u64 0, .int .i64 0, .int .u32 0])
      case first =>
        refine wp_region_Tr 11 [⟨0, true, []⟩, ⟨1, true, []⟩, ⟨2, true, []⟩, ⟨3, true, []⟩, ⟨4, true, []⟩, ⟨6, true, []⟩] (Tr.br [⟨11, false, [3]⟩, ⟨5, false, [3]⟩, ⟨7, false, []⟩, ⟨8, true, []⟩, ⟨9, true, []⟩, ⟨10, true, []⟩, ⟨12, false, []⟩, ⟨13, true, []⟩] ⟨5, false, [3]⟩ [] (Tr.br [⟨11, false, [3]⟩, ⟨7, false, []⟩, ⟨8, true, []⟩, ⟨9, true, []⟩, ⟨10, true, []⟩, ⟨12, false, []⟩, ⟨13, true, []⟩] ⟨7, false, []⟩ [⟨8, true, []⟩, ⟨9, true, []⟩, ⟨10, true, []⟩] (Tr.fin [⟨11, false, [3]⟩, ⟨12, false, []⟩, ⟨13, true, []⟩]))) (by kernel_rfl) (by kernel_rfl) ?_
        have hmd9 := Mod.drew [] w7
        obtain ⟨w9, hxd9⟩ : ∃ x, x = w7.drew := ⟨_, rfl⟩
        rw [← hxd9] at hmd9 ⊢
        clear hxd9
        have hm49 := hm47.ext hmd9
        have hL9 := hL4.ext hm49
        have hv9 := Bs.ext hv hm49
        have l0 := hL9.cell' (i := 0) rfl
        iterate 6 (refine wpT_n rfl rfl (fun K hK => ?_); go_wp2_with fail)
        refine wpT_nil ?_
        refine And.intro ?_ ?_
        · refine wpT_e rfl rfl (fun K hK => ?_)
          refine wp_alloc zero_header ?_
          intro n wA hA1 hA2 hmA hBA
          simp only [put_some, List.set_cons_succ, List.set_cons_zero]
          refine hK _ _ ⟨(agains_cons rfl (again_load rfl rfl (hmA.block lb (Blk.lt (hL4.ext (hm49.ext (Mod.refl [] w9)))) (by simp)) (Blk.kinds (hL4.ext (hm49.ext (Mod.refl [] w9))))) agains_nil), ?_⟩
          clear hK K
          have hBn : Blk wA n 25 [.int .u64 0, .int .u64 0, .int .i64 0, .int .u32 0] := hBA
          have MA : Mod [] w9 wA := (Mod.refl [] w9).ext hmA
          have hcb := Bs.ext hv9 MA
          refine wpT_callh rfl rfl (fun K hK => ?_)
          go_wp2_with (go_at_call 17; (with_reducible refine (CP _ hcb).mono ?_); rintro e wC ⟨vc, rfl, hoc, hnc, hmC⟩; obtain ⟨aoc, capc, rfl, _, _⟩ := hoc.sl.form)
          refine ⟨(agains_cons rfl (again_load rfl rfl (hmC.block lb (Blk.lt (hL4.ext (hm49.ext MA))) (by simp)) (Blk.kinds (hL4.ext (hm49.ext MA)))) agains_nil), ?_⟩
          have MC : Mod [] w9 wC := MA.ext hmC
          refine wpT_call rfl rfl (fun K hK => ?_)
          have hns := hno.ext (hm49.ext MC)
          go_wp2_with (go_at_call 16; (with_reducible refine (SN _ _ hns).mono ?_); rintro e wS ⟨rfl, hmS⟩)
          have MS : Mod [] w9 wS := MC.ext hmS
          iterate 3 (refine wpT_n rfl rfl (fun K hK => ?_); go_wp2_with fail)
          have hbn := (Blk.ext (Blk.ext hBn hmC) hmS)
          refine wpT_e0 rfl rfl (fun K hK => ?_)
          refine wp_store (u := .agg #[.int .u64 0, .int .u64 0, .int .i64 0, .int .u32 0]) (by rfl) (by rfl) (by kernel_rfl) hbn (by simp [Value.cells]) (by simp [Value.cells, Value.oneCell']) ?_
          intro wT hmT hBT
          refine hK _ _ ?_
          clear hK K
          iterate 1 (refine wpT_n rfl rfl (fun K hK => ?_); go_wp2_with fail)
          refine wpT_nil ?_
          go_wp2_with fail
          go_meet
          exact ⟨n, rfl, rfl, (hmd9.ext MS).then hmT (fun h hh => .inr (by have e : h = n := (by simpa using hh); have h1 := hmd9.size; have h2 := Mod.size (Mod.refl [] w9); omega)), hBT⟩
        · have hcb := Bs.ext hv9 (Mod.refl [] w9)
          refine wpT_callh rfl rfl (fun K hK => ?_)
          go_wp2_with (go_at_call 17; (with_reducible refine (CP _ hcb).mono ?_); rintro e wC ⟨vc, rfl, hoc, hnc, hmC⟩; obtain ⟨aoc, capc, rfl, _, _⟩ := hoc.sl.form)
          refine ⟨(agains_cons rfl (again_load rfl rfl (hmC.block lb (Blk.lt (hL4.ext (hm49.ext (Mod.refl [] w9)))) (by simp)) (Blk.kinds (hL4.ext (hm49.ext (Mod.refl [] w9))))) agains_nil), ?_⟩
          have MC : Mod [] w9 wC := (Mod.refl [] w9).ext hmC
          refine wpT_nil ?_
          refine And.intro ?_ ?_
          · refine wpT_e rfl rfl (fun K hK => ?_)
            refine wp_alloc zero_header ?_
            intro n wA hA1 hA2 hmA hBA
            simp only [put_some, List.set_cons_succ, List.set_cons_zero]
            refine hK _ _ ⟨(agains_cons rfl (again_load rfl rfl (hmA.block lb (Blk.lt (hL4.ext (hm49.ext MC))) (by simp)) (Blk.kinds (hL4.ext (hm49.ext MC)))) agains_nil), ?_⟩
            clear hK K
            have hBn : Blk wA n 25 [.int .u64 0, .int .u64 0, .int .i64 0, .int .u32 0] := hBA
            have MA : Mod [] w9 wA := MC.ext hmA
            refine wpT_call rfl rfl (fun K hK => ?_)
            have hns := hno.ext (hm49.ext MA)
            go_wp2_with (go_at_call 16; (with_reducible refine (SN _ _ hns).mono ?_); rintro e wS ⟨rfl, hmS⟩)
            have MS : Mod [] w9 wS := MA.ext hmS
            iterate 3 (refine wpT_n rfl rfl (fun K hK => ?_); go_wp2_with fail)
            have hbn := (Blk.ext hBn hmS)
            refine wpT_e0 rfl rfl (fun K hK => ?_)
            refine wp_store (u := .agg #[.int .u64 0, .int .u64 0, .int .i64 0, .int .u32 0]) (by rfl) (by rfl) (by kernel_rfl) hbn (by simp [Value.cells]) (by simp [Value.cells, Value.oneCell']) ?_
            intro wT hmT hBT
            refine hK _ _ ?_
            clear hK K
            iterate 1 (refine wpT_n rfl rfl (fun K hK => ?_); go_wp2_with fail)
            refine wpT_nil ?_
            go_wp2_with fail
            go_meet
            exact ⟨n, rfl, rfl, (hmd9.ext MS).then hmT (fun h hh => .inr (by have e : h = n := (by simpa using hh); have h1 := hmd9.size; have h2 := Mod.size MC; omega)), hBT⟩
          · refine wpT_call rfl rfl (fun K hK => ?_)
            have hns := hno.ext (hm49.ext MC)
            go_wp2_with (go_at_call 16; (with_reducible refine (SN _ _ hns).mono ?_); rintro e wS ⟨rfl, hmS⟩)
            have MS : Mod [] w9 wS := MC.ext hmS
            iterate 3 (refine wpT_n rfl rfl (fun K hK => ?_); go_wp2_with fail)
            refine wpT_nil ?_
            show WpT _ _ _ _ _ _
            refine wpT_e rfl rfl (fun K hK => ?_)
            refine wp_alloc zero_header ?_
            intro n wA hA1 hA2 hmA hBA
            simp only [put_some, List.set_cons_succ, List.set_cons_zero]
            refine hK _ _ ⟨(agains_cons rfl (again_load rfl rfl (hmA.block lb (Blk.lt (hL4.ext (hm49.ext MS))) (by simp)) (Blk.kinds (hL4.ext (hm49.ext MS)))) agains_nil), ?_⟩
            clear hK K
            have hBn : Blk wA n 25 [.int .u64 0, .int .u64 0, .int .i64 0, .int .u32 0] := hBA
            have MA : Mod [] w9 wA := MS.ext hmA
            have hbn := hBn
            refine wpT_e0 rfl rfl (fun K hK => ?_)
            refine wp_store (u := .agg #[.int .u64 0, .int .u64 0, .int .i64 0, .int .u32 0]) (by rfl) (by rfl) (by kernel_rfl) hbn (by simp [Value.cells]) (by simp [Value.cells, Value.oneCell']) ?_
            intro wT hmT hBT
            refine hK _ _ ?_
            clear hK K
            iterate 1 (refine wpT_n rfl rfl (fun K hK => ?_); go_wp2_with fail)
            refine wpT_nil ?_
            go_wp2_with fail
            go_meet
            exact ⟨n, rfl, rfl, (hmd9.ext MA).then hmT (fun h hh => .inr (by have e : h = n := (by simpa using hh); have h1 := hmd9.size; have h2 := Mod.size MS; omega)), hBT⟩
      case rest =>
      obtain ⟨n, rfl, rfl, hm7c, hBn⟩ := hcut
      have hX0 := hB7'.ext hm7c
      have hm4c := hm47.ext hm7c
      have hLc := hL4.ext hm4c
      have l0 := hLc.cell' (i := 0) rfl
      have c0 := hX0.cell' (i := 0) rfl
      have c1 := hX0.cell' (i := 1) rfl
      have c2 := hX0.cell' (i := 2) rfl
      have c3 := hX0.cell' (i := 3) rfl
      have d0 := hBn.cell' (i := 0) rfl
      have d1 := hBn.cell' (i := 1) rfl
      have d2 := hBn.cell' (i := 2) rfl
      have d3 := hBn.cell' (i := 3) rfl
      go_wp2_with (go_at_call 18; (with_reducible refine (BN _ (hno.ext hm4c)).mono ?_); rintro e w8 ⟨rfl, rfl⟩)
      go_roundw
      case rel => exact ⟨1, by omega, by rfl, hm4c⟩
      case measure => simp [intOf]
    · subst h
      have hno : NoSl w4 (.pointer (some ⟨e, 0, none⟩)) := .inr ⟨e, rfl, hE4⟩
      have LN := fun w h => sload_no (.pointer (some ⟨e, 0, none⟩)) w h
      have SN := fun bw w h => ssave_no (.pointer (some ⟨e, 0, none⟩)) bw (cov : Nat) w h
      have BN := fun w h => sBytes_no (.pointer (some ⟨e, 0, none⟩)) w h
      have hLr := hL4.ext hmr
      have l0 := hLr.cell' (i := 1) rfl
      go_wp2_with (first
                    | (with_reducible refine st_alloc ?_)
                    | (go_at_call 15; (with_reducible refine (LN _ (hno.ext hmr)).mono ?_); rintro e w5 ⟨rfl, hm5⟩))
      refine StopOp.go rfl fun K hK => ?_
      refine wp_alloc zero_header ?_
      intro t8 w6 h81 h82 hm6 hB6
      simp only [put_some, List.set_cons_succ, List.set_cons_zero]
      refine hK _ _ ?_
      clear hK K
      go_wp2_with (with_reducible refine st_store ?_)
      refine StopOp.go rfl fun K hK => ?_
      refine wp_store (u := .agg #[.int .u64 0, .int .u64 0, .int .i64 0, .int .u32 0]) (by rfl) (by rfl) (by kernel_rfl) hB6 (by simp [Value.cells]) (by simp [Value.cells, Value.oneCell']) ?_
      intro w7 hm7 hB7
      refine hK _ _ ?_
      clear hK K
      have hB7' : Blk w7 t8 25 [.int .u64 0, .int .u64 0, .int .i64 0, .int .u32 0] := hB7
      have hm47 : Mod [] w4 w7 := hmr.ext (hm5.ext (hm6.fresh hm7 (by simpa using h81)))
      clear hB6 hB7 l0 hLr hm5 hm6 hm7
      go_upto_region 9 with fail
      go_cut [12, 13] (fun u v wx => ∃ n, u = .pointer (some ⟨n, 0, none⟩) ∧ v = .int .i64 1 ∧ Mod [] w7 wx ∧ Blk wx n 25 [.int .u64 0, .int .u64 0, .int .i64 0, .int .u32 0])
      case first =>
        refine wp_region_Tr 11 [⟨0, true, []⟩, ⟨1, true, []⟩, ⟨2, true, []⟩, ⟨3, true, []⟩, ⟨4, true, []⟩, ⟨6, true, []⟩] (Tr.br [⟨11, false, [3]⟩, ⟨5, false, [3]⟩, ⟨7, false, []⟩, ⟨8, true, []⟩, ⟨9, true, []⟩, ⟨10, true, []⟩, ⟨12, false, []⟩, ⟨13, true, []⟩] ⟨5, false, [3]⟩ [] (Tr.br [⟨11, false, [3]⟩, ⟨7, false, []⟩, ⟨8, true, []⟩, ⟨9, true, []⟩, ⟨10, true, []⟩, ⟨12, false, []⟩, ⟨13, true, []⟩] ⟨7, false, []⟩ [⟨8, true, []⟩, ⟨9, true, []⟩, ⟨10, true, []⟩] (Tr.fin [⟨11, false, [3]⟩, ⟨12, false, []⟩, ⟨13, true, []⟩]))) (by kernel_rfl) (by kernel_rfl) ?_
        have hmd9 := Mod.drew [] w7
        obtain ⟨w9, hxd9⟩ : ∃ x, x = w7.drew := ⟨_, rfl⟩
        rw [← hxd9] at hmd9 ⊢
        clear hxd9
        have hm49 := hm47.ext hmd9
        have hL9 := hL4.ext hm49
        have hv9 := Bs.ext hv hm49
        have l0 := hL9.cell' (i := 1) rfl
        iterate 6 (refine wpT_n rfl rfl (fun K hK => ?_); go_wp2_with fail)
        refine wpT_nil ?_
        refine And.intro ?_ ?_
        · refine wpT_e rfl rfl (fun K hK => ?_)
          refine wp_alloc zero_header ?_
          intro n wA hA1 hA2 hmA hBA
          simp only [put_some, List.set_cons_succ, List.set_cons_zero]
          refine hK _ _ ⟨(agains_cons rfl (again_load rfl rfl (hmA.block lb (Blk.lt (hL4.ext (hm49.ext (Mod.refl [] w9)))) (by simp)) (Blk.kinds (hL4.ext (hm49.ext (Mod.refl [] w9))))) agains_nil), ?_⟩
          clear hK K
          have hBn : Blk wA n 25 [.int .u64 0, .int .u64 0, .int .i64 0, .int .u32 0] := hBA
          have MA : Mod [] w9 wA := (Mod.refl [] w9).ext hmA
          have hcb := Bs.ext hv9 MA
          refine wpT_callh rfl rfl (fun K hK => ?_)
          go_wp2_with (go_at_call 17; (with_reducible refine (CP _ hcb).mono ?_); rintro e wC ⟨vc, rfl, hoc, hnc, hmC⟩; obtain ⟨aoc, capc, rfl, _, _⟩ := hoc.sl.form)
          refine ⟨(agains_cons rfl (again_load rfl rfl (hmC.block lb (Blk.lt (hL4.ext (hm49.ext MA))) (by simp)) (Blk.kinds (hL4.ext (hm49.ext MA)))) agains_nil), ?_⟩
          have MC : Mod [] w9 wC := MA.ext hmC
          refine wpT_call rfl rfl (fun K hK => ?_)
          have hns := hno.ext (hm49.ext MC)
          go_wp2_with (go_at_call 16; (with_reducible refine (SN _ _ hns).mono ?_); rintro e wS ⟨rfl, hmS⟩)
          have MS : Mod [] w9 wS := MC.ext hmS
          iterate 3 (refine wpT_n rfl rfl (fun K hK => ?_); go_wp2_with fail)
          have hbn := (Blk.ext (Blk.ext hBn hmC) hmS)
          refine wpT_e0 rfl rfl (fun K hK => ?_)
          refine wp_store (u := .agg #[.int .u64 0, .int .u64 0, .int .i64 0, .int .u32 0]) (by rfl) (by rfl) (by kernel_rfl) hbn (by simp [Value.cells]) (by simp [Value.cells, Value.oneCell']) ?_
          intro wT hmT hBT
          refine hK _ _ ?_
          clear hK K
          iterate 1 (refine wpT_n rfl rfl (fun K hK => ?_); go_wp2_with fail)
          refine wpT_nil ?_
          go_wp2_with fail
          go_meet
          exact ⟨n, rfl, rfl, (hmd9.ext MS).then hmT (fun h hh => .inr (by have e : h = n := (by simpa using hh); have h1 := hmd9.size; have h2 := Mod.size (Mod.refl [] w9); omega)), hBT⟩
        · have hcb := Bs.ext hv9 (Mod.refl [] w9)
          refine wpT_callh rfl rfl (fun K hK => ?_)
          go_wp2_with (go_at_call 17; (with_reducible refine (CP _ hcb).mono ?_); rintro e wC ⟨vc, rfl, hoc, hnc, hmC⟩; obtain ⟨aoc, capc, rfl, _, _⟩ := hoc.sl.form)
          refine ⟨(agains_cons rfl (again_load rfl rfl (hmC.block lb (Blk.lt (hL4.ext (hm49.ext (Mod.refl [] w9)))) (by simp)) (Blk.kinds (hL4.ext (hm49.ext (Mod.refl [] w9))))) agains_nil), ?_⟩
          have MC : Mod [] w9 wC := (Mod.refl [] w9).ext hmC
          refine wpT_nil ?_
          refine And.intro ?_ ?_
          · refine wpT_e rfl rfl (fun K hK => ?_)
            refine wp_alloc zero_header ?_
            intro n wA hA1 hA2 hmA hBA
            simp only [put_some, List.set_cons_succ, List.set_cons_zero]
            refine hK _ _ ⟨(agains_cons rfl (again_load rfl rfl (hmA.block lb (Blk.lt (hL4.ext (hm49.ext MC))) (by simp)) (Blk.kinds (hL4.ext (hm49.ext MC)))) agains_nil), ?_⟩
            clear hK K
            have hBn : Blk wA n 25 [.int .u64 0, .int .u64 0, .int .i64 0, .int .u32 0] := hBA
            have MA : Mod [] w9 wA := MC.ext hmA
            refine wpT_call rfl rfl (fun K hK => ?_)
            have hns := hno.ext (hm49.ext MA)
            go_wp2_with (go_at_call 16; (with_reducible refine (SN _ _ hns).mono ?_); rintro e wS ⟨rfl, hmS⟩)
            have MS : Mod [] w9 wS := MA.ext hmS
            iterate 3 (refine wpT_n rfl rfl (fun K hK => ?_); go_wp2_with fail)
            have hbn := (Blk.ext hBn hmS)
            refine wpT_e0 rfl rfl (fun K hK => ?_)
            refine wp_store (u := .agg #[.int .u64 0, .int .u64 0, .int .i64 0, .int .u32 0]) (by rfl) (by rfl) (by kernel_rfl) hbn (by simp [Value.cells]) (by simp [Value.cells, Value.oneCell']) ?_
            intro wT hmT hBT
            refine hK _ _ ?_
            clear hK K
            iterate 1 (refine wpT_n rfl rfl (fun K hK => ?_); go_wp2_with fail)
            refine wpT_nil ?_
            go_wp2_with fail
            go_meet
            exact ⟨n, rfl, rfl, (hmd9.ext MS).then hmT (fun h hh => .inr (by have e : h = n := (by simpa using hh); have h1 := hmd9.size; have h2 := Mod.size MC; omega)), hBT⟩
          · refine wpT_call rfl rfl (fun K hK => ?_)
            have hns := hno.ext (hm49.ext MC)
            go_wp2_with (go_at_call 16; (with_reducible refine (SN _ _ hns).mono ?_); rintro e wS ⟨rfl, hmS⟩)
            have MS : Mod [] w9 wS := MC.ext hmS
            iterate 3 (refine wpT_n rfl rfl (fun K hK => ?_); go_wp2_with fail)
            refine wpT_nil ?_
            show WpT _ _ _ _ _ _
            refine wpT_e rfl rfl (fun K hK => ?_)
            refine wp_alloc zero_header ?_
            intro n wA hA1 hA2 hmA hBA
            simp only [put_some, List.set_cons_succ, List.set_cons_zero]
            refine hK _ _ ⟨(agains_cons rfl (again_load rfl rfl (hmA.block lb (Blk.lt (hL4.ext (hm49.ext MS))) (by simp)) (Blk.kinds (hL4.ext (hm49.ext MS)))) agains_nil), ?_⟩
            clear hK K
            have hBn : Blk wA n 25 [.int .u64 0, .int .u64 0, .int .i64 0, .int .u32 0] := hBA
            have MA : Mod [] w9 wA := MS.ext hmA
            have hbn := hBn
            refine wpT_e0 rfl rfl (fun K hK => ?_)
            refine wp_store (u := .agg #[.int .u64 0, .int .u64 0, .int .i64 0, .int .u32 0]) (by rfl) (by rfl) (by kernel_rfl) hbn (by simp [Value.cells]) (by simp [Value.cells, Value.oneCell']) ?_
            intro wT hmT hBT
            refine hK _ _ ?_
            clear hK K
            iterate 1 (refine wpT_n rfl rfl (fun K hK => ?_); go_wp2_with fail)
            refine wpT_nil ?_
            go_wp2_with fail
            go_meet
            exact ⟨n, rfl, rfl, (hmd9.ext MA).then hmT (fun h hh => .inr (by have e : h = n := (by simpa using hh); have h1 := hmd9.size; have h2 := Mod.size MS; omega)), hBT⟩
      case rest =>
      obtain ⟨n, rfl, rfl, hm7c, hBn⟩ := hcut
      have hX0 := hB7'.ext hm7c
      have hm4c := hm47.ext hm7c
      have hLc := hL4.ext hm4c
      have l0 := hLc.cell' (i := 1) rfl
      have c0 := hX0.cell' (i := 0) rfl
      have c1 := hX0.cell' (i := 1) rfl
      have c2 := hX0.cell' (i := 2) rfl
      have c3 := hX0.cell' (i := 3) rfl
      have d0 := hBn.cell' (i := 0) rfl
      have d1 := hBn.cell' (i := 1) rfl
      have d2 := hBn.cell' (i := 2) rfl
      have d3 := hBn.cell' (i := 3) rfl
      go_wp2_with (go_at_call 18; (with_reducible refine (BN _ (hno.ext hm4c)).mono ?_); rintro e w8 ⟨rfl, rfl⟩)
      go_roundw
      case rel => exact ⟨2, by omega, by rfl, hm4c⟩
      case measure => simp [intOf]
    · subst h
      have hM := hM4.ext hmr
      go_wp2_with (first
                    | (with_reducible refine st_box ?_)
                    | (go_at_call 19; refine (N0 _).mono ?_; rintro e w6 ⟨q, L, rfl, hD6, hL6, hm6⟩)
                    | (go_at_call 20; refine (PN _ _ _ hD6).mono ?_; rintro e w7 ⟨p, rfl, hP7, hp7, hm7⟩)
                    | (go_at_call 21; (with_reducible refine (GN _ _ _ _ hP7).mono ?_); rintro e w8 ⟨r, rfl, hR8, hr8, hm8⟩; have hno8 : NoRg w8 (.pointer none) := .inl rfl)
                    | (go_at_call 22; (with_reducible refine (NA _ _ _ hno8).mono ?_); rintro e w9 ⟨rfl, hm9⟩; have hR9 := hR8.ext hm9; have hno9 : NoRg w9 (.pointer none) := .inl rfl)
                    | (go_at_call 22; (with_reducible refine (NB _ _ _ _ hno9 hR9).mono ?_); rintro e w10 ⟨rfl, hm10⟩))
      refine StopOp.go rfl fun K hK => ?_
      refine wp_box (v := .agg #[.pointer none, .int .i64 0, .int .i64 0, .int .i64 0]) (by rfl) ?_
      intro z w11 hz1 hz2 hm11 hZ11
      simp only [put_some, List.set_cons_succ, List.set_cons_zero]
      refine hK _ _ ?_
      clear hK K
      have hno11 : NoRg w11 (.pointer (some ⟨z, 0, none⟩)) := .inr ⟨z, rfl, hZ11⟩
      go_wp2_with (go_at_call 22; (with_reducible refine (NA _ _ _ hno11).mono ?_); rintro e w12 ⟨rfl, hm12⟩)
      go_ret
      exact ⟨rfl, ((((((hM.ext hm6).ext hm7).ext hm8).ext hm9).ext hm10).ext hm11).ext hm12⟩
end Go.Proofs.YtminfegoldgjpaaDoor
