import Derived.Test.YtminfegoldgjpaaGreatDoorSwL
import Derived.Test.YtminfegoldgjpaaGreatDoorGSh
set_option linter.unusedVariables false
set_option linter.unusedSimpArgs false
set_option maxRecDepth 100000
namespace Go.Proofs.YtminfegoldgjpaaGreatDoor
open Go.RowKit Gw
structure Sr (W w : World) (p q : Nat) (V : Pv) (L L' : List Nat) (Os : List (Nat × TypeId × List Value)) : Prop where
 P : Pr w p q V L'
 M : Mod (p :: L) W w
 N : ∀ k ∈ L', k ∈ L ∨ W.heap.size ≤ k
 O : ∀ x ∈ Os, W.heap.size ≤ x.1 ∧ x.1 ∉ p :: L' ∧ Blk w x.1 x.2.1 x.2.2
 nd : (Os.map (·.1)).Nodup
 lt : ∀ k ∈ p :: L, k < W.heap.size
section
variable {W w w' : World} {p q : Nat} {V V' : Pv} {L L' : List Nat} {O O2 : List (Nat × TypeId × List Value)} {g i : Nat} {t : TypeId} {cs cs' : List Value}
theorem Sr.start (h : Pr W p q V L) : Sr W W p q V L L [] := ⟨h, Mod.refl _ _, fun _ h => .inl h, fun _ h => (List.not_mem_nil h).elim, List.nodup_nil, h.lt1⟩
theorem Sr.old (h : Sr W w p q V L L' O) {k : Nat} (hk : k < W.heap.size) (hL : k ∉ p :: L) : k ∉ p :: L' := fun hh => by
 rcases List.mem_cons.1 hh with e | e
 · exact hL (e ▸ List.mem_cons_self)
 · exact (h.N k e).elim (fun h1 => hL (List.mem_cons_of_mem _ h1)) (fun h1 => by omega)
theorem Sr.ext (h : Sr W w p q V L L' O) (hm : Mod [] w w') : Sr W w' p q V L L' O :=
 ⟨h.P.ext hm, h.M.ext hm, h.N, fun o ho => ⟨(h.O o ho).1, (h.O o ho).2.1, (h.O o ho).2.2.ext hm⟩, h.nd, h.lt⟩
theorem Sr.new (h : Sr W w p q V L L' O) (hm : Mod [] w w') (h1 : w.heap.size ≤ g) (hB : Blk w' g t cs) : Sr W w' p q V L L' ((g, t, cs) :: O) := by
 have h3 := h.ext hm
 refine ⟨h3.P, h3.M, h3.N, fun o ho => ?_, ?_, h.lt⟩
 · rcases List.mem_cons.1 ho with e | e
   · subst e
     exact ⟨Nat.le_trans h.M.size h1, fun hh => by have := h.P.lt1 g hh; omega, hB⟩
   · exact h3.O o e
 · rw [List.map_cons]
   refine List.nodup_cons.2 ⟨fun hh => ?_, h.nd⟩
   obtain ⟨x, hx, e⟩ := List.mem_map.1 hh
   have := (h.O x hx).2.2.lt
   dsimp only at e
   omega
theorem Sr.set (h : Sr W w p q V L L' O) (hi : O[i]? = some (g, t, cs)) (hm : Mod [g] w w') (hB : Blk w' g t cs') (hO : O.set i (g, t, cs') = O2) : Sr W w' p q V L L' O2 := by
 subst hO
 have hg := h.O _ (List.mem_of_getElem? hi)
 refine ⟨h.P.keep1 hm (fun k hk hh => ?_), h.M.then hm (fun k hk => ?_), h.N, fun x hx => ?_, ?_, h.lt⟩
 · have e : k = g := by simpa using hh
   exact hg.2.1 (e ▸ hk)
 · have e : k = g := by simpa using hk
   exact .inr (e ▸ hg.1)
 · obtain ⟨k, hk⟩ := List.mem_iff_getElem?.1 hx
   rw [List.getElem?_set] at hk
   by_cases hik : i = k
   · rw [if_pos hik] at hk
     split at hk
     · cases hk
       exact ⟨hg.1, hg.2.1, hB⟩
     · cases hk
   · rw [if_neg hik] at hk
     have hx2 := h.O x (List.mem_of_getElem? hk)
     refine ⟨hx2.1, hx2.2.1, hx2.2.2.mod hm (fun hh => hik ?_)⟩
     have e : x.1 = g := by simpa using hh
     exact nodup_at h.nd (show (O.map (·.1))[i]? = some g by rw [List.getElem?_map, hi]; rfl) (show (O.map (·.1))[k]? = some g by rw [List.getElem?_map, hk]; exact congrArg some e)
 · have e : ((O.set i (g, t, cs')).map (·.1)) = O.map (·.1) := by
     rw [List.map_set]
     exact set_same (show (O.map (·.1))[i]? = some g by rw [List.getElem?_map, hi]; rfl)
   rw [e]
   exact h.nd
theorem Sr.blk (h : Sr W w p q V L L' O) (i : Nat) (hi : O[i]? = some (g, t, cs)) : Blk w g t cs := (h.O _ (List.mem_of_getElem? hi)).2.2
theorem Sr.out (h : Sr W w p q V L L' O) (i : Nat) (hi : O[i]? = some (g, t, cs)) : g ∉ p :: L' := (h.O _ (List.mem_of_getElem? hi)).2.1
theorem Sr.rd (h : Sr W w p q V L L' O) (hm : Mod [p] w w') (hP : Pr w' p q V' L') : Sr W w' p q V' L L' O :=
 ⟨hP, h.M.then hm (fun k hk => .inl (by have e : k = p := (by simpa using hk); exact e ▸ List.mem_cons_self)), h.N, fun o ho => ⟨(h.O o ho).1, (h.O o ho).2.1, (h.O o ho).2.2.mod hm (fun hh => (h.O o ho).2.1 (by have e : o.1 = p := (by simpa using hh); exact e ▸ List.mem_cons_self))⟩, h.nd, h.lt⟩
theorem Sr.wr (h : Sr W w p q V L L' O) (hq : PrP w p q V' L' w') : ∃ L2, Sr W w' p q V' L L2 O := by
 obtain ⟨L2, h1, h2, h3⟩ := hq
 refine ⟨L2, h1, h.M.then h2 (fun k hk => ?_), fun k hk => ?_, fun o ho => ?_, h.nd, h.lt⟩
 · rcases List.mem_cons.1 hk with e | e
   · exact .inl (e ▸ List.mem_cons_self)
   · exact (h.N k e).imp (List.mem_cons_of_mem _) id
 · rcases h3 k hk with e | e
   · exact h.N k e
   · exact .inr (Nat.le_trans h.M.size e)
 · obtain ⟨o1, o3, o2⟩ := h.O o ho
   refine ⟨o1, fun hh => ?_, o2.mod h2 o3⟩
   rcases List.mem_cons.1 hh with e | e
   · exact o3 (e ▸ List.mem_cons_self)
   · rcases h3 _ e with e1 | e1
     · exact o3 (List.mem_cons_of_mem _ e1)
     · have := o2.lt
       omega
theorem Sr.fin (h : Sr W w p q V L L' O) : PrP W p q V L w := ⟨L', h.P, h.M, h.N⟩
end
theorem rslot0 (r h k : Nat) (w : World) (H : Slr w r h k) : Calls Tryz.prog 74 #[.pointer (some ⟨r, 0, none⟩), .int .i64 0] w fun e w' => e = .returned (.pointer (some ⟨h, 0, none⟩)) ∧ w = w' := by
 have c0 := Blk.cell' H (i := 0) rfl
 go_enter Tryz.func74, Tryz.ntmps74
 go_wp2_with fail
 go_ret
 exact ⟨rfl, rfl⟩
theorem rslot1 (r h k : Nat) (w : World) (H : Slr w r h k) : Calls Tryz.prog 74 #[.pointer (some ⟨r, 0, none⟩), .int .i64 1] w fun e w' => e = .returned (.pointer (some ⟨k, 0, none⟩)) ∧ w = w' := by
 have c1 := Blk.cell' H (i := 1) rfl
 go_enter Tryz.func74, Tryz.ntmps74
 go_wp2_with fail
 go_ret
 exact ⟨rfl, rfl⟩
def fitH (lim : Int) (b : List UInt8) : Bool := decide (errH b = 0 ∧ (getH b).l ≤ lim)
def HheadP (w : World) (P Q : Nat) (M : List Nat) (lim : Int) (R : Pv × Int × List UInt8) (e : Ending) (w' : World) : Prop :=
 (R.2.1 ≠ 0 ∧ e = .returned (.tuple #[hd0.v, .bool false, .int .i64 R.2.1]) ∨ R.2.1 = 0 ∧ e = .returned (.tuple #[(getH R.2.2).v, .bool (fitH lim R.2.2), .int .i64 0])) ∧ Pr w' P Q R.1 M ∧ Mod [P] w w'
set_option maxRecDepth 1000000 in
set_option maxHeartbeats 8000000 in
theorem rhead_any (r h k hh P Q f0 f c z : Nat) (iv : Int) (u : Pv) (M : List Nat) (w : World) (SL : ∀ w, Slr w r h k → Calls Tryz.prog 74 #[.pointer (some ⟨r, 0, none⟩), .int .i64 iv] w fun e w' => e = .returned (.pointer (some ⟨hh, 0, none⟩)) ∧ w = w')
   (hS : Slr w r h k) (hA : Rgr w h P f0 c) (hR : Rgr w hh P f c) (hP : Pr w P Q u M) (hz : u.m.sz = z) (hfc : f + c ≤ u.m.dur.length) (hn : u.n + c * z ≤ 1000000) (hrP : r ≠ P) (hhP : h ≠ P) :
   Calls Tryz.prog 72 #[.pointer (some ⟨r, 0, none⟩), .int .i64 iv] w (HheadP w P Q M ((c : Int) * z - z) (rdA f c z u 0 z)) := by
 have hs1 := hP.ok.m.s1
 have hs2 := hP.ok.m.s2
 have hn2 := hP.ok.m.n2
 rw [hz] at hs1 hs2
 have SI := fun w h => qSize_any P Q u M w h
 simp only [hz] at SI
 have RD := fun w hP hR => hRead_any hh P Q f c z u M 0 (z : Nat) w hP hR hz hfc hn ⟨by omega, by omega⟩ ⟨by omega, by omega⟩
 have hBl := rdA_len f c z u 0 z
 have hsz := (rdA_sz f c z u 0 z).1
 unfold HRdP at RD
 unfold HheadP
 obtain ⟨⟨V, E, B⟩, hR0⟩ : ∃ R, R = rdA f c z u 0 z := ⟨_, rfl⟩
 rw [← hR0] at RD hBl hsz ⊢
 dsimp only at RD hBl hsz ⊢
 have hVz : V.m.sz = z := by rw [hsz]; exact hz
 have BY := fun w hS hA hP => rsBytes_any r h k P Q f0 c z V M w hS hA hP hVz (by omega) (by omega)
 obtain ⟨CZ, hCZ⟩ : ∃ n, n = c * z := ⟨_, rfl⟩
 have hcz : (c : Int) * z - z = (CZ : Int) - z := by rw [hCZ]; push_cast; rfl
 rw [hcz]
 rw [← hCZ] at BY hBl hn
 have yc : (CZ : Int) ≤ 1000000 := by omega
 have yz : (z : Int) ≤ 4096 := by omega
 have hBl' : B.length ≤ 140737488355328 := by omega
 clear hR0 hCZ hcz hz hfc hn hBl hs1 hs2 hn2 hsz hVz
 by_cases hE : E = 0
 · subst hE
   have GT := fun v w hb => rhget_any B v w hb hBl'
   unfold HgetP at GT
   unfold fitH
   obtain ⟨G, hG⟩ : ∃ G, G = getH B := ⟨_, rfl⟩
   obtain ⟨er, her⟩ : ∃ G, G = errH B := ⟨_, rfl⟩
   have hwf := getH_wf B
   rw [← hG, ← her] at GT
   rw [← hG] at hwf
   rw [← hG, ← her]
   clear hG her
   obtain ⟨gg, gc, gl, gs⟩ := G
   obtain ⟨w1', w2', w3', w4', w5'⟩ := hwf
   unfold Hd.v at *
   dsimp only at *
   have HW := Lib.hid (And.intro w1' (And.intro w2' w3'))
   clear w1' w2' w3'
   go_enter Tryz.func72, Tryz.ntmps72
   go_wp2_with (with_reducible refine st_alloc ?_)
   refine StopOp.go rfl fun K hK => ?_
   refine wp_alloc zero_header ?_
   intro g w1 hg1 hg2 hm1 hG1
   simp only [put_some, List.set_cons_succ, List.set_cons_zero]
   refine hK _ _ ?_
   clear hK K
   have hG1' : Blk w1 g 25 [.int .u64 0, .int .u64 0, .int .i64 0, .int .u32 0] := hG1
   have hS1 := hS.ext hm1
   have hR1 := hR.ext hm1
   have hP1 := hP.ext hm1
   have hA1 := hA.ext hm1
   have d0 := Blk.cell' hR1 (i := 0) rfl
   go_wp2_with (first
                 | (with_reducible refine st_alloc ?_)
                 | (go_at_call 74; (with_reducible refine (SL _ hS1).mono ?_); rintro e w2 ⟨rfl, rfl⟩)
                 | (go_at_call 76; (with_reducible refine (SI _ hP1).mono ?_); rintro e w2 ⟨rfl, rfl⟩)
                 | (go_at_call 134; (with_reducible refine (RD _ hP1 hR1).mono ?_); rintro e w3 ⟨rv, rfl, ho3, hn3, hP3, hm3⟩; obtain ⟨ao3, cap3, rfl, _, _⟩ := ho3.sl.form; have hb3 := ho3.bs)
                 | (go_at_call 135; (with_reducible refine (GT _ _ hb3).mono ?_); rintro e w4 ⟨rfl, hm4⟩))
   have hgP : g ≠ P := by have := hP.b.lt; omega
   have hG3 := hG1'.mod hm3 (by simpa using hgP)
   have hS3 := hS1.mod hm3 (by simpa using hrP)
   have hA3 := hA1.mod hm3 (by simpa using hhP)
   have hM3 : Mod [P] w w3 := (hm1.weak (by simp)).trans hm3
   refine StopOp.go rfl fun K hK => ?_
   refine wp_alloc zero_header ?_
   intro t10 w5 h51 h52 hm5 hB5
   simp only [put_some, List.set_cons_succ, List.set_cons_zero]
   refine hK _ _ ?_
   clear hK K
   go_wp2_with (with_reducible refine st_store ?_)
   refine StopOp.go rfl fun K hK => ?_
   refine wp_store (u := .agg #[.int .u64 (gg : Nat), .int .u64 (gc : Nat), .int .i64 gl, .int .u32 (gs : Nat)]) (by rfl) (by rfl) (by kernel_rfl) hB5 (by simp [Value.cells]) (by simp [Value.cells, Value.oneCell']) ?_
   intro w6 hm6 hB6
   refine hK _ _ ?_
   clear hK K
   have hm36 : Mod [] w3 w6 := hm4.ext (hm5.fresh hm6 (by simpa using h51))
   have hB6' : Blk w6 t10 25 [.int .u64 (gg : Nat), .int .u64 (gc : Nat), .int .i64 gl, .int .u32 (gs : Nat)] := hB6
   have htg : t10 ≠ g := by have := hG3.lt; have := hm4.size; omega
   clear hG1 hB5 hB6 hm4 hm5 hm6 d0
   go_wp2_with fail
   refine wp_region_T [⟨0, true, []⟩, ⟨1, true, []⟩, ⟨2, true, []⟩, ⟨3, true, []⟩, ⟨4, true, []⟩, ⟨5, true, []⟩, ⟨6, true, []⟩, ⟨7, false, [0, 5]⟩, ⟨8, true, []⟩, ⟨9, true, []⟩, ⟨10, false, [5, 8]⟩, ⟨11, true, []⟩, ⟨12, true, []⟩] (by kernel_rfl) (by kernel_rfl) ?_
   have hmd6 := Mod.drew [] w6
   obtain ⟨x6, hxd6⟩ : ∃ x, x = w6.drew := ⟨_, rfl⟩
   rw [← hxd6] at hmd6 ⊢
   clear hxd6
   have hH6 := hB6'.ext hmd6
   have hm3x := hm36.ext hmd6
   have hG6 := hG3.ext hm3x
   have hS6 := hS3.ext hm3x
   have hA6 := hA3.ext hm3x
   have hP6 := hP3.ext hm3x
   have a0 := hH6.cell' (i := 0) rfl
   have a1 := hH6.cell' (i := 1) rfl
   have a2 := hH6.cell' (i := 2) rfl
   have a3 := hH6.cell' (i := 3) rfl
   by_cases he : er = 0
   · subst he
     iterate 4 (refine wpT_n rfl rfl (fun K hK => ?_); go_wp2_with fail)
     iterate 3 (refine wpT_gq (gi := 3) rfl rfl rfl rfl rfl (fun K hK => ?_); go_wp2_with fail)
     refine wpT_gcallh (gi := 3) rfl rfl rfl rfl (fun K hK => ?_)
     go_wp2_with (go_at_call 36; (with_reducible refine (BY _ hS6 hA6 hP6).mono ?_); rintro e w7 ⟨rfl, hm7⟩)
     refine ⟨agains_cons rfl (again_load rfl rfl (hm7.block t10 hH6.lt (by simp)) hH6.kinds) (agains_cons rfl (again_load rfl rfl (hm7.block t10 hH6.lt (by simp)) hH6.kinds) agains_nil), ?_⟩
     have hG7 := hG6.ext hm7
     have hH7 := hH6.ext hm7
     refine wpT_gq (gi := 3) rfl rfl rfl rfl rfl (fun K hK => ?_)
     go_wp2_with fail
     refine wpT_n rfl rfl (fun K hK => ?_)
     go_wp2_with fail
     refine wpT_e rfl rfl (fun K hK => ?_)
     refine wp_store (u := .agg #[.int .u64 (gg : Nat), .int .u64 (gc : Nat), .int .i64 gl, .int .u32 (gs : Nat)]) (by rfl) (by rfl) (by kernel_rfl) hG7 (by simp [Value.cells]) (by simp [Value.cells, Value.oneCell']) ?_
     intro w90 hm90 hB90
     refine hK _ _ ⟨agains_cons rfl (again_load rfl rfl (hm90.block t10 hH7.lt (by simpa using htg)) hH7.kinds) (agains_cons rfl (again_const (fun _ => rfl)) agains_nil), ?_⟩
     clear hK K
     have z0 := hB90.cell' (i := 0) rfl
     have z1 := hB90.cell' (i := 1) rfl
     have z2 := hB90.cell' (i := 2) rfl
     have z3 := hB90.cell' (i := 3) rfl
     iterate 2 (refine wpT_n rfl rfl (fun K hK => ?_); go_wp2_with fail)
     refine wpT_nil ?_
     go_wp2_with fail
     refine bodyPost_ret (v := .tuple #[.agg #[.int .u64 (gg : Nat), .int .u64 (gc : Nat), .int .i64 gl, .int .u32 (gs : Nat)], .bool (decide (gl ≤ (CZ : Int) - z)), .int .i64 0]) (by simp [results, Tryz.results72, go_sem, z0, z1, z2, z3]) rfl ⟨by first | rfl | (refine .inr ⟨by first | rfl | trivial, ?_⟩; first | rfl | simp), (hP6.ext hm7).keep1 hm90 (fun k hk hh => by have e : k = g := (by simpa using hh); have := hP.lt1 k hk; omega), ((hM3.ext hm3x).ext hm7).then hm90 (fun k hk => .inr (by have e : k = g := (by simpa using hk); omega))⟩
   · have dq : (er == 0) = false := beq_eq_false_iff_ne.2 he
     iterate 4 (refine wpT_n rfl rfl (fun K hK => ?_); go_wp2_with fail)
     iterate 5 (refine wpT_gk (gi := 3) rfl rfl rfl rfl rfl rfl (fun K hK => ?_); go_wp2_with fail)
     refine wpT_n rfl rfl (fun K hK => ?_)
     go_wp2_with fail
     refine wpT_e rfl rfl (fun K hK => ?_)
     refine wp_store (u := .agg #[.int .u64 (gg : Nat), .int .u64 (gc : Nat), .int .i64 gl, .int .u32 (gs : Nat)]) (by rfl) (by rfl) (by kernel_rfl) hG6 (by simp [Value.cells]) (by simp [Value.cells, Value.oneCell']) ?_
     intro w90 hm90 hB90
     refine hK _ _ ⟨agains_skip rfl (by rfl) (agains_skip rfl (by rfl) agains_nil), ?_⟩
     clear hK K
     have z0 := hB90.cell' (i := 0) rfl
     have z1 := hB90.cell' (i := 1) rfl
     have z2 := hB90.cell' (i := 2) rfl
     have z3 := hB90.cell' (i := 3) rfl
     iterate 2 (refine wpT_n rfl rfl (fun K hK => ?_); go_wp2_with fail)
     refine wpT_nil ?_
     go_wp2_with fail
     refine bodyPost_ret (v := .tuple #[.agg #[.int .u64 (gg : Nat), .int .u64 (gc : Nat), .int .i64 gl, .int .u32 (gs : Nat)], .bool false, .int .i64 0]) (by simp [results, Tryz.results72, go_sem, z0, z1, z2, z3]) rfl ⟨by first | rfl | (refine .inr ⟨by first | rfl | trivial, ?_⟩; first | rfl | rw [decide_eq_false (fun h => he h.1)]), hP6.keep1 hm90 (fun k hk hh => by have e : k = g := (by simpa using hh); have := hP.lt1 k hk; omega), (hM3.ext hm3x).then hm90 (fun k hk => .inr (by have e : k = g := (by simpa using hk); omega))⟩
 · have dE : (E != 0) = true := bne_iff_ne.2 hE
   go_enter Tryz.func72, Tryz.ntmps72
   go_wp2_with (with_reducible refine st_alloc ?_)
   refine StopOp.go rfl fun K hK => ?_
   refine wp_alloc zero_header ?_
   intro g w1 hg1 hg2 hm1 hG1
   simp only [put_some, List.set_cons_succ, List.set_cons_zero]
   refine hK _ _ ?_
   clear hK K
   have hG1' : Blk w1 g 25 [.int .u64 0, .int .u64 0, .int .i64 0, .int .u32 0] := hG1
   have hS1 := hS.ext hm1
   have hR1 := hR.ext hm1
   have hP1 := hP.ext hm1
   have d0 := Blk.cell' hR1 (i := 0) rfl
   go_wp2_with (first
                 | (with_reducible refine st_store ?_)
                 | (go_at_call 74; (with_reducible refine (SL _ hS1).mono ?_); rintro e w2 ⟨rfl, rfl⟩)
                 | (go_at_call 76; (with_reducible refine (SI _ hP1).mono ?_); rintro e w2 ⟨rfl, rfl⟩)
                 | (go_at_call 134; (with_reducible refine (RD _ hP1 hR1).mono ?_); rintro e w3 ⟨rv, rfl, ho3, hn3, hP3, hm3⟩; obtain ⟨ao3, cap3, rfl, _, _⟩ := ho3.sl.form))
   have hgP : g ≠ P := by have := hP.b.lt; omega
   have hG3 := hG1'.mod hm3 (by simpa using hgP)
   have hM3 : Mod [P] w w3 := (hm1.weak (by simp)).trans hm3
   refine StopOp.go rfl fun K hK => ?_
   refine wp_store (u := .agg #[.int .u64 0, .int .u64 0, .int .i64 0, .int .u32 0]) (by rfl) (by rfl) (by kernel_rfl) hG3 (by simp [Value.cells]) (by simp [Value.cells, Value.oneCell']) ?_
   intro w90 hm90 hB90
   refine hK _ _ ?_
   clear hK K
   have z0 := hB90.cell' (i := 0) rfl
   have z1 := hB90.cell' (i := 1) rfl
   have z2 := hB90.cell' (i := 2) rfl
   have z3 := hB90.cell' (i := 3) rfl
   go_wp2_with fail
   exact bodyPost_ret (v := .tuple #[.agg #[.int .u64 0, .int .u64 0, .int .i64 0, .int .u32 0], .bool false, .int .i64 E]) (by simp [results, Tryz.results72, go_sem, z0, z1, z2, z3]) rfl ⟨by first | rfl | exact .inl ⟨hE, rfl⟩, hP3.keep1 hm90 (fun k hk hh => by have e : k = g := (by simpa using hh); have := hP.lt1 k hk; omega), hM3.then hm90 (fun k hk => .inr (by have e : k = g := (by simpa using hk); omega))⟩
def HbodyP (w : World) (P Q : Nat) (M : List Nat) (s : Nat) (R : Pv × Int × List UInt8) (e : Ending) (w' : World) : Prop :=
 ∃ bw, e = .returned (.tuple #[bw, .bool (decide (R.2.1 = 0 ∧ crcS R.2.2 = s)), .int .i64 R.2.1]) ∧ Ob w' bw R.2.2 ∧ New w bw ∧ Pr w' P Q R.1 M ∧ Mod [P] w w'
set_option maxRecDepth 1000000 in
set_option maxHeartbeats 8000000 in
theorem rbody_any (r h k hh P Q f c z hg hc hs : Nat) (iv hl : Int) (u : Pv) (M : List Nat) (w : World) (SL : ∀ w, Slr w r h k → Calls Tryz.prog 74 #[.pointer (some ⟨r, 0, none⟩), .int .i64 iv] w fun e w' => e = .returned (.pointer (some ⟨hh, 0, none⟩)) ∧ w = w')
   (hS : Slr w r h k) (hR : Rgr w hh P f c) (hP : Pr w P Q u M) (hz : u.m.sz = z) (hfc : f + c ≤ u.m.dur.length) (hn : u.n + c * z ≤ 1000000) (hli : i64 hl) :
   Calls Tryz.prog 73 #[.pointer (some ⟨r, 0, none⟩), .int .i64 iv, .agg #[.int .u64 (hg : Nat), .int .u64 (hc : Nat), .int .i64 hl, .int .u32 (hs : Nat)]] w (HbodyP w P Q M hs (rdA f c z u z hl)) := by
 have hs1 := hP.ok.m.s1
 have hs2 := hP.ok.m.s2
 have hn2 := hP.ok.m.n2
 rw [hz] at hs1 hs2
 have SI := fun w h => qSize_any P Q u M w h
 simp only [hz] at SI
 have RD := fun w hP hR => hRead_any hh P Q f c z u M (z : Nat) hl w hP hR hz hfc hn ⟨by omega, by omega⟩ hli
 have hBl := rdA_len f c z u z hl
 unfold HRdP at RD
 unfold HbodyP
 obtain ⟨⟨V, E, B⟩, hR0⟩ : ∃ R, R = rdA f c z u z hl := ⟨_, rfl⟩
 rw [← hR0] at RD hBl ⊢
 dsimp only at RD hBl ⊢
 have yz : (z : Int) ≤ 4096 := by omega
 have SU := fun v w h => rsum_any B v w h
 obtain ⟨cs, hcs⟩ : ∃ x, x = crcS B := ⟨_, rfl⟩
 rw [← hcs] at SU ⊢
 clear hR0 hz hfc hn hs1 hs2 hn2 hBl hcs
 go_enter Tryz.func73, Tryz.ntmps73
 go_wp2_with (with_reducible refine st_box ?_)
 refine StopOp.go rfl fun K hK => ?_
 refine wp_box (v := .agg #[.int .u64 (hg : Nat), .int .u64 (hc : Nat), .int .i64 hl, .int .u32 (hs : Nat)]) (by rfl) ?_
 intro t w1 ht1 ht2 hm1 hT1
 simp only [put_some, List.set_cons_succ, List.set_cons_zero]
 refine hK _ _ ?_
 clear hK K
 have hT1' : Blk w1 t 25 [.int .u64 (hg : Nat), .int .u64 (hc : Nat), .int .i64 hl, .int .u32 (hs : Nat)] := hT1
 have hS1 := hS.ext hm1
 clear hT1
 go_wp2_with (go_at_call 74; (with_reducible refine (SL _ hS1).mono ?_); rintro e w2 ⟨rfl, rfl⟩)
 refine wp_region_T [⟨0, true, []⟩, ⟨1, true, []⟩, ⟨2, true, []⟩, ⟨3, true, []⟩, ⟨4, true, []⟩, ⟨6, true, []⟩, ⟨7, true, []⟩, ⟨5, false, [7]⟩, ⟨8, false, []⟩, ⟨9, true, []⟩, ⟨10, true, []⟩, ⟨11, true, []⟩, ⟨12, true, []⟩, ⟨13, true, []⟩] (by kernel_rfl) (by kernel_rfl) ?_
 have hmd2 := Mod.drew [] w1
 obtain ⟨x2, hxd2⟩ : ∃ x, x = w1.drew := ⟨_, rfl⟩
 rw [← hxd2] at hmd2 ⊢
 clear hxd2
 have hM2 := hm1.ext hmd2
 have hR2 := hR.ext hM2
 have hP2 := hP.ext hM2
 have hT2 := hT1'.ext hmd2
 have d0 := Blk.cell' hR2 (i := 0) rfl
 have a2 := hT2.cell' (i := 2) rfl
 iterate 7 (refine wpT_n rfl rfl (fun K hK => ?_); go_wp2_with fail)
 refine wpT_callh rfl rfl (fun K hK => ?_)
 go_wp2_with (go_at_call 76; (with_reducible refine (SI _ hP2).mono ?_); rintro e w3 ⟨rfl, rfl⟩)
 refine ⟨agains_same, ?_⟩
 refine wpT_call rfl rfl (fun K hK => ?_)
 go_wp2_with (go_at_call 134; (with_reducible refine (RD _ hP2 hR2).mono ?_); rintro e w3 ⟨rv, rfl, ho3, hn3, hP3, hm3⟩; obtain ⟨ao3, cap3, rfl, _, _⟩ := ho3.sl.form)
 have htP : t ≠ P := by have := hP.b.lt; omega
 have hT3 := hT2.mod hm3 (by simpa using htP)
 have hM3 : Mod [P] w w3 := (hM2.weak (by simp)).trans hm3
 have sz2 := hM2.size
 clear d0 a2
 iterate 5 (refine wpT_n rfl rfl (fun K hK => ?_); go_wp2_with fail)
 refine wpT_nil ?_
 go_wp2_with fail
 refine wp_region_T [⟨0, true, []⟩, ⟨1, true, []⟩, ⟨2, true, []⟩, ⟨3, true, []⟩, ⟨4, true, []⟩, ⟨6, true, []⟩, ⟨7, true, []⟩, ⟨10, true, []⟩, ⟨5, false, [7]⟩, ⟨8, true, []⟩, ⟨9, true, []⟩, ⟨11, true, []⟩, ⟨12, true, []⟩, ⟨13, true, []⟩] (by kernel_rfl) (by kernel_rfl) ?_
 have hmd3 := Mod.drew [] w3
 obtain ⟨x3, hxd3⟩ : ∃ x, x = w3.drew := ⟨_, rfl⟩
 rw [← hxd3] at hmd3 ⊢
 clear hxd3
 have hT4 := hT3.ext hmd3
 have hP4 := hP3.ext hmd3
 have ho4 := ho3.ext hmd3
 have hb4 : Bs x3 (.slice ao3 B.length cap3) B := ho4.bs
 have a3 := hT4.cell' (i := 3) rfl
 by_cases hE : E = 0
 · subst hE
   iterate 4 (refine wpT_n rfl rfl (fun K hK => ?_); go_wp2_with fail)
   iterate 3 (refine wpT_gq (gi := 3) rfl rfl rfl rfl rfl (fun K hK => ?_); go_wp2_with fail)
   refine wpT_n rfl rfl (fun K hK => ?_)
   go_wp2_with fail
   refine wpT_gcallh (gi := 3) rfl rfl rfl rfl (fun K hK => ?_)
   go_wp2_with (go_at_call 26; (with_reducible refine (SU _ _ hb4).mono ?_); rintro e w5 ⟨rfl, hw5⟩; obtain rfl := hw5)
   refine ⟨agains_same, ?_⟩
   by_cases hq : cs = hs
   · have dq : ((cs : Int) == (hs : Int)) = true := by rw [hq]; simp
     refine wpT_gq (gi := 3) rfl rfl rfl rfl rfl (fun K hK => ?_)
     go_wp2_with fail
     iterate 4 (refine wpT_n rfl rfl (fun K hK => ?_); go_wp2_with fail)
     refine wpT_nil ?_
     go_wp2_with fail
     refine bodyPost_ret (v := .tuple #[.slice ao3 B.length cap3, .bool true, .int .i64 0]) (by simp [results, Tryz.results73, go_sem]) rfl ⟨_, by first | rfl | rw [decide_eq_true ⟨rfl, hq⟩], ho4, fun k hk => Nat.le_trans sz2 (hn3 k hk), hP4, hM3.ext hmd3⟩
   · have dq : ((cs : Int) == (hs : Int)) = false := beq_eq_false_iff_ne.2 (by omega)
     refine wpT_gq (gi := 3) rfl rfl rfl rfl rfl (fun K hK => ?_)
     go_wp2_with fail
     iterate 4 (refine wpT_n rfl rfl (fun K hK => ?_); go_wp2_with fail)
     refine wpT_nil ?_
     go_wp2_with fail
     refine bodyPost_ret (v := .tuple #[.slice ao3 B.length cap3, .bool false, .int .i64 0]) (by simp [results, Tryz.results73, go_sem]) rfl ⟨_, by first | rfl | rw [decide_eq_false (fun h => hq h.2)], ho4, fun k hk => Nat.le_trans sz2 (hn3 k hk), hP4, hM3.ext hmd3⟩
 · have dE : (E == 0) = false := beq_eq_false_iff_ne.2 hE
   iterate 4 (refine wpT_n rfl rfl (fun K hK => ?_); go_wp2_with fail)
   iterate 3 (refine wpT_gk (gi := 3) rfl rfl rfl rfl rfl rfl (fun K hK => ?_); go_wp2_with fail)
   refine wpT_n rfl rfl (fun K hK => ?_)
   go_wp2_with fail
   iterate 2 (refine wpT_gk (gi := 3) rfl rfl rfl rfl rfl rfl (fun K hK => ?_); go_wp2_with fail)
   iterate 4 (refine wpT_n rfl rfl (fun K hK => ?_); go_wp2_with fail)
   refine wpT_nil ?_
   go_wp2_with fail
   refine bodyPost_ret (v := .tuple #[.slice ao3 B.length cap3, .bool false, .int .i64 E]) (by simp [results, Tryz.results73, go_sem]) rfl ⟨_, by first | rfl | rw [decide_eq_false (fun h => hE h.1)], ho4, fun k hk => Nat.le_trans sz2 (hn3 k hk), hP4, hM3.ext hmd3⟩
end Go.Proofs.YtminfegoldgjpaaGreatDoor
