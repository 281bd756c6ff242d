import Derived.Test.YtminfegoldgjpaaGreatDoorSwI
set_option linter.unusedVariables false
set_option linter.unusedSimpArgs false
set_option maxRecDepth 100000
namespace Go.Proofs.YtminfegoldgjpaaGreatDoor
open Go.RowKit Gw
theorem Bw.set {W w w' : World} {p q P Q : Nat} {v u : Pv} {L M : List Nat} {O O2 : List (Nat × TypeId × List Value)} {g i : Nat} {t : TypeId} {cs cs' : List Value} (h : Bw W w p q P Q v u L M O) (hn : (O.map (·.1)).Nodup) (hi : O[i]? = some (g, t, cs)) (hm : Mod [g] w w') (hB : Blk w' g t cs') (hO : O.set i (g, t, cs') = O2) : Bw W w' p q P Q v u L M O2 := by
 subst hO
 have hg := h.O _ (List.mem_of_getElem? hi)
 refine ⟨h.D.keep0 hm (fun k hk hh => ?_), h.E.keep1 hm (fun k hk hh => ?_), h.ap, fun x hx => ?_, h.m.fresh hm (fun k hk => ?_), h.dn, h.rn⟩
 · have e : k = g := by simpa using hh
   exact hg.2.1 (e ▸ hk)
 · have e : k = g := by simpa using hh
   exact hg.2.2.1 (e ▸ hk)
 · obtain ⟨k, hk⟩ := List.mem_iff_getElem?.1 hx
   rw [List.getElem?_set] at hk
   by_cases hik : i = k
   · rw [if_pos hik] at hk
     split at hk
     · cases hk
       exact ⟨hg.1, hg.2.1, hg.2.2.1, hB⟩
     · cases hk
   · rw [if_neg hik] at hk
     have hx2 := h.O x (List.mem_of_getElem? hk)
     refine ⟨hx2.1, hx2.2.1, hx2.2.2.1, hx2.2.2.2.mod hm (fun hh => hik ?_)⟩
     have e : x.1 = g := by simpa using hh
     exact nodup_at hn (show (O.map (·.1))[i]? = some g by rw [List.getElem?_map, hi]; rfl) (show (O.map (·.1))[k]? = some g by rw [List.getElem?_map, hk]; exact congrArg some e)
 · have e : k = g := by simpa using hk
   exact e ▸ hg.1
theorem Bw.sub {W w : World} {p q P Q : Nat} {v u : Pv} {L M : List Nat} {O O2 : List (Nat × TypeId × List Value)} (h : Bw W w p q P Q v u L M O) (hs : ∀ x ∈ O2, x ∈ O) : Bw W w p q P Q v u L M O2 :=
 ⟨h.D, h.E, h.ap, fun x hx => h.O x (hs x hx), h.m, h.dn, h.rn⟩
def okN (i : Nat) : Bool := decide ((spN i).1.2 = (spN i).2.2 ∧ 2 ≤ (spN i).1.2)
theorem spN_le (i : Nat) (h : i < 8) : ((spN i).1.1 ≤ 10 ∧ (spN i).2.1 ≤ 10) ∧ (1 ≤ (spN i).1.2 ∧ (spN i).1.2 ≤ 4) ∧ (1 ≤ (spN i).2.2 ∧ (spN i).2.2 ≤ 4) ∧ nErr 10 ((spN i).1.1 : Nat) ((spN i).1.2 : Nat) = 0 ∧ nErr 10 ((spN i).2.1 : Nat) ((spN i).2.2 : Nat) = 0 := by
 obtain h | h | h | h | h | h | h | h : i = 0 ∨ i = 1 ∨ i = 2 ∨ i = 3 ∨ i = 4 ∨ i = 5 ∨ i = 6 ∨ i = 7 := by omega
 all_goals subst h; decide
def dvS : Pv := ⟨dev0 10 64, false, -1, 0⟩
theorem dev10_ok : (dev0 10 64).ok := by
 refine ⟨?_, ?_, ?_, ?_, ?_, ?_⟩ <;> simp [dev0, zeros]
def osB (x p P s r a b h k f0 f1 c : Nat) : List (Nat × TypeId × List Value) :=
 [(x, 37, [.pointer (some ⟨p, 0, none⟩), .pointer (some ⟨s, 0, none⟩), .pointer (some ⟨P, 0, none⟩), .pointer (some ⟨r, 0, none⟩)]),
  (s, 90, [.pointer (some ⟨a, 0, none⟩), .pointer (some ⟨b, 0, none⟩)]), (r, 157, [.pointer (some ⟨h, 0, none⟩), .pointer (some ⟨k, 0, none⟩)]),
  (a, 155, [.pointer (some ⟨p, 0, none⟩), .int .i64 (f0 : Nat), .int .i64 (c : Nat), .int .i64 (64 : Nat)]),
  (b, 155, [.pointer (some ⟨p, 0, none⟩), .int .i64 (f1 : Nat), .int .i64 (c : Nat), .int .i64 (64 : Nat)]),
  (h, 142, [.pointer (some ⟨P, 0, none⟩), .int .i64 (f0 : Nat), .int .i64 (c : Nat)]),
  (k, 142, [.pointer (some ⟨P, 0, none⟩), .int .i64 (f1 : Nat), .int .i64 (c : Nat)])]
def MadeP (i : Nat) (W : World) (e : Ending) (w' : World) : Prop :=
 (okN i = false ∧ e = .returned (.tuple #[.pointer none, .bool true]) ∧ Mod [] W w') ∨
 (okN i = true ∧ ∃ x p q P Q s r a b h k L M, e = .returned (.tuple #[.pointer (some ⟨x, 0, none⟩), .bool true]) ∧ Bw W w' p q P Q dvS dvS L M (osB x p P s r a b h k (spN i).1.1 (spN i).2.1 (spN i).1.2))
theorem hnew_ok (p q : Nat) (v : Pv) (L : List Nat) (F C : Nat) (w : World) (hP : Pr w p q v L) (hFs : F ≤ 65536) (hcs : C ≤ 65536) (h : nErr v.m.dur.length F C = 0) :
   Calls Tryz.prog 33 #[.pointer (some ⟨p, 0, none⟩), .agg #[.int .i64 (F : Nat), .int .i64 (C : Nat)]] w fun e w' => ∃ r, e = .returned (.tuple #[.pointer (some ⟨r, 0, none⟩), .int .i64 0]) ∧ Rgr w' r p F C ∧ w.heap.size ≤ r ∧ Mod [] w w' := by
 refine (hnew_any p q v L F C w hP ⟨by omega, by omega⟩ ⟨by omega, by omega⟩).mono fun e w' hh => ?_
 rcases hh with ⟨_, r, h1, h2, h3, h4⟩ | ⟨h1, _⟩
 · exact ⟨r, h1, h2, h3, h4⟩
 · exact absurd h h1
set_option maxRecDepth 1000000 in
set_option maxHeartbeats 20000000 in
theorem smade_any (k_ : Int) (i : Nat) (W : World) (hk : i64 k_) (hi : pick k_ 8 = i) : Calls Tryz.prog 7 #[.int .i64 k_] W (MadeP i W) := by
 have SPN := fun w => spans_any k_ i w hk hi
 have hi8 : i < 8 := by have := pick_lt k_ 8 (by omega); omega
 obtain ⟨⟨g1, g2⟩, ⟨g3, g4⟩, ⟨g5, g6⟩, g7, g8⟩ := spN_le i hi8
 unfold MadeP
 have hokd : okN i = decide ((spN i).1.2 = (spN i).2.2 ∧ 2 ≤ (spN i).1.2) := rfl
 obtain ⟨ok, hok⟩ : ∃ b, b = okN i := ⟨_, rfl⟩
 rw [← hok] at hokd ⊢
 rcases hsp : spN i with ⟨⟨F0, C0⟩, ⟨F1, C1⟩⟩
 rw [hsp] at SPN g1 g2 g3 g4 g5 g6 g7 g8 hokd
 dsimp only at SPN g1 g2 g3 g4 g5 g6 g7 g8 hokd ⊢
 have N0 := fun w => dnew_yes 10 64 w (by decide)
 have R0 := fun w => rnew_yes 10 64 w (by decide)
 unfold NewD at N0
 unfold NewR OwnR at R0
 have hd : (⟨64, List.replicate 10 (zeros 64), []⟩ : Dm) = dev0 10 64 := rfl
 rw [hd] at N0 R0
 have hd2 : dvS = ⟨dev0 10 64, false, -1, 0⟩ := rfl
 have hl0 : dvS.m.dur.length = 10 := rfl
 have hz0 : dvS.m.sz = 64 := rfl
 have PN := fun w q L h => pnew_yes q (dev0 10 64) L w h dev10_ok
 have QN := fun w q L h => qnew_any q (dev0 10 64) L w h dev10_ok
 rw [← hd2] at PN QN
 obtain ⟨dv, hdv⟩ : ∃ d, d = dvS := ⟨_, rfl⟩
 rw [← hdv] at PN QN hl0 hz0 ⊢
 obtain ⟨m0, hm0⟩ : ∃ d, d = dev0 10 64 := ⟨_, rfl⟩
 rw [← hm0] at N0 R0 PN QN
 rw [← hl0] at g7 g8
 have G0 := fun p q L w h => gnew_ok p q dv L (F0 : Nat) (C0 : Nat) F0 C0 64 w h rfl rfl hz0 (by omega) g7
 have G1 := fun p q L w h => gnew_ok p q dv L (F1 : Nat) (C1 : Nat) F1 C1 64 w h rfl rfl hz0 (by omega) g8
 have H0 := fun p q L w h => hnew_ok p q dv L F0 C0 w h (by omega) (by omega) g7
 have H1 := fun p q L w h => hnew_ok p q dv L F1 C1 w h (by omega) (by omega) g8
 have SN := fun a b p w hA hB => snew_any a b p F0 C0 F1 C1 64 w hA hB (by omega) (by omega) (by omega)
 have RN := fun h k P Q M w hH hK hE => rsnew_any h k P Q F0 C0 F1 C1 64 dv M w hH hK hE hz0 (by omega) (by omega) (by omega)
 clear hd hd2 hm0 g7 g8 hdv hi8 hi hsp
 have HOK := Lib.hid (And.intro hokd (And.intro hl0 (And.intro hz0 g4)))
 clear hokd hok hl0 hz0 g1 g2 g3 g4 g5 g6
 go_enter Tryz.func7, Tryz.ntmps7
 go_wp2_with (first
               | (with_reducible refine st_alloc ?_)
               | (go_at_call 27; (with_reducible refine (SPN _).mono ?_); rintro e w1 ⟨rfl, hm1⟩))
 refine StopOp.go rfl fun K hK => ?_
 refine wp_alloc zero_span ?_
 intro t4 w2 ht4 ht4' hm2 hT4
 simp only [put_some, List.set_cons_succ, List.set_cons_zero]
 refine hK _ _ ?_
 clear hK K
 go_wp2_with (with_reducible refine st_alloc ?_)
 refine StopOp.go rfl fun K hK => ?_
 refine wp_alloc zero_span ?_
 intro t5 w3 ht5 ht5' hm3 hT5
 simp only [put_some, List.set_cons_succ, List.set_cons_zero]
 refine hK _ _ ?_
 clear hK K
 go_wp2_with (with_reducible refine st_store ?_)
 refine StopOp.go rfl fun K hK => ?_
 refine wp_store (u := .agg #[.int .i64 (F0 : Nat), .int .i64 (C0 : Nat)]) (by rfl) (by rfl) (by kernel_rfl) (Blk.ext hT4 hm3) (by simp [Value.cells]) (by simp [Value.cells, Value.oneCell']) ?_
 intro w4 hm4 hB4
 refine hK _ _ ?_
 clear hK K
 go_wp2_with (with_reducible refine st_store ?_)
 refine StopOp.go rfl fun K hK => ?_
 refine wp_store (u := .agg #[.int .i64 (F1 : Nat), .int .i64 (C1 : Nat)]) (by rfl) (by rfl) (by kernel_rfl) (Blk.mod hT5 hm4 (by simp; omega)) (by simp [Value.cells]) (by simp [Value.cells, Value.oneCell']) ?_
 intro w5 hm5 hB5
 refine hK _ _ ?_
 clear hK K
 have hA5 : Blk w5 t4 64 [.int .i64 (F0 : Nat), .int .i64 (C0 : Nat)] := Blk.mod (show Blk w4 t4 64 [.int .i64 (F0 : Nat), .int .i64 (C0 : Nat)] from hB4) hm5 (by simp; omega)
 have hB5' : Blk w5 t5 64 [.int .i64 (F1 : Nat), .int .i64 (C1 : Nat)] := hB5
 have z1 := hm1.size
 have z2 := hm2.size
 have z3 := hm3.size
 have hM5 : Mod [] W w5 := (((hm1.ext hm2).ext hm3).fresh hm4 (by simp; omega)).fresh hm5 (by simp; omega)
 clear hT4 hT5 hB4 hB5 hm1 hm2 hm3 hm4 hm5
 go_wp2_with (first
               | (with_reducible refine st_box ?_)
               | (go_at_call 28; refine (N0 _).mono ?_; rintro e w6 ⟨q, L, rfl, hD6, hL6, hm6⟩)
               | (go_at_call 29; refine (R0 _).mono ?_; rintro e w7 ⟨Q, M, rfl, ⟨hR7, hL7⟩, hm7⟩)
               | (go_at_call 30; refine (QN _ _ _ hR7).mono ?_; rintro e w8 ⟨P, rfl, hE8, hP8, hm8⟩))
 refine StopOp.go rfl fun K hK => ?_
 refine wp_box (v := .agg #[.pointer none, .pointer none, .pointer (some ⟨P, 0, none⟩), .pointer none]) (by rfl) ?_
 intro x w9 hx1 hx2 hm9 hX9
 simp only [put_some, List.set_cons_succ, List.set_cons_zero]
 refine hK _ _ ?_
 clear hK K
 have hX9' : Blk w9 x 37 [.pointer none, .pointer none, .pointer (some ⟨P, 0, none⟩), .pointer none] := hX9
 have z6 := hm6.size
 have z7 := hm7.size
 have z8 := hm8.size
 have z9 := hm9.size
 have zq := hM5.size
 have hD9 := ((hD6.ext hm7).ext hm8).ext hm9
 have hm59 := ((hm6.ext hm7).ext hm8).ext hm9
 go_wp2_with (first
               | (with_reducible refine st_store ?_)
               | (go_at_call 31; refine (PN _ _ _ hD9).mono ?_; rintro e wa ⟨p, rfl, hPa, hpa, hma⟩))
 have hL6' : ∀ k ∈ p :: L, W.heap.size ≤ k := fun k hk => (List.mem_cons.1 hk).elim (fun e => by omega) (fun h => by have := hL6 k h; omega)
 have hL7' : ∀ k ∈ P :: M, W.heap.size ≤ k := fun k hk => (List.mem_cons.1 hk).elim (fun e => by omega) (fun h => by have := hL7 k h; omega)
 have hEa := (hE8.ext hm9).ext hma
 have hLt : ∀ k ∈ L, k < w6.heap.size := fun k hk => hD6.lt k hk
 have hMt : ∀ k ∈ M, k < w7.heap.size := fun k hk => hR7.lt k hk
 have hPt : P < w8.heap.size := hE8.b.lt
 have BWa : Bw W wa p q P Q dv dv L M [(x, 37, [.pointer none, .pointer none, .pointer (some ⟨P, 0, none⟩), .pointer none]), (t5, 64, [.int .i64 (F1 : Nat), .int .i64 (C1 : Nat)]), (t4, 64, [.int .i64 (F0 : Nat), .int .i64 (C0 : Nat)])] := by
   have l4 := hA5.lt
   have l5 := hB5'.lt
   have lx := hX9'.lt
   refine ⟨hPa, hEa, fun k hk hh => ?_, fun y hy => ?_, (hM5.ext hm59).ext hma, hL6', hL7'⟩
   · rcases List.mem_cons.1 hk with e | e <;> rcases List.mem_cons.1 hh with e2 | e2
     · omega
     · have := hMt k e2; omega
     · have := hLt k e; omega
     · have := hLt k e; have := hL7 k e2; omega
   · have key : ∀ g : Nat, (g < w5.heap.size ∨ w8.heap.size ≤ g ∧ g < w9.heap.size) → g ∉ p :: L ∧ g ∉ P :: M := fun g hg => ⟨fun hh => by
       rcases List.mem_cons.1 hh with e | e
       · omega
       · have := hL6 g e; have := hLt g e; omega, fun hh => by
       rcases List.mem_cons.1 hh with e | e
       · omega
       · have := hL7 g e; have := hMt g e; omega⟩
     simp only [List.mem_cons, List.not_mem_nil, or_false] at hy
     rcases hy with rfl | rfl | rfl
     · exact ⟨by dsimp only; omega, (key x (.inr ⟨hx1, lx⟩)).1, (key x (.inr ⟨hx1, lx⟩)).2, hX9'.ext hma⟩
     · exact ⟨by dsimp only; omega, (key t5 (.inl l5)).1, (key t5 (.inl l5)).2, (hB5'.ext hm59).ext hma⟩
     · exact ⟨by dsimp only; omega, (key t4 (.inl l4)).1, (key t4 (.inl l4)).2, (hA5.ext hm59).ext hma⟩
 have n45 : t4 ≠ t5 := by omega
 have n4x : t4 ≠ x := by have := hA5.lt; omega
 have n5x : t5 ≠ x := by have := hB5'.lt; omega
 refine StopOp.go rfl fun K hK => ?_
 refine wp_store (u := .pointer (some ⟨p, 0, none⟩)) (by rfl) (by rfl) (by kernel_rfl) (BWa.blk 0 rfl) (by simp [Value.cells]) (by simp [Value.cells, Value.oneCell']) ?_
 intro wb hmb hBb
 refine hK _ _ ?_
 clear hK K
 have BWb := BWa.set (i := 0) (cs' := [.pointer (some ⟨p, 0, none⟩), .pointer none, .pointer (some ⟨P, 0, none⟩), .pointer none]) (by simp [n45.symm, n4x.symm, n5x.symm]) rfl hmb hBb rfl
 have hxlt := (BWb.blk 0 rfl).lt
 clear hX9 hX9' hA5 hB5' hM5 hD6 hL6 hR7 hL7 hE8 hD9 hm59 hPa hEa hLt hMt hPt hL6' hL7' hma hm6 hm7 hm8 hm9 z1 z2 z3 z6 z7 z8 z9 zq BWa hmb hBb
 go_wp2_with fail
 refine wp_region_T [⟨0, true, []⟩, ⟨1, true, []⟩, ⟨2, true, []⟩, ⟨3, true, []⟩, ⟨4, true, []⟩, ⟨5, false, []⟩, ⟨6, true, []⟩, ⟨7, true, []⟩, ⟨8, true, []⟩, ⟨9, true, []⟩, ⟨10, true, []⟩] (by kernel_rfl) (by kernel_rfl) ?_
 have hmd10 := Mod.drew [] wb
 obtain ⟨x10, hxd10⟩ : ∃ x, x = wb.drew := ⟨_, rfl⟩
 rw [← hxd10] at hmd10 ⊢
 clear hxd10
 have BX10 := BWb.ext hmd10
 have e0 := (BX10.blk 0 rfl).cell' (i := 0) rfl
 have e1 := (BX10.blk 2 rfl).cell' (i := 0) rfl
 have e2 := (BX10.blk 2 rfl).cell' (i := 1) rfl
 iterate 5 (refine wpT_n rfl rfl (fun K hK => ?_); go_wp2_with fail)
 refine wpT_call rfl rfl (fun K hK => ?_)
 go_wp2_with (go_at_call 32; (with_reducible refine (G0 _ _ _ _ BX10.D).mono ?_); rintro e wc ⟨a, rfl, hN10, hg10, hme10⟩)
 have BN10 := BX10.new hme10 hg10 hN10
 clear e0 e1 e2
 iterate 5 (refine wpT_n rfl rfl (fun K hK => ?_); go_wp2_with fail)
 refine wpT_nil ?_
 go_wp2_with fail
 refine wp_region_T [⟨0, true, []⟩, ⟨1, true, []⟩, ⟨2, true, []⟩, ⟨3, true, []⟩, ⟨4, true, []⟩, ⟨5, false, []⟩, ⟨6, true, []⟩, ⟨7, true, []⟩, ⟨8, true, []⟩, ⟨9, true, []⟩, ⟨10, true, []⟩] (by kernel_rfl) (by kernel_rfl) ?_
 have hmd11 := Mod.drew [] wc
 obtain ⟨x11, hxd11⟩ : ∃ x, x = wc.drew := ⟨_, rfl⟩
 rw [← hxd11] at hmd11 ⊢
 clear hxd11
 have BX11 := BN10.ext hmd11
 have e0 := (BX11.blk 1 rfl).cell' (i := 0) rfl
 have e1 := (BX11.blk 2 rfl).cell' (i := 0) rfl
 have e2 := (BX11.blk 2 rfl).cell' (i := 1) rfl
 iterate 5 (refine wpT_n rfl rfl (fun K hK => ?_); go_wp2_with fail)
 refine wpT_call rfl rfl (fun K hK => ?_)
 go_wp2_with (go_at_call 32; (with_reducible refine (G1 _ _ _ _ BX11.D).mono ?_); rintro e wd ⟨b, rfl, hN11, hg11, hme11⟩)
 have BN11 := BX11.new hme11 hg11 hN11
 clear e0 e1 e2
 iterate 5 (refine wpT_n rfl rfl (fun K hK => ?_); go_wp2_with fail)
 refine wpT_nil ?_
 go_wp2_with fail
 refine wp_region_T [⟨0, true, []⟩, ⟨1, true, []⟩, ⟨2, true, []⟩, ⟨3, true, []⟩, ⟨4, true, []⟩, ⟨5, false, []⟩, ⟨6, true, []⟩, ⟨7, true, []⟩, ⟨8, true, []⟩, ⟨9, true, []⟩, ⟨10, true, []⟩] (by kernel_rfl) (by kernel_rfl) ?_
 have hmd12 := Mod.drew [] wd
 obtain ⟨x12, hxd12⟩ : ∃ x, x = wd.drew := ⟨_, rfl⟩
 rw [← hxd12] at hmd12 ⊢
 clear hxd12
 have BX12 := BN11.ext hmd12
 have e0 := (BX12.blk 2 rfl).cell' (i := 2) rfl
 have e1 := (BX12.blk 4 rfl).cell' (i := 0) rfl
 have e2 := (BX12.blk 4 rfl).cell' (i := 1) rfl
 iterate 5 (refine wpT_n rfl rfl (fun K hK => ?_); go_wp2_with fail)
 refine wpT_call rfl rfl (fun K hK => ?_)
 go_wp2_with (go_at_call 33; (with_reducible refine (H0 _ _ _ _ BX12.E).mono ?_); rintro e we ⟨h, rfl, hN12, hg12, hme12⟩)
 have BN12 := BX12.new hme12 hg12 hN12
 clear e0 e1 e2
 iterate 5 (refine wpT_n rfl rfl (fun K hK => ?_); go_wp2_with fail)
 refine wpT_nil ?_
 go_wp2_with fail
 refine wp_region_T [⟨0, true, []⟩, ⟨1, true, []⟩, ⟨2, true, []⟩, ⟨3, true, []⟩, ⟨4, true, []⟩, ⟨5, false, []⟩, ⟨6, true, []⟩, ⟨7, true, []⟩, ⟨8, true, []⟩, ⟨9, true, []⟩, ⟨10, true, []⟩] (by kernel_rfl) (by kernel_rfl) ?_
 have hmd13 := Mod.drew [] we
 obtain ⟨x13, hxd13⟩ : ∃ x, x = we.drew := ⟨_, rfl⟩
 rw [← hxd13] at hmd13 ⊢
 clear hxd13
 have BX13 := BN12.ext hmd13
 have e0 := (BX13.blk 3 rfl).cell' (i := 2) rfl
 have e1 := (BX13.blk 4 rfl).cell' (i := 0) rfl
 have e2 := (BX13.blk 4 rfl).cell' (i := 1) rfl
 iterate 5 (refine wpT_n rfl rfl (fun K hK => ?_); go_wp2_with fail)
 refine wpT_call rfl rfl (fun K hK => ?_)
 go_wp2_with (go_at_call 33; (with_reducible refine (H1 _ _ _ _ BX13.E).mono ?_); rintro e wf ⟨k, rfl, hN13, hg13, hme13⟩)
 have BN13 := BX13.new hme13 hg13 hN13
 clear e0 e1 e2
 iterate 5 (refine wpT_n rfl rfl (fun K hK => ?_); go_wp2_with fail)
 refine wpT_nil ?_
 have RA : Rgn wf a p F0 C0 64 := BN13.blk 3 rfl
 have RB : Rgn wf b p F1 C1 64 := BN13.blk 2 rfl
 have hnd : [k, h, b, a, x, t5, t4].Nodup := by
   have l1 := (BN10.blk 0 rfl).lt
   have l2 := (BN11.blk 0 rfl).lt
   have l3 := (BN12.blk 0 rfl).lt
   have s1 := hmd10.size
   have s2 := hmd11.size
   have s3 := hmd12.size
   have s4 := hmd13.size
   have k4 := (BWb.blk 2 rfl).lt
   have k5 := (BWb.blk 1 rfl).lt
   simp only [List.nodup_cons, List.mem_cons, List.not_mem_nil, or_false, not_or, List.nodup_nil, not_false_eq_true, and_true]
   omega
 have hlt : ∀ y ∈ [k, h, b, a, x, t5, t4], y < wf.heap.size := fun y hy => by
   simp only [List.mem_cons, List.not_mem_nil, or_false] at hy
   rcases hy with rfl | rfl | rfl | rfl | rfl | rfl | rfl
   · exact (BN13.blk 0 rfl).lt
   · exact (BN13.blk 1 rfl).lt
   · exact (BN13.blk 2 rfl).lt
   · exact (BN13.blk 3 rfl).lt
   · exact (BN13.blk 4 rfl).lt
   · exact (BN13.blk 5 rfl).lt
   · exact (BN13.blk 6 rfl).lt
 clear BWb BN10 BN11 BN12 BX10 BX11 BX12 BX13 hmd10 hmd11 hmd12 hmd13 hN10 hN11 hN12 hN13 hme10 hme11 hme12 hme13
 by_cases hc : C0 = C1 ∧ 2 ≤ C0
 · have hok : ok = true := by rw [HOK.out.1]; exact decide_eq_true hc
   rw [if_pos hc] at RN
   have SN : ∀ w, Rgn w a p F0 C0 64 → Rgn w b p F1 C1 64 → Calls Tryz.prog 34 #[.pointer (some ⟨a, 0, none⟩), .pointer (some ⟨b, 0, none⟩)] w fun e w' => ∃ s, e = .returned (.tuple #[.pointer (some ⟨s, 0, none⟩), .int .i64 0]) ∧ Sls w' s a b ∧ w.heap.size ≤ s ∧ Mod [] w w' := fun w h1 h2 => (SN a b p w h1 h2).mono fun e w' hh => hh.elim (fun h => h.2) (fun h => absurd hc h.1)
   have hce : C0 = C1 := hc.1
   subst hce
   have hzz : C0 * 64 ≤ 1000000 := by have := HOK.out.2.2.2; omega
   have BY := fun s w hS hA => sBytes_any s a b p F0 C0 64 w hS hA hzz (by omega)
   have RY := fun r w hS hH hE => rsBytes_any r h k P Q F0 C0 64 dv M w hS hH hE HOK.out.2.2.1 hzz (by omega)
   clear hzz
   have HC := Lib.hid (And.intro hok hc)
   clear hok hc
   go_wp2_with (first
                 | (with_reducible refine st_store ?_)
                 | (go_at_call 34; (with_reducible refine (SN _ RA RB).mono ?_); rintro e wg ⟨s, rfl, hSg, hgg, hmg⟩))
   have BG := BN13.new hmg hgg hSg
   have hSglt := Blk.lt hSg
   refine StopOp.go rfl fun K hK => ?_
   refine wp_store (u := .pointer (some ⟨s, 0, none⟩)) (by rfl) (by rfl) (by kernel_rfl) (BG.blk 5 rfl) (by simp [Value.cells]) (by simp [Value.cells, Value.oneCell']) ?_
   intro wh hmh hBh
   refine hK _ _ ?_
   clear hK K
   have BH := BG.set (i := 5) (cs' := [.pointer (some ⟨p, 0, none⟩), .pointer (some ⟨s, 0, none⟩), .pointer (some ⟨P, 0, none⟩), .pointer none]) (List.nodup_cons.2 ⟨fun hh => by have := hlt s hh; omega, hnd⟩) rfl hmh hBh rfl
   have RH : Rgr wh h P F0 C0 := BH.blk 2 rfl
   have RK : Rgr wh k P F1 C0 := BH.blk 1 rfl
   go_wp2_with (first
                 | (with_reducible refine st_store ?_)
                 | (go_at_call 35; (with_reducible refine (RN _ _ _ _ _ _ RH RK BH.E).mono ?_); rintro e wi ⟨r, rfl, hRi, hgi, hmi⟩))
   have BI := BH.new hmi hgi hRi
   refine StopOp.go rfl fun K hK => ?_
   refine wp_store (u := .pointer (some ⟨r, 0, none⟩)) (by rfl) (by rfl) (by kernel_rfl) (BI.blk 6 rfl) (by simp [Value.cells]) (by simp [Value.cells, Value.oneCell']) ?_
   intro wj hmj hBj
   refine hK _ _ ?_
   clear hK K
   have BJ := BI.set (i := 6) (cs' := [.pointer (some ⟨p, 0, none⟩), .pointer (some ⟨s, 0, none⟩), .pointer (some ⟨P, 0, none⟩), .pointer (some ⟨r, 0, none⟩)]) (List.nodup_cons.2 ⟨fun hh => by have h1 := hmg.size; have h2 := hmh.size; have h3 := hSglt; rcases List.mem_cons.1 hh with e | e; (have e : r = s := e; omega); have := hlt r e; omega, List.nodup_cons.2 ⟨fun hh => by have := hlt s hh; omega, hnd⟩⟩) rfl hmj hBj rfl
   have e1 := (BJ.blk 6 rfl).cell' (i := 1) rfl
   have S1 : Sls wj s a b := BJ.blk 1 rfl
   have S2 : Rgn wj a p F0 C0 64 := BJ.blk 5 rfl
   go_wp2_with (first
                 | (go_at_call 11; (with_reducible refine (BY _ _ S1 S2).mono ?_); rintro e wk ⟨rfl, hmk⟩; have BK := BJ.ext hmk; have S3 : Slr wk r h k := BK.blk 0 rfl; have S4 : Rgr wk h P F0 C0 := BK.blk 3 rfl)
                 | (go_at_call 36; (with_reducible refine (RY _ _ S3 S4 BK.E).mono ?_); rintro e wl ⟨rfl, hml⟩; have BL := BK.ext hml))
   go_ret2
   exact .inr ⟨HC.out.1, x, p, q, P, Q, s, r, a, b, h, k, L, M, rfl, BL.sub (by simp [osB])⟩
 · have hok : ok = false := by rw [HOK.out.1]; exact decide_eq_false hc
   rw [if_neg hc] at RN
   have SN : ∀ w, Rgn w a p F0 C0 64 → Rgn w b p F1 C1 64 → Calls Tryz.prog 34 #[.pointer (some ⟨a, 0, none⟩), .pointer (some ⟨b, 0, none⟩)] w fun e w' => e = .returned (.tuple #[.pointer none, .int .i64 2]) ∧ Mod [] w w' := fun w h1 h2 => (SN a b p w h1 h2).mono fun e w' hh => hh.elim (fun h => absurd h.1 hc) (fun h => h.2)
   have HC := Lib.hid (And.intro hok hc)
   clear hok hc
   go_wp2_with (first
                 | (with_reducible refine st_store ?_)
                 | (go_at_call 34; (with_reducible refine (SN _ RA RB).mono ?_); rintro e wg ⟨rfl, hmg⟩))
   have BG := BN13.ext hmg
   refine StopOp.go rfl fun K hK => ?_
   refine wp_store (u := .pointer none) (by rfl) (by rfl) (by kernel_rfl) (BG.blk 4 rfl) (by simp [Value.cells]) (by simp [Value.cells, Value.oneCell']) ?_
   intro wh hmh hBh
   refine hK _ _ ?_
   clear hK K
   have BH := BG.set (i := 4) (cs' := [.pointer (some ⟨p, 0, none⟩), .pointer none, .pointer (some ⟨P, 0, none⟩), .pointer none]) hnd rfl hmh hBh rfl
   have RH : Rgr wh h P F0 C0 := BH.blk 1 rfl
   have RK : Rgr wh k P F1 C1 := BH.blk 0 rfl
   go_wp2_with (first
                 | (with_reducible refine st_store ?_)
                 | (go_at_call 35; (with_reducible refine (RN _ _ _ _ _ _ RH RK BH.E).mono ?_); rintro e wi ⟨r, rfl, hRi, hgi, hmi⟩))
   have BI := BH.new hmi hgi hRi
   refine StopOp.go rfl fun K hK => ?_
   refine wp_store (u := .pointer (some ⟨r, 0, none⟩)) (by rfl) (by rfl) (by kernel_rfl) (BI.blk 5 rfl) (by simp [Value.cells]) (by simp [Value.cells, Value.oneCell']) ?_
   intro wj hmj hBj
   refine hK _ _ ?_
   clear hK K
   have BJ := BI.set (i := 5) (cs' := [.pointer (some ⟨p, 0, none⟩), .pointer none, .pointer (some ⟨P, 0, none⟩), .pointer (some ⟨r, 0, none⟩)]) (List.nodup_cons.2 ⟨fun hh => by have h1 := hmg.size; have h2 := hmh.size; have := hlt r hh; omega, hnd⟩) rfl hmj hBj rfl
   have e1 := (BJ.blk 5 rfl).cell' (i := 1) rfl
   go_wp2_with fail
   go_ret2
   exact .inl ⟨HC.out.1, rfl, BJ.m⟩
end Go.Proofs.YtminfegoldgjpaaGreatDoor
