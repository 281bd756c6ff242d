import Derived.Test.YtminfegoldgjpaaGreatDoorSwK
set_option linter.unusedVariables false
set_option linter.unusedSimpArgs false
set_option maxRecDepth 100000
namespace Go.Proofs.YtminfegoldgjpaaGreatDoor
open Go.RowKit Gw
def Made0 (W : World) (e : Ending) (w' : World) : Prop :=
 ∃ x p q P Q s r a b h k L M, e = .returned (.tuple #[.pointer (some ⟨x, 0, none⟩), .bool true]) ∧ Bw W w' p q P Q (Lv (dev0 10 64) 0) dvS L M (osB x p P s r a b h k 0 5 4)
theorem made0_any (w : World) : Calls Tryz.prog 7 #[.int .i64 0] w (Made0 w) :=
 (smade_any 0 0 w ⟨by omega, by omega⟩ (by decide)).mono fun e w' hh => by
   rcases hh with ⟨h, _⟩ | ⟨_, h⟩
   · exact absurd h (by decide)
   · exact h
theorem string_abc (w : World) : (binOp .eql 9 (.string ⟨[(97 : UInt8), 98, 99].toArray⟩) (.string ⟨#[97, 98, 99]⟩)).run Tryz.prog w = .ok (.bool true) w := by kernel_rfl
set_option maxRecDepth 1000000 in
set_option maxHeartbeats 20000000 in
theorem slawake_any (w : World) (hT : TabC w) : Calls Tryz.prog 6 #[] w fun e w' => e = .returned (.bool true) ∧ Mod [] w w' := by
 have MD := fun w => made0_any w
 unfold Made0 at MD
 have T0 : Turn (dev0 10 64) 0 5 4 0 hd0 [] := Turn.zero 10 0 5 4 (by omega) (by omega)
 have hd0' : (dev0 10 64).dur.length = 10 := rfl
 obtain ⟨m0, hm0⟩ : ∃ d, d = dev0 10 64 := ⟨_, rfl⟩
 rw [← hm0] at MD T0 hd0'
 clear hm0
 obtain ⟨cA, hcA⟩ : ∃ c, c = crcS [97, 98, 99] := ⟨_, rfl⟩
 obtain ⟨cB, hcB⟩ : ∃ c, c = crcS [] := ⟨_, rfl⟩
 have HC := Lib.hid (And.intro hcA hcB)
 clear hcA hcB
 go_enter Tryz.func6, Tryz.ntmps6
 go_wp2_with (first
               | (with_reducible refine st_bslice ?_)
               | (go_at_call 7; (with_reducible refine (MD _).mono ?_); rintro e w1 ⟨x, p, q, P, Q, s, r, a, b, h, k, L, M, rfl, B1⟩; have e1 := (B1.blk 0 rfl).cell' (i := 1) rfl))
 refine StopOp.go rfl fun K hK => ?_
 refine wp_bslice stB [.int .u8 97, .int .u8 98, .int .u8 99] rfl (by decide) (by rfl) (by simp [Value.cells]) ?_
 intro g w2 hg1 hg2 hm2 hB2
 simp only [put_some, List.set_cons_succ, List.set_cons_zero]
 refine hK _ _ ?_
 clear hK K
 obtain ⟨w3, hr3, hz3, hm3⟩ := bytes_const (l := [97, 98, 99]) (n := 3) hB2 rfl (by omega)
 have hm13 : Mod [] w1 w3 := hm2.fresh hm3 (by simpa using hg1)
 have B3 := B1.ext hm13
 have hz3b := hz3.bs
 have SV1 : Calls Tryz.prog 8 #[.pointer (some ⟨s, 0, none⟩), .slice (some ⟨g, 0, none⟩) 3 3, .int .u64 7] w3 (fun e w' => e = .returned (.tuple #[.agg #[.int .u64 1, .int .u64 7, .int .i64 3, .int .u32 (cA : Nat)], .int .i64 0]) ∧ ∃ L2 m2 n2, Bw w w' p q P Q (Lv m2 n2) dvS L2 M (osB x p P s r a b h k 0 5 4) ∧ Mod (p :: L) w3 w' ∧ Turn m2 0 5 4 1 ⟨1, 7, 3, cA⟩ [97, 98, 99] ∧ m2.dur.length = 10 ∧ n2 ≤ 0 + 4 * 4 + 20) := by
   rw [HC.out.1]
   exact B3.turnS (fun _ h => h) T0 hT hd0' (by omega) (by omega) (by omega) (by omega) (by omega) [97, 98, 99] _ 7 hz3b (fun y hy => by have e : y = g := (by simpa [blks] using hy); subst e; exact ⟨hz3.lt y (by simp [blks]), fun hh => by have := B1.D.lt0 y hh; omega⟩) (by omega) (by decide) (by omega)
 clear hB2 hz3 hz3b hm2 hm3 B1 T0 hd0'
 have e2 := (B3.blk 0 rfl).cell' (i := 1) rfl
 go_wp2_with (first
               | (with_reducible refine st_alloc ?_)
               | (go_at_call 8; (with_reducible refine (SV1).mono ?_); rintro e w4 ⟨rfl, L2, m1, n1, B4, hm4, T1, hd1, hn1⟩))
 clear SV1 hm4 hm13 B3 e2 hr3
 refine StopOp.go rfl fun K hK => ?_
 refine wp_alloc zero_header ?_
 intro t3 w5 h31 h32 hm5 hB5
 simp only [put_some, List.set_cons_succ, List.set_cons_zero]
 refine hK _ _ ?_
 clear hK K
 go_wp2_with (with_reducible refine st_store ?_)
 refine StopOp.go rfl fun K hK => ?_
 refine wp_store (u := .agg #[.int .u64 1, .int .u64 7, .int .i64 3, .int .u32 (cA : Nat)]) (by rfl) (by rfl) (by kernel_rfl) hB5 (by simp [Value.cells]) (by simp [Value.cells, Value.oneCell']) ?_
 intro w6 hm6 hB6
 refine hK _ _ ?_
 clear hK K
 have B6 := B4.new (cs := [.int .u64 1, .int .u64 7, .int .i64 3, .int .u32 (cA : Nat)]) (hm5.fresh hm6 (by simpa using h31)) h31 hB6
 have LD1 : Calls Tryz.prog 12 #[.pointer (some ⟨s, 0, none⟩)] w6 (fun e w' => ∃ bw n2, e = .returned (.tuple #[.agg #[.int .u64 1, .int .u64 7, .int .i64 3, .int .u32 (cA : Nat)], bw, .int .i64 0, .int .i64 0]) ∧ Ob w' bw [97, 98, 99] ∧ New w6 bw ∧ Bw w w' p q P Q (Lv m1 n2) dvS L2 M ((t3, 25, [.int .u64 1, .int .u64 7, .int .i64 3, .int .u32 (cA : Nat)]) :: osB x p P s r a b h k 0 5 4) ∧ Mod [p] w6 w' ∧ n2 ≤ n1 + 2 * 4 + 6) := B6.turnL (fun y hy => List.mem_cons_of_mem _ hy) T1 hT hd1 (by omega) (by omega) (by omega) (by omega) (by omega)
 have e3 := (B6.blk 1 rfl).cell' (i := 1) rfl
 clear B4 hm5 hB5 hm6 hB6
 go_wp2_with (first
               | (with_reducible refine st_alloc ?_)
               | (go_at_call 12; (with_reducible refine (LD1).mono ?_); rintro e w7 ⟨bw, n2, rfl, ho7, hn7, B7, hm7, hn2⟩; obtain ⟨ao7, cap7, rfl, _, _⟩ := ho7.sl.form))
 have hbo2 : ∀ y ∈ blks (.slice ao7 ([97, 98, 99] : List UInt8).length cap7), y ∉ p :: L2 := fun y hy hh => by have := B6.D.lt0 y hh; have := hn7 y hy; omega
 clear LD1 hm7 B6 e3 e1
 refine StopOp.go rfl fun K hK => ?_
 refine wp_alloc zero_header ?_
 intro t5 w8 h51 h52 hm8 hB8
 simp only [put_some, List.set_cons_succ, List.set_cons_zero]
 refine hK _ _ ?_
 clear hK K
 go_wp2_with (with_reducible refine st_store ?_)
 refine StopOp.go rfl fun K hK => ?_
 refine wp_store (u := .agg #[.int .u64 1, .int .u64 7, .int .i64 3, .int .u32 (cA : Nat)]) (by rfl) (by rfl) (by kernel_rfl) hB8 (by simp [Value.cells]) (by simp [Value.cells, Value.oneCell']) ?_
 intro w9 hm9 hB9
 refine hK _ _ ?_
 clear hK K
 have hm79 : Mod [] w7 w9 := hm8.fresh hm9 (by simpa using h51)
 have B9 := B7.new (cs := [.int .u64 1, .int .u64 7, .int .i64 3, .int .u32 (cA : Nat)]) hm79 h51 hB9
 have ho9 := ho7.ext hm79
 have SV2 : Calls Tryz.prog 8 #[.pointer (some ⟨s, 0, none⟩), .slice none 0 0, .int .u64 9] w9 (fun e w' => e = .returned (.tuple #[.agg #[.int .u64 2, .int .u64 9, .int .i64 0, .int .u32 (cB : Nat)], .int .i64 0]) ∧ ∃ L3 m2 n3, Bw w w' p q P Q (Lv m2 n3) dvS L3 M ((t5, 25, [.int .u64 1, .int .u64 7, .int .i64 3, .int .u32 (cA : Nat)]) :: ((t3, 25, [.int .u64 1, .int .u64 7, .int .i64 3, .int .u32 (cA : Nat)]) :: osB x p P s r a b h k 0 5 4)) ∧ Mod (p :: L2) w9 w' ∧ Turn m2 0 5 4 2 ⟨2, 9, 0, cB⟩ [] ∧ m2.dur.length = 10 ∧ n3 ≤ n2 + 4 * 4 + 20) := by
   rw [HC.out.2]
   exact B9.turnS (fun y hy => List.mem_cons_of_mem _ (List.mem_cons_of_mem _ hy)) T1 hT hd1 (by omega) (by omega) (by omega) (by omega) (by omega) [] _ 9 (Ob.bs (Ob.nil _)) (by simp [blks]) (by omega) (by decide) (by omega)
 have e4 := (B9.blk 2 rfl).cell' (i := 1) rfl
 have hbo := hbo2
 clear ho7 hm8 hB8 hm9 hB9 hm79 B7
 go_wp2_with (first
               | (with_reducible refine st_alloc ?_)
               | (go_at_call 8; (with_reducible refine (SV2).mono ?_); rintro e w10 ⟨rfl, L3, m2, n3, B10, hm10, T2, hd2, hn3⟩))
 have ho10 := Ow.mod ho9 hm10 hbo
 clear SV2 hm10 B9 e4 ho9 hbo hn7
 refine StopOp.go rfl fun K hK => ?_
 refine wp_alloc zero_header ?_
 intro t9 w11 h91 h92 hm11 hB11
 simp only [put_some, List.set_cons_succ, List.set_cons_zero]
 refine hK _ _ ?_
 clear hK K
 go_wp2_with (with_reducible refine st_store ?_)
 refine StopOp.go rfl fun K hK => ?_
 refine wp_store (u := .agg #[.int .u64 2, .int .u64 9, .int .i64 0, .int .u32 (cB : Nat)]) (by rfl) (by rfl) (by kernel_rfl) hB11 (by simp [Value.cells]) (by simp [Value.cells, Value.oneCell']) ?_
 intro w12 hm12 hB12
 refine hK _ _ ?_
 clear hK K
 have hm1012 : Mod [] w10 w12 := hm11.fresh hm12 (by simpa using h91)
 have B12 := B10.new (cs := [.int .u64 2, .int .u64 9, .int .i64 0, .int .u32 (cB : Nat)]) hm1012 h91 hB12
 have ho12 := Ow.ext ho10 hm1012
 have LD2 : Calls Tryz.prog 12 #[.pointer (some ⟨s, 0, none⟩)] w12 (fun e w' => ∃ bw n4, e = .returned (.tuple #[.agg #[.int .u64 2, .int .u64 9, .int .i64 0, .int .u32 (cB : Nat)], bw, .int .i64 1, .int .i64 0]) ∧ Ob w' bw [] ∧ New w12 bw ∧ Bw w w' p q P Q (Lv m2 n4) dvS L3 M ((t9, 25, [.int .u64 2, .int .u64 9, .int .i64 0, .int .u32 (cB : Nat)]) :: ((t5, 25, [.int .u64 1, .int .u64 7, .int .i64 3, .int .u32 (cA : Nat)]) :: ((t3, 25, [.int .u64 1, .int .u64 7, .int .i64 3, .int .u32 (cA : Nat)]) :: osB x p P s r a b h k 0 5 4))) ∧ Mod [p] w12 w' ∧ n4 ≤ n3 + 2 * 4 + 6) := B12.turnL (fun y hy => List.mem_cons_of_mem _ (List.mem_cons_of_mem _ (List.mem_cons_of_mem _ hy))) T2 hT hd2 (by omega) (by omega) (by omega) (by omega) (by omega)
 have e5 := (B12.blk 3 rfl).cell' (i := 1) rfl
 have hbo : ∀ y ∈ blks (.slice ao7 ([97, 98, 99] : List UInt8).length cap7), y ∉ [p] := fun y hy hh => hbo2 y hy (by have e : y = p := (by simpa using hh); rw [e]; exact List.mem_cons_self)
 clear ho10 hm11 hB11 hm12 hB12 hm1012 B10
 go_wp2_with (first
               | (with_reducible refine st_alloc ?_)
               | (go_at_call 12; (with_reducible refine (LD2).mono ?_); rintro e w13 ⟨bw2, n4, rfl, ho13, hn13, B13, hm13, hn4⟩; obtain ⟨ao13, cap13, rfl, _, _⟩ := ho13.sl.form))
 have ho13b := Ow.mod ho12 hm13 hbo
 clear LD2 hm13 B12 e5 ho12 hbo hn13 ho13
 refine StopOp.go rfl fun K hK => ?_
 refine wp_alloc zero_header ?_
 intro t11 w14 hb1 hb2 hm14 hB14
 simp only [put_some, List.set_cons_succ, List.set_cons_zero]
 refine hK _ _ ?_
 clear hK K
 go_wp2_with (with_reducible refine st_store ?_)
 refine StopOp.go rfl fun K hK => ?_
 refine wp_store (u := .agg #[.int .u64 2, .int .u64 9, .int .i64 0, .int .u32 (cB : Nat)]) (by rfl) (by rfl) (by kernel_rfl) hB14 (by simp [Value.cells]) (by simp [Value.cells, Value.oneCell']) ?_
 intro w15 hm15 hB15
 refine hK _ _ ?_
 clear hK K
 have hm1315 : Mod [] w13 w15 := hm14.fresh hm15 (by simpa using hb1)
 have B15 := B13.ext hm1315
 have ho15 : Ob w15 (.slice ao7 3 cap7) [97, 98, 99] := Ow.ext ho13b hm1315
 have s15 := ho15.bs.str
 have q15 := string_abc w15
 have a0 := (B15.blk 2 rfl).cell' (i := 0) rfl
 have a1 := (B15.blk 2 rfl).cell' (i := 1) rfl
 have a2 := (B15.blk 2 rfl).cell' (i := 2) rfl
 have a3 := (B15.blk 2 rfl).cell' (i := 3) rfl
 have b0 := (B15.blk 1 rfl).cell' (i := 0) rfl
 have b1 := (B15.blk 1 rfl).cell' (i := 1) rfl
 have b2 := (B15.blk 1 rfl).cell' (i := 2) rfl
 have b3 := (B15.blk 1 rfl).cell' (i := 3) rfl
 have c0 := (B15.blk 0 rfl).cell' (i := 0) rfl
 have c1 := (B15.blk 0 rfl).cell' (i := 1) rfl
 have hMM := B15.m
 clear B13 B15 hB14 hB15 hm14 hm15 hm1315 ho13b ho15 T1 T2
 go_wp2_with fail
 go_ret
 exact ⟨rfl, hMM⟩
end Go.Proofs.YtminfegoldgjpaaGreatDoor
