import Derived.Test.YtminfegoldgjpaaGreatDoorSyE
set_option linter.unusedVariables false
set_option linter.unusedSimpArgs false
set_option maxRecDepth 100000
namespace Go.Proofs.YtminfegoldgjpaaGreatDoor
open Go.RowKit Gw
section
variable {W w : World} {x p q P Q s r a b h k f0 f1 c : Nat} {v u : Pv} {L M : List Nat} {O : List (Nat × TypeId × List Value)}
def LoadE (W w : World) (p q P Q : Nat) (v : Pv) (L M : List Nat) (O : List (Nat × TypeId × List Value)) (R : Ld5) (e : Ending) (w' : World) : Prop :=
 ∃ bw, e = .returned (.tuple #[R.h.v, bw, .int .i64 R.i, .int .i64 R.e]) ∧ Ob w' bw R.b ∧ New w bw ∧ Bw W w' p q P Q v R.v L M O ∧ Mod [P] w w'
theorem Bw.rload (H : Bw W w p q P Q v u L M O) (hO : ∀ y ∈ osB x p P s r a b h k f0 f1 c, y ∈ O) (hz : u.m.sz = 64) (hd : u.m.dur.length = 10) (hc4 : c ≤ 4) (h0 : f0 + c ≤ 10) (h1 : f1 + c ≤ 10) (hn : u.n ≤ 900000) :
   Calls Tryz.prog 21 #[.pointer (some ⟨r, 0, none⟩)] w (LoadE W w p q P Q v L M O (loadG f0 f1 c 64 u)) := by
 have H0 := H.sub hO
 have hS : Slr w r h k := H0.blk 2 rfl
 have hA : Rgr w h P f0 c := H0.blk 5 rfl
 have hB : Rgr w k P f1 c := H0.blk 6 rfl
 have key : ∀ {g : Nat}, g ∉ P :: M → g ≠ P := fun hg e => hg (e ▸ List.mem_cons_self)
 refine (rload_any r h k P Q f0 f1 c 64 u M w hS H.E hA hB hz (by omega) (by omega) (by omega) (key (H0.outE 2 rfl)) (key (H0.outE 5 rfl)) (key (H0.outE 6 rfl))).mono fun e w' hh => ?_
 unfold SLdR at hh
 obtain ⟨bw, e1, e2, e3, e4, e5⟩ := hh
 exact ⟨bw, e1, e2, e3, H.rr e4 e5, e5⟩
def SaveE (W w : World) (p q P Q : Nat) (v : Pv) (L M : List Nat) (O : List (Nat × TypeId × List Value)) (R : Pv × Int × Hd) (e : Ending) (w' : World) : Prop :=
 e = .returned (.tuple #[R.2.2.v, .int .i64 R.2.1]) ∧ ∃ M2, Bw W w' p q P Q v R.1 L M2 O ∧ Mod (P :: M) w w'
theorem Bw.rsave (H : Bw W w p q P Q v u L M O) (hO : ∀ y ∈ osB x p P s r a b h k f0 f1 c, y ∈ O) (hz : u.m.sz = 64) (hd : u.m.dur.length = 10) (hc4 : c ≤ 4) (h0 : f0 + c ≤ 10) (h1 : f1 + c ≤ 10) (hn : u.n ≤ 900000) (hr : u.m.row.length ≤ 900000)
   (B : List UInt8) (bw : Value) (cov : Nat) (hbb : Bs w bw B) (hbB : ∀ y ∈ blks bw, y < w.heap.size ∧ y ∉ P :: M) (hcov : cov < 18446744073709551616) :
   Calls Tryz.prog 24 #[.pointer (some ⟨r, 0, none⟩), bw, .int .u64 (cov : Nat)] w (SaveE W w p q P Q v L M O (saveG f0 f1 c 64 u B cov)) := by
 have H0 := H.sub hO
 have hS : Slr w r h k := H0.blk 2 rfl
 have hA : Rgr w h P f0 c := H0.blk 5 rfl
 have hB : Rgr w k P f1 c := H0.blk 6 rfl
 refine (rsave_any r h k P Q f0 f1 c 64 cov u M B bw w hS H.E hA hB hz (by omega) (by omega) (by omega) (by omega) (by omega) (by omega) (H0.outE 2 rfl) (H0.outE 5 rfl) (H0.outE 6 rfl) hbb hbB hcov).mono fun e w' hh => ?_
 unfold SSvR at hh
 exact ⟨hh.1, H.rt hh.2⟩
theorem Bw.drop {w' : World} {g : Nat} (h : Bw W w p q P Q v u L M O) (hm : Mod [g] w w') (h1 : g ∉ p :: L) (h2 : g ∉ P :: M) (h3 : ∀ y ∈ O, y.1 ≠ g) (h4 : W.heap.size ≤ g) : Bw W w' p q P Q v u L M O := by
 have hk : ∀ k ∈ [g], k = g := fun k hk => by simpa using hk
 exact ⟨h.D.keep0 hm (fun k hk' hh => h1 (hk k hh ▸ hk')), h.E.keep1 hm (fun k hk' hh => h2 (hk k hh ▸ hk')), h.ap, fun x hx => ⟨(h.O x hx).1, (h.O x hx).2.1, (h.O x hx).2.2.1, (h.O x hx).2.2.2.mod hm (fun hh => h3 x hx (hk _ hh))⟩, h.m.fresh hm (fun k hk' => hk k hk' ▸ h4), h.dn, h.rn⟩
theorem Bw.head {w' : World} {g : Nat} {t : TypeId} {cs cs' : List Value} (h : Bw W w p q P Q v u L M ((g, t, cs) :: O)) (hn : ∀ y ∈ O, y.1 ≠ g) (hm : Mod [g] w w') (hB : Blk w' g t cs') : Bw W w' p q P Q v u L M ((g, t, cs') :: O) := by
 have hg := h.O _ List.mem_cons_self
 have h2 := h.tail.drop hm hg.2.1 hg.2.2.1 hn hg.1
 refine ⟨h2.D, h2.E, h2.ap, fun y hy => ?_, h2.m, h2.dn, h2.rn⟩
 rcases List.mem_cons.1 hy with e | e
 · subst e
   exact ⟨hg.1, hg.2.1, hg.2.2.1, hB⟩
 · exact h2.O y e
theorem Bw.young (h : Bw W w p q P Q v u L M O) {g : Nat} (hg : w.heap.size ≤ g) : ∀ y ∈ O, y.1 ≠ g := fun y hy => by have := (h.O y hy).2.2.2.lt; omega
end
set_option maxRecDepth 1000000 in
set_option maxHeartbeats 20000000 in
theorem does1_any (W w : World) (x p q P Q s r a b h k f0 f1 c : Nat) (v : Pv) (L M : List Nat) (o : Sop) (ho : OkSop W o) (hk : pick o.d 7 = 1) (B : Bw W w p q P Q v v L M (osB x p P s r a b h k f0 f1 c)) (hT0 : TabC W) (hz : v.m.sz = 64) (hd : v.m.dur.length = 10) (hn : v.n ≤ 900000) (hr : v.m.row.length ≤ 900000) (hc : 2 ≤ c) (hc4 : c ≤ 4) (h0 : f0 + c ≤ 10) (h1 : f1 + c ≤ 10) :
   Calls Tryz.prog 17 #[.pointer (some ⟨x, 0, none⟩), o.val] w (DoesP W p q P Q (osB x p P s r a b h k f0 f1 c) ((loadG f0 f1 c 64 v).v)) := by
 obtain ⟨hF, hold, wd, wl, wx, wcov, wn, hf⟩ := ho
 obtain ⟨d, l, x_, cov, n, fv, F⟩ := o
 dsimp only at hk hF hold wd wl wx wcov wn hf
 obtain ⟨aof, capf, rfl, _, _⟩ := hF.form
 unfold Sop.val DoesP
 dsimp only
 have PK := fun w => pick_any d 7 w wd.1 wd.2 (by omega) (by omega)
 rw [hk] at PK
 clear hk
 obtain ⟨R, hR⟩ : ∃ R, R = loadG f0 f1 c 64 v := ⟨_, rfl⟩
 have hld := loadG_sz f0 f1 c 64 v
 rw [← hR] at hld
 have LD := fun w t (H : Bw W w p q P Q v v L M ((t, 56, [.int .i64 d, .int .i64 l, .int .i64 x_, .int .u64 (cov : Nat), .int .i64 n, .slice aof F.length capf]) :: osB x p P s r a b h k f0 f1 c)) => H.load (fun _ hy => List.mem_cons_of_mem _ hy) hT0 hz hd h0 h1 hn
 have RD := fun w t y (H : Bw W w p q P Q R.v v L M (y :: (t, 56, [.int .i64 d, .int .i64 l, .int .i64 x_, .int .u64 (cov : Nat), .int .i64 n, .slice aof F.length capf]) :: osB x p P s r a b h k f0 f1 c)) => H.rload (fun _ hy => List.mem_cons_of_mem _ (List.mem_cons_of_mem _ hy)) hz hd hc4 h0 h1 hn
 simp only [← hR] at LD RD
 unfold LoadB at LD
 unfold LoadE at RD
 rw [← hR]
 have hbl : R.b.length ≤ 1000000 := by have := hld.b; omega
 clear hR hld
 obtain ⟨V, E, ⟨hg, hc_, hl, hs⟩, Bd, I⟩ := R
 unfold Hd.v at LD RD
 dsimp only at LD RD hbl ⊢
 have SB := fun va vb w ha hb => same_any Bd Bd va vb w ha hb
 rw [decide_eq_true (rfl : Bd = Bd)] at SB
 go_enter Tryz.func17, Tryz.ntmps17
 go_wp2_with (with_reducible refine st_box ?_)
 refine StopOp.go rfl fun K hK => ?_
 refine wp_box (v := .agg #[.int .i64 d, .int .i64 l, .int .i64 x_, .int .u64 (cov : Nat), .int .i64 n, .slice aof F.length capf]) (by rfl) ?_
 intro t w1 ht1 ht2 hm1 hT
 simp only [put_some, List.set_cons_succ, List.set_cons_zero]
 refine hK _ _ ?_
 clear hK K
 have hT1 : Blk w1 t 56 [.int .i64 d, .int .i64 l, .int .i64 x_, .int .u64 (cov : Nat), .int .i64 n, .slice aof F.length capf] := hT
 clear hT
 have B1 := B.new hm1 ht1 hT1
 clear hT1 hm1 ht2
 have d0 := (B1.blk 0 rfl).cell' (i := 0) rfl
 have e1 := (B1.blk 1 rfl).cell' (i := 1) rfl
 go_wp2_with (first
               | (with_reducible refine st_alloc ?_)
               | (go_at_call 10; (with_reducible refine (PK _).mono ?_); rintro e w2 ⟨rfl, rfl⟩)
               | (go_at_call 12; (with_reducible refine (LD _ _ B1).mono ?_); rintro e w3 ⟨bwa, rfl, hoa, hna, B3, hm3⟩; obtain ⟨aoa, capa, rfl, _, _⟩ := hoa.sl.form))
 refine StopOp.go rfl fun K hK => ?_
 refine wp_alloc zero_header ?_
 intro t4 w4 h41 h42 hm4 hB4
 simp only [put_some, List.set_cons_succ, List.set_cons_zero]
 refine hK _ _ ?_
 clear hK K
 go_wp2_with (with_reducible refine st_store ?_)
 refine StopOp.go rfl fun K hK => ?_
 refine wp_store (u := .agg #[.int .u64 (hg : Nat), .int .u64 (hc_ : Nat), .int .i64 hl, .int .u32 (hs : Nat)]) (by rfl) (by rfl) (by kernel_rfl) hB4 (by simp [Value.cells]) (by simp [Value.cells, Value.oneCell']) ?_
 intro w5 hm5 hB5
 refine hK _ _ ?_
 clear hK K
 have hm35 : Mod [] w3 w5 := hm4.fresh hm5 (by simpa using h41)
 have hB5' : Blk w5 t4 25 [.int .u64 (hg : Nat), .int .u64 (hc_ : Nat), .int .i64 hl, .int .u32 (hs : Nat)] := hB5
 have B5 := B3.new hm35 h41 hB5'
 have hoa5 := Ow.ext hoa hm35
 have hlta : ∀ y ∈ blks (.slice aoa Bd.length capa), y < w3.heap.size := hoa.lt
 clear hB4 hB5 hB5' hm4 hm5 e1 hoa
 have e3 := (B5.blk 2 rfl).cell' (i := 3) rfl
 go_wp2_with (first
               | (with_reducible refine st_alloc ?_)
               | (go_at_call 21; (with_reducible refine (RD _ _ _ B5).mono ?_); rintro e w6 ⟨bwb, rfl, hob, hnb, B6, hm6⟩; obtain ⟨aob, capb, rfl, _, _⟩ := hob.sl.form))
 refine StopOp.go rfl fun K hK => ?_
 refine wp_alloc zero_header ?_
 intro t7 w7 h71 h72 hm7 hB7
 simp only [put_some, List.set_cons_succ, List.set_cons_zero]
 refine hK _ _ ?_
 clear hK K
 go_wp2_with (with_reducible refine st_store ?_)
 refine StopOp.go rfl fun K hK => ?_
 refine wp_store (u := .agg #[.int .u64 (hg : Nat), .int .u64 (hc_ : Nat), .int .i64 hl, .int .u32 (hs : Nat)]) (by rfl) (by rfl) (by kernel_rfl) hB7 (by simp [Value.cells]) (by simp [Value.cells, Value.oneCell']) ?_
 intro w8 hm8 hB8
 refine hK _ _ ?_
 clear hK K
 have hm68 : Mod [] w6 w8 := hm7.fresh hm8 (by simpa using h71)
 have hB8' : Blk w8 t7 25 [.int .u64 (hg : Nat), .int .u64 (hc_ : Nat), .int .i64 hl, .int .u32 (hs : Nat)] := hB8
 have B8 := B6.new hm68 h71 hB8'
 have hoa8 := Ow.ext (Ow.mod hoa5 hm6 (fun y hy hh => by have e : y = P := (by simpa using hh); have h1 := hna y hy; have h2 := B1.E.lt1 P List.mem_cons_self; omega)) hm68
 have hob8 := Ow.ext hob hm68
 have hA8 : Bs w8 (.slice aoa Bd.length capa) Bd := Ob.bs hoa8
 have hB8b : Bs w8 (.slice aob Bd.length capb) Bd := Ob.bs hob8
 clear hB7 hB8 hB8' hm7 hm8 e3 hoa5 hob
 have a0 := (B8.blk 0 rfl).cell' (i := 0) rfl
 have a1 := (B8.blk 0 rfl).cell' (i := 1) rfl
 have a2 := (B8.blk 0 rfl).cell' (i := 2) rfl
 have a3 := (B8.blk 0 rfl).cell' (i := 3) rfl
 have b0 := (B8.blk 1 rfl).cell' (i := 0) rfl
 have b1 := (B8.blk 1 rfl).cell' (i := 1) rfl
 have b2 := (B8.blk 1 rfl).cell' (i := 2) rfl
 have b3 := (B8.blk 1 rfl).cell' (i := 3) rfl
 go_wp2_with (go_at_call 15; (with_reducible refine (SB _ _ _ hA8 hB8b).mono ?_); rintro e w9 ⟨rfl, hm9⟩)
 go_ret
 exact ⟨_, _, rfl, (B8.ext hm9).tail.tail.tail⟩
end Go.Proofs.YtminfegoldgjpaaGreatDoor
