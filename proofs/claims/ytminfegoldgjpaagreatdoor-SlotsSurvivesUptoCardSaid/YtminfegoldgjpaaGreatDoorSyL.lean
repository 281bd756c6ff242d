import Derived.Test.YtminfegoldgjpaaGreatDoorSyK
import Derived.Test.YtminfegoldgjpaaGreatDoorSlV
import Derived.Test.YtminfegoldgjpaaGreatDoorRegV
set_option linter.unusedVariables false
set_option linter.unusedSimpArgs false
set_option maxRecDepth 100000
namespace Go.Proofs.YtminfegoldgjpaaGreatDoor
open Go.RowKit Gw
theorem sdoes4_any {W w : World} {x p q P Q s r a b h k f0 f1 c : Nat} {v : Pv} {L M : List Nat} (o : Sop) (ho : OkSop W o) (h4 : pick o.d 7 < 4) (B : Bw W w p q P Q v v L M (osB x p P s r a b h k f0 f1 c)) (hT : TabC W) (hz : v.m.sz = 64) (hd : v.m.dur.length = 10) (hn : v.n ≤ 900000) (hr : v.m.row.length ≤ 900000) (hc : 2 ≤ c) (hc4 : c ≤ 4) (h0 : f0 + c ≤ 10) (h1 : f1 + c ≤ 10) :
   Calls Tryz.prog 17 #[.pointer (some ⟨x, 0, none⟩), o.val] w (DoesP W p q P Q (osB x p P s r a b h k f0 f1 c) (stepV f0 f1 c v (pick o.d 7) (bodS c o) o.cov (pick o.n 30) o.F)) := by
 have g1 := pick_ge o.d 7
 unfold stepV
 obtain e | e | e | e : pick o.d 7 = 0 ∨ pick o.d 7 = 1 ∨ pick o.d 7 = 2 ∨ pick o.d 7 = 3 := by omega
 · rw [if_pos e]
   exact does0_any W w x p q P Q s r a b h k f0 f1 c v L M o ho e B hT hz hd hn hr hc hc4 h0 h1
 · rw [if_neg (by omega), if_pos e]
   exact does1_any W w x p q P Q s r a b h k f0 f1 c v L M o ho e B hT hz hd hn hr hc hc4 h0 h1
 · rw [if_neg (by omega), if_neg (by omega), if_pos e]
   exact does2_any W w x p q P Q s r a b h k f0 f1 c v L M o ho e B hT hz hd hn hr hc hc4 h0 h1
 · rw [if_neg (by omega), if_neg (by omega), if_neg (by omega)]
   exact does3_any W w x p q P Q s r a b h k f0 f1 c v L M o ho e B hT hz hd hn hr hc hc4 h0 h1
theorem stepV_sz (f0 f1 c : Nat) (v : Pv) (k : Int) (b : List UInt8) (cov : Nat) (n : Int) (F : List (Int × Int)) (hc4 : c ≤ 4) :
   (stepV f0 f1 c v k b cov n F).m.sz = v.m.sz ∧ (stepV f0 f1 c v k b cov n F).m.dur.length = v.m.dur.length ∧ (stepV f0 f1 c v k b cov n F).n ≤ v.n + 2100 ∧ (stepV f0 f1 c v k b cov n F).m.row.length ≤ v.m.row.length + 1100 := by
 unfold stepV
 split
 · have hs := saveG_sz f0 f1 c 64 v b cov
   exact ⟨hs.sz, hs.dur, by have := hs.n; omega, by have := hs.row; omega⟩
 · split
   · have hs := loadG_sz f0 f1 c 64 v
     exact ⟨by rw [hs.m], by rw [hs.m], by have := hs.n; omega, by rw [hs.m]; omega⟩
   · split
     · obtain ⟨s1, s2⟩ := arm_sz v n
       exact ⟨by rw [s1], by rw [s1], by omega, by rw [s1]; omega⟩
     · obtain ⟨s1, s2, s3, s4⟩ := re_sz v F
       exact ⟨s1, s2, by omega, by rw [s3]; simp⟩
theorem pick3 {i : Nat} (h : i < 3) : pick (i : Int) 8 = i ∧ okN i = true ∧ ((spN i).1.1 + (spN i).1.2 ≤ (spN i).2.1 ∨ (spN i).2.1 + (spN i).1.2 ≤ (spN i).1.1) := by
 obtain h | h | h : i = 0 ∨ i = 1 ∨ i = 2 := by omega
 all_goals subst h; decide
theorem again_add {P : Program} {o : Oper} {a : Act} {w w' : World} {k : IntKind} {n1 n2 : Int} {t t' : TypeId} {x y : Operand} (ho : o.op = .binOp .add t x y t') (hx : a.eval x = .int k n1) (hy : a.eval y = .int k n2) : Again P o a w w' :=
 again_const (v := .int k (k.wrap (n1 + n2))) fun w => by
   unfold execOp
   rw [ho]
   dsimp only
   rw [hx, hy]
   simp [Op.intArith, Go.binOp, eqGuard]
theorem Ob.len {w : World} {ao : Option Addr} {n cap : Nat} {l : List UInt8} (h : Ob w (.slice ao n cap) l) : l.length = n := by
 obtain ⟨ao', cap', e, _, _⟩ := h.sl.form
 injection e with e1 e2 e3
 exact e2.symm
theorem Bw.keepB {W w : World} {p q P Q : Nat} {v u : Pv} {L M : List Nat} {O : List (Nat × TypeId × List Value)} {y : Nat × TypeId × List Value} {ao : Option Addr} {n cap : Nat} {l : List UInt8} (H : Bw W w p q P Q v u L M (y :: O)) (ho : Ob w (.slice ao n cap) l) (hn : ∀ z ∈ blks (.slice ao n cap), W.heap.size ≤ z ∧ z ∉ p :: L ∧ z ∉ P :: M) :
   ∃ g t cs, Bw W w p q P Q v u L M ((g, t, cs) :: y :: O) ∧ ∀ w', Blk w' g t cs → Bs w' (.slice ao n cap) l := by
 by_cases h0 : n = 0
 · obtain ⟨g, t, cs⟩ := y
   refine ⟨g, t, cs, H.sub (fun z hz => ?_), fun w' _ => Sl.keep (Ob.bs ho) (fun b hb hx => absurd ?_ hx)⟩
   · rcases List.mem_cons.1 hz with e | e
     · exact e ▸ List.mem_cons_self
     · exact e
   · have hl : l.length = n := Ob.len ho
     have hl0 : l = [] := List.length_eq_zero_iff.1 (by omega)
     rw [hl0]
     rfl
 · obtain ⟨g, rest, rfl, hB, hl, hc, hm⟩ := Ob.blk ho (by omega)
   obtain ⟨h1, h2, h3⟩ := hn g (by simp [blks])
   refine ⟨g, 5, bv l ++ rest, H.add h1 h2 h3 hB, fun w' hb => ?_⟩
   have hle : l.length ≤ cap := by rw [← hc, List.length_append, bv_length]; omega
   have := Bs.of_blk (c := cap) hb hle hm
   rwa [hl] at this
set_option maxRecDepth 1000000 in
set_option maxHeartbeats 40000000 in
theorem slotsSurvives_core (sv fv : Value) (os : List Sop) (ls : Sop) (Fl : List (Int × Int)) (W : World) (hs : Sops W sv os) (hls : OkSop W ls) (hF : Fs W fv Fl) (hFl : Fl.length ≤ 1048576) (hFo : Fl ≠ [] → ∀ b ∈ blks fv, b < W.heap.size) (hT : TabC W) :
   Calls Tryz.prog 5 #[sv, ls.val, fv] W fun e w' => e = .returned (.bool true) ∧ Mod [] W w' := by
 obtain ⟨hs1, hs2⟩ := hs
 obtain ⟨aos, caps, rfl, hcs, hcs2⟩ := hs1.form
 obtain ⟨aof, capf, rfl, _, _⟩ := hF.form
 obtain ⟨hlF, hlo, wd, wl, wx, wcov, wn, hlf⟩ := hls
 obtain ⟨ld, ll, lx, lcov, ln, lfv, lF⟩ := ls
 dsimp only at hlF hlo wd wl wx wcov wn hlf
 obtain ⟨aog, capg, rfl, _, _⟩ := hlF.form
 unfold Sop.val
 dsimp only
 have AW := fun w h => slawake_any w h
 have P3 := fun w => pick_any lx 3 w wx.1 wx.2 (by omega) (by omega)
 obtain ⟨i, hi⟩ : ∃ i : Nat, pick lx 3 = i := ⟨_, (Int.toNat_of_nonneg (pick_ge lx 3)).symm⟩
 have hi3 : i < 3 := by have := pick_lt lx 3 (by omega); omega
 rw [hi] at P3
 clear hi
 obtain ⟨p1, hok, hap⟩ := pick3 hi3
 have MD := fun w => smade_any (i : Int) i w ⟨by omega, by omega⟩ p1
 obtain ⟨c1, c2, c3, c4⟩ := okN_room (by omega) hok
 have MD1 : ∀ w, Calls Tryz.prog 7 #[.int .i64 (i : Nat)] w (fun e w' => ∃ x p q P Q s r a b h k L M, e = .returned (.tuple #[.pointer (some ⟨x, 0, none⟩), .bool true]) ∧ Bw w w' p q P Q dvS dvS L M (osB x p P s r a b h k (spN i).1.1 (spN i).2.1 (spN i).1.2)) := fun w => (MD w).mono fun e w' hh => by
   rcases hh with ⟨h, _⟩ | ⟨_, h⟩
   · rw [hok] at h; cases h
   · exact h
 clear MD hok p1
 obtain ⟨f0, hf0⟩ : ∃ f, f = (spN i).1.1 := ⟨_, rfl⟩
 obtain ⟨f1, hf1⟩ : ∃ f, f = (spN i).2.1 := ⟨_, rfl⟩
 obtain ⟨cc, hcc⟩ : ∃ f, f = (spN i).1.2 := ⟨_, rfl⟩
 rw [← hf0, ← hcc] at c3
 rw [← hf1, ← hcc] at c4
 rw [← hcc] at c1 c2
 rw [← hf0, ← hf1, ← hcc] at MD1 hap
 clear hf0 hf1 hcc
 have HV := Lib.hid (show dvS.m.sz = 64 ∧ dvS.m.dur.length = 10 ∧ dvS.n = 0 ∧ dvS.m.row.length = 0 ∧ InvS (SmQ 0) dvS.m f0 ∧ InvS (SmQ 0) dvS.m f1 from ⟨rfl, rfl, rfl, rfl, inv_zero f0 (by omega), inv_zero f1 (by omega)⟩)
 obtain ⟨v0, hv0⟩ : ∃ v, v = dvS := ⟨_, rfl⟩
 rw [← hv0] at MD1 HV
 clear hv0
 have HAP := Lib.hid hap
 clear hap
 obtain ⟨J, hJ⟩ : ∃ N, N = min os.length 40 := ⟨_, rfl⟩
 have HN := Lib.hid hJ
 clear hJ
 have yi : (i : Int) ≤ 2 := by omega
 go_enter Tryz.func5, Tryz.ntmps5
 go_wp2_with (with_reducible refine st_box ?_)
 refine StopOp.go rfl fun K hK => ?_
 refine wp_box (v := .agg #[.int .i64 ld, .int .i64 ll, .int .i64 lx, .int .u64 (lcov : Nat), .int .i64 ln, .slice aog lF.length capg]) (by rfl) ?_
 intro t w0 ht1 ht2 hm0 hL0
 simp only [put_some, List.set_cons_succ, List.set_cons_zero]
 refine hK _ _ ?_
 clear hK K
 have hLt : Blk w0 t 56 [.int .i64 ld, .int .i64 ll, .int .i64 lx, .int .u64 (lcov : Nat), .int .i64 ln, .slice aog lF.length capg] := hL0
 clear hL0
 go_upto_region 6 with (first
               | (go_at_call 6; (with_reducible refine (AW _ (hT.ext hm0)).mono ?_); rintro e w1 ⟨rfl, hm1⟩; have hL1 := hLt.ext hm1; have d2 := hL1.cell' (i := 2) rfl)
               | (go_at_call 10; (with_reducible refine (P3 _).mono ?_); rintro e w2 ⟨rfl, rfl⟩)
               | (go_at_call 7; (with_reducible refine (MD1 _).mono ?_); rintro e w2 ⟨x, p, q, P, Q, s, r, a, b, h, k, L0, M0, rfl, B2⟩))
 have hM1 := hm0.ext hm1
 have hT1 := hT.ext hM1
 have hs1' := Sl.ext hs1 hM1
 have hF1 : Fs w1 (.slice aof Fl.length capf) Fl := Sl.ext hF hM1
 have hFo1 : Fl ≠ [] → ∀ b ∈ blks (.slice aof Fl.length capf), b < w1.heap.size := fun h0 b hb => Nat.lt_of_lt_of_le (hFo h0 b hb) hM1.size
 clear hs1 hT hF hFo hlF hlo d2
 go_wp2_with fail
 go_loopw [9] (fun iv wr => ∃ (j : Nat) (v : Pv) (L M : List Nat), iv = .int .i64 j ∧ j ≤ J ∧ Bw w1 wr p q P Q v v L M (osB x p P s r a b h k f0 f1 cc) ∧ v.m.sz = 64 ∧ v.m.dur.length = 10 ∧ v.n ≤ 2100 * j ∧ v.m.row.length ≤ 1100 * j ∧ InvS (SmQ j) v.m f0 ∧ InvS (SmQ j) v.m f1) (fun iv _ => J - (intOf iv).toNat)
 case atStart => exact ⟨0, v0, L0, M0, rfl, Nat.zero_le _, B2, HV.out.1, HV.out.2.1, by have := HV.out.2.2.1; omega, by have := HV.out.2.2.2.1; omega, HV.out.2.2.2.2.1, HV.out.2.2.2.2.2⟩
 case round =>
   clear B2
   obtain ⟨j, v, L, M, rfl, hj, B, hvz, hvd, hvn, hvr, i0, i1⟩ := hrel
   have hJ2 : J ≤ 40 := by have := HN.out; omega
   obtain ⟨c, hc⟩ : ∃ c, c = decide (j < J) := ⟨_, rfl⟩
   have HC := Lib.hid hc
   clear hc
   go_upto_region 7 with fail
   go_cut [50] (fun u wx => u = .bool c ∧ wr = wx)
   case first =>
     by_cases h1 : j < os.length
     · have y1 : (j : Int) < os.length := by omega
       by_cases h2 : j < 40
       · have y2 : (j : Int) < 40 := by omega
         go_wp2_with fail
         go_meet
         exact ⟨by rw [HC.out, decide_eq_true (show j < J by have := HN.out; omega)]; try (simp; omega), rfl⟩
       · have y2 : (40 : Int) ≤ j := by omega
         go_wp2_with fail
         go_meet
         exact ⟨by rw [HC.out, decide_eq_false (show ¬ j < J by have := HN.out; omega)]; try (simp; omega), rfl⟩
     · have y1 : (os.length : Int) ≤ j := by omega
       go_wp2_with fail
       go_meet
       exact ⟨by rw [HC.out, decide_eq_false (show ¬ j < J by have := HN.out; omega)]; try (simp; omega), rfl⟩
   case rest =>
   obtain ⟨rfl, rfl⟩ := hcut
   cases c with
   | true =>
     have hlt : j < J := of_decide_eq_true HC.out.symm
     have hjo : j < os.length := by have := HN.out; omega
     have y1 : (j : Int) < os.length := by omega
     clear HC
     obtain ⟨bb, oo, rfl, hcr⟩ := Sops.elem (Sl.ext hs1' B.m) hjo
     have hop := (hs2 _ (List.getElem_mem hjo)).ext hM1
     obtain ⟨op, hop'⟩ : ∃ op, op = os[j] := ⟨_, rfl⟩
     rw [← hop'] at hcr hop
     clear hop'
     have PO := fun w => pick_any op.d 7 w hop.d.1 hop.d.2 (by omega) (by omega)
     have PL := fun w h4 hB => sdoes4_any (w := w) op hop h4 (hB : Bw w1 w p q P Q v v L M (osB x p P s r a b h k f0 f1 cc)) hT1 hvz hvd (by omega) (by omega) c1 c2 c3 c4
     have hsz := stepV_sz f0 f1 cc v (pick op.d 7) (bodS cc op) op.cov (pick op.n 30) op.F c2
     have hin := stepV_inv (k := pick op.d 7) (b := bodS cc op) (cov := op.cov) (n := pick op.n 30) (F := op.F) B.D.ok.m hvz c1 (by omega) (by omega) HAP.out (by omega) i0 i1
     unfold DoesP at PL
     obtain ⟨V, hV⟩ : ∃ V, V = stepV f0 f1 cc v (pick op.d 7) (bodS cc op) op.cov (pick op.n 30) op.F := ⟨_, rfl⟩
     simp only [← hV] at PL hsz hin
     clear hV
     obtain ⟨gd, gl, gx, gc, gn, gfv, gF⟩ := op
     obtain ⟨aoh, caph, hfv, _, _⟩ := hop.fs.form
     dsimp only at hfv PO PL
     subst hfv
     unfold Sop.val at PL
     dsimp only at PL
     unfold Sop.cells at hcr
     dsimp only at hcr
     have q0 := hcr 0 _ rfl
     have q1 := hcr 1 _ rfl
     have q2 := hcr 2 _ rfl
     have q3 := hcr 3 _ rfl
     have q4 := hcr 4 _ rfl
     have q5 := hcr 5 _ rfl
     rw [Nat.add_zero] at q0
     clear hcr hop
     obtain ⟨pd, hpd⟩ : ∃ x, x = pick gd 7 := ⟨_, rfl⟩
     rw [← hpd] at PO PL
     clear hpd
     by_cases h4 : pd < 4
     · have PL4 := fun w hB => PL w h4 hB
       clear PL
       go_wp2_with (first
                     | (go_at_call 10; (with_reducible refine (PO _).mono ?_); rintro e w5 ⟨rfl, rfl⟩)
                     | (go_at_call 17; (with_reducible refine (PL4 _ B).mono ?_); rintro e w5 ⟨L5, M5, rfl, B5⟩))
       go_roundw
       case rel => exact ⟨j + 1, V, L5, M5, by go_num, by omega, B5, hsz.1.trans hvz, hsz.2.1.trans hvd, by have := hsz.2.2.1; omega, by have := hsz.2.2.2; omega, hin.1, hin.2⟩
       case measure => simp [intOf]; omega
     · have h4' : 4 ≤ pd := by omega
       go_wp2_with (go_at_call 10; (with_reducible refine (PO _).mono ?_); rintro e w5 ⟨rfl, rfl⟩)
       go_roundw
       case rel => exact ⟨j + 1, v, L, M, by go_num, by omega, B, hvz, hvd, by omega, by omega, i0.mono (Nat.le_succ _), i1.mono (Nat.le_succ _)⟩
       case measure => simp [intOf]; omega
   | false =>
     clear HC
     have hJ3 : j ≤ 40 := by omega
     have RE := fun w h => pRestart_any p q v L [] (.slice none 0 0) w h (by omega) (Sl.nil w 2) (fun hh => absurd rfl hh)
     have RQ := fun w h => qRestart_any P Q v M [] (.slice none 0 0) w h (by omega) (Sl.nil w 2) (fun hh => absurd rfl hh)
     have hz1 : (v.re []).m.sz = 64 := hvz
     have hd1 : (v.re []).m.dur.length = 10 := (re_sz v []).2.1.trans hvd
     have hr1 : (v.re []).m.row.length = 0 := rfl
     have I0 : InvS (SmQ 40) (v.re []).m f0 := (inv_re i0 SmQ.tear []).mono hJ3
     have I1 : InvS (SmQ 40) (v.re []).m f1 := (inv_re i1 SmQ.tear []).mono hJ3
     have hre : v.re [] = Lv (v.m.crash []) 0 := rfl
     obtain ⟨m1, hm1e⟩ : ∃ m, m = v.m.crash [] := ⟨_, rfl⟩
     rw [← hm1e] at hre
     rw [hre] at hz1 hd1 hr1 I0 I1
     simp only [hre] at RE RQ
     clear hm1e hre
     have z1 : m1.sz = 64 := hz1
     have d1 : m1.dur.length = 10 := hd1
     have r1 : m1.row.length = 0 := hr1
     have I0' : InvS (SmQ 40) m1 f0 := I0
     have I1' : InvS (SmQ 40) m1 f1 := I1
     clear hz1 hd1 hr1 I0 I1 i0 i1 hvz hvd hvn hvr
     have DB := B.D
     have e0 := (B.blk 0 rfl).cell' (i := 0) rfl
     go_upto_region 13 with (first
                   | (go_at_call 19; (with_reducible refine (RE _ DB).mono ?_); rintro e w5 ⟨rfl, hP5⟩; obtain ⟨L6, B5, hm5⟩ := B.dt hP5; have e2 := (B5.blk 0 rfl).cell' (i := 2) rfl; have E5 := B5.E)
                   | (go_at_call 20; (with_reducible refine (RQ _ E5).mono ?_); rintro e w6 ⟨rfl, hP6⟩; obtain ⟨M6, B6, hm6⟩ := B5.rt hP6))
     clear RE RQ DB e0 e2 E5 hP5 hP6 B B5 hm5 hm6
     have ok1 : m1.ok := B6.D.ok.m
     obtain ⟨n1, hL1e, _, hn1⟩ := loadG_lv f0 f1 cc m1 0 ok1 z1 (by omega) (by omega) (by omega)
     have hL1f : loadG f0 f1 cc 64 (Lv m1 0) = ⟨Lv m1 n1, 0, (foundM m1 f0 f1 cc).1, (foundM m1 f0 f1 cc).2.1, (foundM m1 f0 f1 cc).2.2⟩ := hL1e
     have hbo := (loadG_sz f0 f1 cc 64 (Lv m1 0)).b
     have hgs := found_small (c := cc) ok1 z1 (by omega) (by omega) I0' I1'
     obtain ⟨Fo, hFo2⟩ : ∃ y, y = foundM m1 f0 f1 cc := ⟨_, rfl⟩
     have HFO := Lib.hid hFo2
     rw [← hFo2] at hL1f hgs
     rw [hL1f] at hbo
     dsimp only at hbo hgs
     clear hL1e hFo2
     obtain ⟨⟨hg, hc_, hl, hs⟩, Bo, Io⟩ := Fo
     dsimp only at hL1f hbo hgs
     have yg : (hg : Int) ≤ 40 := by omega
     have hbo2 : Bo.length ≤ 256 := by omega
     have LD := fun w O (HB : Bw w1 w p q P Q (Lv m1 0) (Lv m1 0) L6 M6 O) (hO : ∀ y ∈ osB x p P s r a b h k f0 f1 cc, y ∈ O) => HB.load hO hT1 z1 d1 c3 c4 (by show 0 ≤ _; omega)
     have RD := fun w O (HB : Bw w1 w p q P Q (Lv m1 n1) (Lv m1 0) L6 M6 O) (hO : ∀ y ∈ osB x p P s r a b h k f0 f1 cc, y ∈ O) => HB.rload hO z1 d1 c2 c3 c4 (by show 0 ≤ _; omega)
     simp only [hL1f] at LD RD
     unfold LoadB Hd.v at LD
     unfold LoadE Hd.v at RD
     dsimp only at LD RD
     clear hL1f hbo hgs
     have e1 := (B6.blk 0 rfl).cell' (i := 1) rfl
     go_wp2_with (first
                   | (with_reducible refine st_alloc ?_)
                   | (go_at_call 12; (with_reducible refine (LD _ _ B6 (fun _ h => h)).mono ?_); rintro e w7 ⟨bwo, rfl, hoo, hno, B7, hm7⟩; obtain ⟨aoo, capo, rfl, _, _⟩ := hoo.sl.form))
     refine StopOp.go rfl fun K hK => ?_
     refine wp_alloc zero_header ?_
     intro t10 w8 h81 h82 hm8 hB8
     simp only [put_some, List.set_cons_succ, List.set_cons_zero]
     refine hK _ _ ?_
     clear hK K
     go_wp2_with (with_reducible refine st_store ?_)
     refine StopOp.go rfl fun K hK => ?_
     refine wp_store (u := .agg #[.int .u64 (hg : Nat), .int .u64 (hc_ : Nat), .int .i64 hl, .int .u32 (hs : Nat)]) (by rfl) (by rfl) (by kernel_rfl) hB8 (by simp [Value.cells]) (by simp [Value.cells, Value.oneCell']) ?_
     intro w9 hm9 hB9
     refine hK _ _ ?_
     clear hK K
     have hm79 : Mod [] w7 w9 := hm8.fresh hm9 (by simpa using h81)
     have hB9' : Blk w9 t10 25 [.int .u64 (hg : Nat), .int .u64 (hc_ : Nat), .int .i64 hl, .int .u32 (hs : Nat)] := hB9
     have B9 := B7.new hm79 h81 hB9'
     have hoo9 : Ob w9 (.slice aoo Bo.length capo) Bo := Ow.ext hoo hm79
     have hW6 := B6.m.size
     obtain ⟨gO, tO, cO, BK, hBO⟩ := B9.keepB hoo9 (fun z hz => by have h1 := hno z hz; exact ⟨by omega, fun hh => by have := B6.D.lt0 z hh; omega, fun hh => by have := B6.E.lt1 z hh; omega⟩)
     clear hB8 hB9 hB9' hm8 hm9 hm79 e1 hoo hoo9 hno B7 B9 hm7 LD hW6
     have e3 := (BK.blk 2 rfl).cell' (i := 3) rfl
     go_upto_region 15 with (go_at_call 21; (with_reducible refine (RD _ _ BK (fun y hy => by simp only [List.mem_cons]; exact .inr (.inr (hy)))).mono ?_); rintro e w10 ⟨bwx, rfl, hox, hnx, B10, hm10⟩; obtain ⟨aox, capx, rfl, _, _⟩ := hox.sl.form)
     clear e3 RD hox hnx hm10 BK B6
     obtain ⟨Z, hZ⟩ : ∃ Z : Int, Z = ((cc * 64 : Nat) : Int) - ((64 : Nat) : Int) := ⟨_, rfl⟩
     have hZ1 : 64 ≤ Z := by omega
     have hZ2 : Z ≤ 192 := by omega
     have HZ := Lib.hid hZ
     have BY := fun w S R => sBytes_any s a b p f0 cc 64 w S R (by omega) (by omega)
     rw [← hZ] at BY
     clear hZ
     have PL := fun w => pick_any ll (Z + 1) w wl.1 wl.2 (by omega) (by omega)
     have g1 := pick_ge ll (Z + 1)
     have g2 := pick_lt ll (Z + 1) (by omega)
     obtain ⟨K, hK⟩ : ∃ K : Nat, pick ll (Z + 1) = K := ⟨_, (Int.toNat_of_nonneg g1).symm⟩
     rw [hK] at PL g2
     have hKZ : (K : Int) ≤ Z := by omega
     clear hK g1 g2
     have FI := fun w => sfill_blk lx K w (by omega)
     have hBl : (filS lx K).length = K := filS_len _ _
     obtain ⟨Bd, hBd⟩ : ∃ B, B = filS lx K := ⟨_, rfl⟩
     rw [← hBd] at FI hBl
     clear hBd
     subst hBl
     have hBcc : Bd.length + 64 ≤ cc * 64 := by have := HZ.out; omega
     have yK : (Bd.length : Int) ≤ 192 := by omega
     clear HZ
     refine wp_region_T [⟨0, true, []⟩, ⟨1, true, []⟩, ⟨2, true, []⟩, ⟨3, true, []⟩, ⟨4, true, []⟩, ⟨5, true, []⟩, ⟨6, true, []⟩, ⟨7, true, []⟩, ⟨8, false, [1, 3]⟩, ⟨9, true, []⟩, ⟨10, false, [1]⟩, ⟨11, false, []⟩, ⟨12, true, []⟩] (by kernel_rfl) (by kernel_rfl) ?_
     have hm15 := Mod.drew [] w10
     obtain ⟨x15, hx15⟩ : ∃ x, x = w10.drew := ⟨_, rfl⟩
     rw [← hx15] at hm15 ⊢
     clear hx15
     have B15 := B10.ext hm15
     have L15 := hL1.ext B15.m
     have l1 := L15.cell' (i := 1) rfl
     have l2 := L15.cell' (i := 2) rfl
     have e1 := (B15.blk 2 rfl).cell' (i := 1) rfl
     have S15 : Sls x15 s a b := B15.blk 3 rfl
     have R15 : Rgn x15 a p f0 cc 64 := B15.blk 5 rfl
     iterate 8 (refine wpT_n rfl rfl (fun K hK => ?_); go_wp2_with fail)
     refine wpT_callh rfl rfl (fun K hK => ?_)
     go_wp2_with (go_at_call 11; (with_reducible refine (BY _ S15 R15).mono ?_); rintro e wb ⟨rfl, hmb⟩)
     refine ⟨(agains_cons rfl (again_load rfl rfl (hmb.block t (hL1.ext B15.m).lt (by simp)) (hL1.ext B15.m).kinds) (agains_cons rfl (again_load rfl rfl (hmb.block t (hL1.ext B15.m).lt (by simp)) (hL1.ext B15.m).kinds) agains_nil)), ?_⟩
     refine wpT_n rfl rfl (fun K hK => ?_)
     go_wp2_with fail
     refine wpT_callh rfl rfl (fun K hK => ?_)
     go_wp2_with (go_at_call 10; (with_reducible refine (PL _).mono ?_); rintro e wb' ⟨rfl, rfl⟩)
     refine ⟨agains_same, ?_⟩
     refine wpT_call rfl rfl (fun K hK => ?_)
     go_wp2_with (go_at_call 9; (with_reducible refine (FI _).mono ?_); rintro e wf ⟨gb, rfl, hBb, hgb, hmf⟩)
     have B16 := (B15.ext hmb).new hmf hgb hBb
     refine wpT_n rfl rfl (fun K hK => ?_)
     go_wp2_with fail
     refine wpT_nil ?_
     go_wp2_with fail
     have hbsg : ∀ {w : World}, Blk w gb 5 (bv Bd) → Bs w (.slice (some ⟨gb, 0, none⟩) Bd.length Bd.length) Bd := fun h => Bs.of_blk (rest := []) (by rw [List.append_nil]; exact h) (Nat.le_refl _) (by omega)
     clear L15 l1 l2 e1 S15 R15 hBb hgb hmf hmb B10 B15 BY PL FI
     have PN := fun w => pick_any ln 30 w wn.1 wn.2 (by omega) (by omega)
     have g1 := pick_ge ln 30
     have g2 := pick_lt ln 30 (by omega)
     obtain ⟨N, hN⟩ : ∃ N, N = pick ln 30 := ⟨_, rfl⟩
     rw [← hN] at PN g1 g2
     clear hN
     have AR := fun w h => pArm_any p q (Lv m1 n1) L6 N w h (by omega)
     have AQ := fun w h => qArm_any P Q (Lv m1 n1) M6 N w h (by omega)
     have hoff : (if (Lv m1 n1).off = true then (60 : Int) else 0) = 0 := rfl
     rw [hoff] at AR AQ
     clear hoff
     obtain ⟨a1, a2⟩ := arm_sz (Lv m1 n1) N
     obtain ⟨v2, hv2⟩ : ∃ V, V = (Lv m1 n1).arm N := ⟨_, rfl⟩
     rw [← hv2] at AR AQ a1 a2
     clear hv2
     have vm : v2.m = m1 := a1
     have vn : v2.n = n1 := a2
     clear a1 a2
     refine wp_region_T [⟨0, true, []⟩, ⟨1, true, []⟩, ⟨2, true, []⟩, ⟨3, true, []⟩, ⟨4, true, []⟩, ⟨5, true, []⟩, ⟨6, false, [1, 3]⟩, ⟨7, false, []⟩] (by kernel_rfl) (by kernel_rfl) ?_
     have hm16 := Mod.drew [] wf
     obtain ⟨x16, hx16⟩ : ∃ x, x = wf.drew := ⟨_, rfl⟩
     rw [← hx16] at hm16 ⊢
     clear hx16
     have B16' := B16.ext hm16
     have l4 := (hL1.ext B16'.m).cell' (i := 4) rfl
     have e0 := (B16'.blk 3 rfl).cell' (i := 0) rfl
     have D16 := B16'.D
     iterate 6 (refine wpT_n rfl rfl (fun K hK => ?_); go_wp2_with fail)
     refine wpT_callh rfl rfl (fun K hK => ?_)
     go_wp2_with (go_at_call 10; (with_reducible refine (PN _).mono ?_); rintro e wb ⟨rfl, rfl⟩)
     refine ⟨agains_same, ?_⟩
     refine wpT_call rfl rfl (fun K hK => ?_)
     go_wp2_with (go_at_call 22; (with_reducible refine (AR _ D16).mono ?_); rintro e w16 ⟨rfl, hP16, hm16a⟩)
     have B17 := B16'.rd hP16 hm16a
     refine wpT_nil ?_
     go_wp2_with fail
     clear l4 e0 D16 hP16 hm16a B16 B16'
     refine wp_region_T [⟨0, true, []⟩, ⟨1, true, []⟩, ⟨2, true, []⟩, ⟨3, true, []⟩, ⟨4, true, []⟩, ⟨5, true, []⟩, ⟨6, false, [1, 3]⟩, ⟨7, false, []⟩] (by kernel_rfl) (by kernel_rfl) ?_
     have hm17 := Mod.drew [] w16
     obtain ⟨x17, hx17⟩ : ∃ x, x = w16.drew := ⟨_, rfl⟩
     rw [← hx17] at hm17 ⊢
     clear hx17
     have B17' := B17.ext hm17
     have l4 := (hL1.ext B17'.m).cell' (i := 4) rfl
     have e2 := (B17'.blk 3 rfl).cell' (i := 2) rfl
     have E17 := B17'.E
     iterate 6 (refine wpT_n rfl rfl (fun K hK => ?_); go_wp2_with fail)
     refine wpT_callh rfl rfl (fun K hK => ?_)
     go_wp2_with (go_at_call 10; (with_reducible refine (PN _).mono ?_); rintro e wb ⟨rfl, rfl⟩)
     refine ⟨agains_same, ?_⟩
     refine wpT_call rfl rfl (fun K hK => ?_)
     go_wp2_with (go_at_call 23; (with_reducible refine (AQ _ E17).mono ?_); rintro e w17 ⟨rfl, hP17, hm17a⟩)
     have B18 := B17'.rr hP17 hm17a
     refine wpT_nil ?_
     go_wp2_with fail
     clear l4 e2 E17 hP17 hm17a B17 B17' AR AQ PN
     have z2 : v2.m.sz = 64 := by rw [vm]; exact z1
     have d2' : v2.m.dur.length = 10 := by rw [vm]; exact d1
     have n2' : v2.n ≤ 900000 := by omega
     have r2' : v2.m.row.length ≤ 900000 := by rw [vm]; omega
     have ok2 := B18.D.ok
     have SEND := save_end (B := 40) (b := Bd) (cov := lcov) ok2 z2 c1 c2 (by omega) (by omega) HAP.out hBcc wcov (by omega) (by rw [vm]; exact I0') (by rw [vm]; exact I1') Fl
     rw [vm, ← HFO.out] at SEND
     have hszR := saveG_sz f0 f1 cc 64 v2 Bd lcov
     have SD := fun w O (HB : Bw w1 w p q P Q v2 v2 L6 M6 O) (hO : ∀ y ∈ osB x p P s r a b h k f0 f1 cc, y ∈ O) bw hbb hbB => HB.save hO hT1 z2 d2' c3 c4 n2' r2' Bd bw lcov hbb hbB wcov
     obtain ⟨R, hR⟩ : ∃ R, R = saveG f0 f1 cc 64 v2 Bd lcov := ⟨_, rfl⟩
     have SE := fun w O L (HB : Bw w1 w p q P Q R.1 v2 L M6 O) (hO : ∀ y ∈ osB x p P s r a b h k f0 f1 cc, y ∈ O) bw hbb hbB => HB.rsave hO z2 d2' c2 c3 c4 n2' r2' Bd bw lcov hbb hbB wcov
     rw [← hR] at SEND hszR
     simp only [← hR] at SD SE
     unfold SaveB at SD
     unfold SaveE at SE
     clear hR
     obtain ⟨V, E, ⟨sg, sc, sl, ss⟩⟩ := R
     unfold Hd.v at SD SE
     dsimp only at SD SE SEND hszR
     have CP := fun v w h => copy_any Bd v w h (by omega)
     have HSE := Lib.hid SEND
     clear SEND
     go_upto_region 18 with fail
     go_cut [15, 16] (fun u u2 wx => ∃ nz L8, u = .pointer (some ⟨nz, 0, none⟩) ∧ u2 = .int .i64 E ∧ Bw w1 wx p q P Q V v2 L8 M6 ((nz, 25, [.int .u64 (sg : Nat), .int .u64 (sc : Nat), .int .i64 sl, .int .u32 (ss : Nat)]) :: (gb, 5, bv Bd) :: (gO, tO, cO) :: (t10, 25, [.int .u64 (hg : Nat), .int .u64 (hc_ : Nat), .int .i64 hl, .int .u32 (hs : Nat)]) :: osB x p P s r a b h k f0 f1 cc))
     case first =>
       as_aux_lemma =>
         refine wp_region_Tr 12 [⟨0, true, []⟩, ⟨1, true, []⟩, ⟨2, true, []⟩, ⟨3, true, []⟩, ⟨4, true, []⟩, ⟨6, true, []⟩, ⟨7, true, []⟩] (Tr.br [⟨12, false, [1, 3, 7]⟩, ⟨5, false, [1, 3, 7]⟩, ⟨8, false, []⟩, ⟨9, true, []⟩, ⟨10, true, []⟩, ⟨11, true, []⟩, ⟨13, false, []⟩, ⟨14, true, []⟩] ⟨5, false, [1, 3, 7]⟩ [] (Tr.br [⟨12, false, [1, 3, 7]⟩, ⟨8, false, []⟩, ⟨9, true, []⟩, ⟨10, true, []⟩, ⟨11, true, []⟩, ⟨13, false, []⟩, ⟨14, true, []⟩] ⟨8, false, []⟩ [⟨9, true, []⟩, ⟨10, true, []⟩, ⟨11, true, []⟩] (Tr.fin [⟨12, false, [1, 3, 7]⟩, ⟨13, false, []⟩, ⟨14, true, []⟩]))) (by kernel_rfl) (by kernel_rfl) ?_
         have hm18 := Mod.drew [] w17
         obtain ⟨x18, hx18⟩ : ∃ x, x = w17.drew := ⟨_, rfl⟩
         rw [← hx18] at hm18 ⊢
         clear hx18
         have B18' := B18.ext hm18
         have e1 := (B18'.blk 3 rfl).cell' (i := 1) rfl
         have l3 := (hL1.ext B18'.m).cell' (i := 3) rfl
         iterate 7 (refine wpT_n rfl rfl (fun K hK => ?_); go_wp2_with fail)
         refine wpT_nil ?_
         refine And.intro ?_ ?_
         · refine wpT_e rfl rfl (fun K hK => ?_)
           refine wp_alloc zero_header ?_
           intro n wA hA1 hA2 hmA hBA
           simp only [put_some, List.set_cons_succ, List.set_cons_zero]
           refine hK _ _ ⟨(agains_cons rfl (again_const (fun _ => rfl)) (agains_cons rfl (again_load rfl rfl (hmA.block _ (B18'.blk 3 rfl).lt (by simp)) (B18'.blk 3 rfl).kinds) (agains_cons rfl (again_load rfl rfl (hmA.block t (hL1.ext B18'.m).lt (by simp)) (hL1.ext B18'.m).kinds) agains_nil))), ?_⟩
           clear hK K
           have hnf := B18'.young hA1
           have hBAz : Blk wA n 25 [.int .u64 0, .int .u64 0, .int .i64 0, .int .u32 0] := hBA
           have BA := B18'.new hmA hA1 hBAz
           have hcb := hbsg (BA.blk 1 rfl)
           refine wpT_callh rfl rfl (fun K hK => ?_)
           go_wp2_with (go_at_call 13; (with_reducible refine (CP _ _ hcb).mono ?_); rintro e wC ⟨vc, rfl, hoc, hnc, hmC⟩; obtain ⟨aoc, capc, rfl, _, _⟩ := hoc.sl.form)
           refine ⟨(agains_cons rfl (again_const (fun _ => rfl)) (agains_cons rfl (again_load rfl rfl (hmC.block _ (BA.blk 4 rfl).lt (by simp)) (BA.blk 4 rfl).kinds) (agains_cons rfl (again_load rfl rfl (hmC.block t (hL1.ext BA.m).lt (by simp)) (hL1.ext BA.m).kinds) agains_nil))), ?_⟩
           have hocL : ∀ y ∈ blks (.slice aoc Bd.length capc), y ∉ p :: L6 := fun y hy hh => by have := BA.D.lt0 y hh; have := hnc y hy; omega
           have BC := BA.ext hmC
           have hoc2 := hoc
           have hocb := Ob.bs hoc2
           have hocm : ∀ y ∈ blks (.slice aoc Bd.length capc), y < wC.heap.size ∧ y ∉ p :: L6 := fun y hy => ⟨Ow.lt hoc2 y hy, hocL y hy⟩
           refine wpT_call rfl rfl (fun K hK => ?_)
           go_wp2_with (go_at_call 8; (with_reducible refine (SD _ _ BC (fun y hy => by simp only [List.mem_cons]; exact .inr (.inr (.inr (.inr (hy))))) _ hocb hocm).mono ?_); rintro e wS ⟨rfl, L8, BS, hmS⟩)
           iterate 3 (refine wpT_n rfl rfl (fun K hK => ?_); go_wp2_with fail)
           refine wpT_e0 rfl rfl (fun K hK => ?_)
           refine wp_store (u := .agg #[.int .u64 (sg : Nat), .int .u64 (sc : Nat), .int .i64 sl, .int .u32 (ss : Nat)]) (by rfl) (by rfl) (by kernel_rfl) (BS.blk 0 rfl) (by simp [Value.cells]) (by simp [Value.cells, Value.oneCell']) ?_
           intro wT hmT hBT
           refine hK _ _ ?_
           clear hK K
           have hBT2 : Blk wT n 25 [.int .u64 (sg : Nat), .int .u64 (sc : Nat), .int .i64 sl, .int .u32 (ss : Nat)] := hBT
           have BT := BS.head hnf hmT hBT2
           iterate 1 (refine wpT_n rfl rfl (fun K hK => ?_); go_wp2_with fail)
           refine wpT_nil ?_
           go_wp2_with fail
           go_meet
           exact ⟨n, L8, rfl, rfl, BT⟩
         · have hcb := hbsg (B18'.blk 0 rfl)
           refine wpT_callh rfl rfl (fun K hK => ?_)
           go_wp2_with (go_at_call 13; (with_reducible refine (CP _ _ hcb).mono ?_); rintro e wC ⟨vc, rfl, hoc, hnc, hmC⟩; obtain ⟨aoc, capc, rfl, _, _⟩ := hoc.sl.form)
           refine ⟨(agains_cons rfl (again_const (fun _ => rfl)) (agains_cons rfl (again_load rfl rfl (hmC.block _ (B18'.blk 3 rfl).lt (by simp)) (B18'.blk 3 rfl).kinds) (agains_cons rfl (again_load rfl rfl (hmC.block t (hL1.ext B18'.m).lt (by simp)) (hL1.ext B18'.m).kinds) agains_nil))), ?_⟩
           have hocL : ∀ y ∈ blks (.slice aoc Bd.length capc), y ∉ p :: L6 := fun y hy hh => by have := B18'.D.lt0 y hh; have := hnc y hy; omega
           have BC := B18'.ext hmC
           refine wpT_nil ?_
           refine And.intro ?_ ?_
           · refine wpT_e rfl rfl (fun K hK => ?_)
             refine wp_alloc zero_header ?_
             intro n wA hA1 hA2 hmA hBA
             simp only [put_some, List.set_cons_succ, List.set_cons_zero]
             refine hK _ _ ⟨(agains_cons rfl (again_const (fun _ => rfl)) (agains_cons rfl (again_load rfl rfl (hmA.block _ (BC.blk 3 rfl).lt (by simp)) (BC.blk 3 rfl).kinds) (agains_cons rfl (again_load rfl rfl (hmA.block t (hL1.ext BC.m).lt (by simp)) (hL1.ext BC.m).kinds) agains_nil))), ?_⟩
             clear hK K
             have hnf := BC.young hA1
             have hBAz : Blk wA n 25 [.int .u64 0, .int .u64 0, .int .i64 0, .int .u32 0] := hBA
             have BA := BC.new hmA hA1 hBAz
             have hoc2 := (Ow.ext hoc hmA)
             have hocb := Ob.bs hoc2
             have hocm : ∀ y ∈ blks (.slice aoc Bd.length capc), y < wA.heap.size ∧ y ∉ p :: L6 := fun y hy => ⟨Ow.lt hoc2 y hy, hocL y hy⟩
             refine wpT_call rfl rfl (fun K hK => ?_)
             go_wp2_with (go_at_call 8; (with_reducible refine (SD _ _ BA (fun y hy => by simp only [List.mem_cons]; exact .inr (.inr (.inr (.inr (hy))))) _ hocb hocm).mono ?_); rintro e wS ⟨rfl, L8, BS, hmS⟩)
             iterate 3 (refine wpT_n rfl rfl (fun K hK => ?_); go_wp2_with fail)
             refine wpT_e0 rfl rfl (fun K hK => ?_)
             refine wp_store (u := .agg #[.int .u64 (sg : Nat), .int .u64 (sc : Nat), .int .i64 sl, .int .u32 (ss : Nat)]) (by rfl) (by rfl) (by kernel_rfl) (BS.blk 0 rfl) (by simp [Value.cells]) (by simp [Value.cells, Value.oneCell']) ?_
             intro wT hmT hBT
             refine hK _ _ ?_
             clear hK K
             have hBT2 : Blk wT n 25 [.int .u64 (sg : Nat), .int .u64 (sc : Nat), .int .i64 sl, .int .u32 (ss : Nat)] := hBT
             have BT := BS.head hnf hmT hBT2
             iterate 1 (refine wpT_n rfl rfl (fun K hK => ?_); go_wp2_with fail)
             refine wpT_nil ?_
             go_wp2_with fail
             go_meet
             exact ⟨n, L8, rfl, rfl, BT⟩
           · have hoc2 := hoc
             have hocb := Ob.bs hoc2
             have hocm : ∀ y ∈ blks (.slice aoc Bd.length capc), y < wC.heap.size ∧ y ∉ p :: L6 := fun y hy => ⟨Ow.lt hoc2 y hy, hocL y hy⟩
             refine wpT_call rfl rfl (fun K hK => ?_)
             go_wp2_with (go_at_call 8; (with_reducible refine (SD _ _ BC (fun y hy => by simp only [List.mem_cons]; exact .inr (.inr (.inr (hy)))) _ hocb hocm).mono ?_); rintro e wS ⟨rfl, L8, BS, hmS⟩)
             iterate 3 (refine wpT_n rfl rfl (fun K hK => ?_); go_wp2_with fail)
             refine wpT_nil ?_
             show WpT _ _ _ _ _ _
             refine wpT_e rfl rfl (fun K hK => ?_)
             refine wp_alloc zero_header ?_
             intro n wA hA1 hA2 hmA hBA
             simp only [put_some, List.set_cons_succ, List.set_cons_zero]
             refine hK _ _ ⟨(agains_cons rfl (again_const (fun _ => rfl)) (agains_cons rfl (again_load rfl rfl (hmA.block _ (BS.blk 3 rfl).lt (by simp)) (BS.blk 3 rfl).kinds) (agains_cons rfl (again_load rfl rfl (hmA.block t (hL1.ext BS.m).lt (by simp)) (hL1.ext BS.m).kinds) agains_nil))), ?_⟩
             clear hK K
             have hnf := BS.young hA1
             have hBAz : Blk wA n 25 [.int .u64 0, .int .u64 0, .int .i64 0, .int .u32 0] := hBA
             have BA := BS.new hmA hA1 hBAz
             refine wpT_e0 rfl rfl (fun K hK => ?_)
             refine wp_store (u := .agg #[.int .u64 (sg : Nat), .int .u64 (sc : Nat), .int .i64 sl, .int .u32 (ss : Nat)]) (by rfl) (by rfl) (by kernel_rfl) (BA.blk 0 rfl) (by simp [Value.cells]) (by simp [Value.cells, Value.oneCell']) ?_
             intro wT hmT hBT
             refine hK _ _ ?_
             clear hK K
             have hBT2 : Blk wT n 25 [.int .u64 (sg : Nat), .int .u64 (sc : Nat), .int .i64 sl, .int .u32 (ss : Nat)] := hBT
             have BT := BA.head hnf hmT hBT2
             iterate 1 (refine wpT_n rfl rfl (fun K hK => ?_); go_wp2_with fail)
             refine wpT_nil ?_
             go_wp2_with fail
             go_meet
             exact ⟨n, L8, rfl, rfl, BT⟩
     case rest =>
       as_aux_lemma =>
         obtain ⟨n15, L8, rfl, rfl, B19⟩ := hcut
         rename World => w19
         clear B18 CP SD
         go_upto_region 19 with fail
         refine wp_region_T [⟨0, true, []⟩, ⟨1, true, []⟩, ⟨2, true, []⟩, ⟨3, true, []⟩, ⟨4, true, []⟩, ⟨5, true, []⟩, ⟨6, true, []⟩, ⟨7, false, []⟩] (by kernel_rfl) (by kernel_rfl) ?_
         have hm19 := Mod.drew [] w19
         obtain ⟨x19, hx19⟩ : ∃ x, x = w19.drew := ⟨_, rfl⟩
         rw [← hx19] at hm19 ⊢
         clear hx19
         have B19' := B19.ext hm19
         have e3 := (B19'.blk 4 rfl).cell' (i := 3) rfl
         have l3 := (hL1.ext B19'.m).cell' (i := 3) rfl
         have hbx := hbsg (B19'.blk 1 rfl)
         have hbm : ∀ y ∈ blks (.slice (some ⟨gb, 0, none⟩) Bd.length Bd.length), y < x19.heap.size ∧ y ∉ P :: M6 := fun y hy => by obtain rfl := List.mem_singleton.1 hy; exact ⟨(B19'.blk 1 rfl).lt, B19'.outE 1 rfl⟩
         iterate 7 (refine wpT_n rfl rfl (fun K hK => ?_); go_wp2_with fail)
         refine wpT_call rfl rfl (fun K hK => ?_)
         go_wp2_with (go_at_call 24; (with_reducible refine (SE _ _ _ B19' (fun y hy => by simp only [List.mem_cons]; exact .inr (.inr (.inr (.inr (hy))))) _ hbx hbm).mono ?_); rintro e w20 ⟨rfl, M9, B20, hm20⟩)
         refine wpT_nil ?_
         clear e3 l3 hbx hbm B19 B19' hm20 SE
         have ST := salike_any w1 w20 x p q P Q s r V L8 M9 _ B20 (List.mem_of_getElem? (i := 4) rfl)
         go_upto_region 20 with fail
         go_cut [156] (fun u wx => u = .bool false ∧ Mod [] w20 wx)
         case first =>
           as_aux_lemma =>
             rcases HSE.out.1 with hE | hE
             · subst hE
               go_wp2_with (go_at_call 18; (with_reducible refine (ST).mono ?_); rintro e w21 ⟨rfl, hm21⟩)
               go_meet
               exact ⟨rfl, hm21⟩
             · subst hE
               go_wp2_with (go_at_call 18; (with_reducible refine (ST).mono ?_); rintro e w21 ⟨rfl, hm21⟩)
               go_meet
               exact ⟨rfl, hm21⟩
         case rest =>
           as_aux_lemma =>
             obtain ⟨rfl, hm21⟩ := hcut
             rename World => w21
             have B21 := B20.ext hm21
             clear B20 ST hm21
             have hVr : V.m.row.length ≤ 1000000 := by have := hszR.row; rw [vm, r1] at this; omega
             have CF := fun fw w h => copyF_any Fl fw w h (by omega)
             have RE3 := fun fw w h hF hFL => pRestart_any p q V L8 Fl fw w h hVr hF hFL
             have RQ3 := fun fw w h hF hFL => qRestart_any P Q V M9 Fl fw w h hVr hF hFL
             have z3' : (V.re Fl).m.sz = 64 := hszR.sz.trans z2
             have d3' : (V.re Fl).m.dur.length = 10 := (re_sz V Fl).2.1.trans (hszR.dur.trans d2')
             have hre : V.re Fl = Lv (V.m.crash Fl) 0 := rfl
             have HSF := HSE.out
             obtain ⟨m3, hm3e⟩ : ∃ m, m = V.m.crash Fl := ⟨_, rfl⟩
             rw [← hm3e] at hre HSF
             rw [hre] at z3' d3'
             simp only [hre] at RE3 RQ3
             have z3 : m3.sz = 64 := z3'
             have d3 : m3.dur.length = 10 := d3'
             clear z3' d3' hre hm3e HSE hszR hVr
             have HSG := Lib.hid HSF
             clear HSF
             go_wp2_with fail
             refine wp_region_T [⟨0, true, []⟩, ⟨1, true, []⟩, ⟨2, true, []⟩, ⟨3, true, []⟩, ⟨4, true, []⟩, ⟨5, false, [1, 3]⟩, ⟨6, false, []⟩] (by kernel_rfl) (by kernel_rfl) ?_
             have hm22 := Mod.drew [] w21
             obtain ⟨x22, hx22⟩ : ∃ x, x = w21.drew := ⟨_, rfl⟩
             rw [← hx22] at hm22 ⊢
             clear hx22
             have B22 := B21.ext hm22
             have e0 := (B22.blk 4 rfl).cell' (i := 0) rfl
             have hF22 : Fs x22 (.slice aof Fl.length capf) Fl := Sl.ext hF1 B22.m
             iterate 5 (refine wpT_n rfl rfl (fun K hK => ?_); go_wp2_with fail)
             refine wpT_callh rfl rfl (fun K hK => ?_)
             go_wp2_with (go_at_call 25; (with_reducible refine (CF _ _ hF22).mono ?_); rintro e wc ⟨fw, rfl, hF23, hf23, hmc⟩; obtain ⟨aow, capw, rfl, _, _⟩ := hF23.form)
             refine ⟨(agains_cons rfl (again_const (fun _ => rfl)) (agains_cons rfl (again_load rfl rfl (hmc.block _ (B22.blk 4 rfl).lt (by simp)) (B22.blk 4 rfl).kinds) agains_nil)), ?_⟩
             have B23 := B22.ext hmc
             have D23 := B23.D
             refine wpT_call rfl rfl (fun K hK => ?_)
             go_wp2_with (go_at_call 19; (with_reducible refine (RE3 _ _ D23 hF23 (fun _ y hy hh => by have h1 := hf23 y hy; have h2 := B22.D.lt0 y (List.mem_cons_of_mem _ hh); omega)).mono ?_); rintro e w23 ⟨rfl, hP23⟩)
             obtain ⟨L23, B24, hm24⟩ := B23.dt hP23
             have e2 := (B24.blk 4 rfl).cell' (i := 2) rfl
             have E24 := B24.E
             have hF24 : Fs w23 (.slice aof Fl.length capf) Fl := Sl.ext hF1 B24.m
             have hFLq : Fl ≠ [] → ∀ y ∈ blks (.slice aof Fl.length capf), y ∉ M9 := fun h0 y hy hh => by have h1 := hFo1 h0 y hy; have h2 := B24.rn y (List.mem_cons_of_mem _ hh); omega
             clear e0
             refine wpT_nil ?_
             go_wp2_with fail
             go_wp2_with (go_at_call 20; (with_reducible refine (RQ3 _ _ E24 hF24 hFLq).mono ?_); rintro e w24 ⟨rfl, hP24⟩)
             obtain ⟨M24, B25, hm25⟩ := B24.rt hP24
             clear e2 E24 hF24 hFLq hP24 hP23 D23 hF23 hf23 hmc hF22 B21 B22 B23 B24 hm24 hm25 RE3 RQ3 CF
             have ok3 : m3.ok := B25.D.ok.m
             obtain ⟨n3, hL3e, _, hn3⟩ := loadG_lv f0 f1 cc m3 0 ok3 z3 (by omega) (by omega) (by omega)
             have hL3f : loadG f0 f1 cc 64 (Lv m3 0) = ⟨Lv m3 n3, 0, (foundM m3 f0 f1 cc).1, (foundM m3 f0 f1 cc).2.1, (foundM m3 f0 f1 cc).2.2⟩ := hL3e
             have hbk := (loadG_sz f0 f1 cc 64 (Lv m3 0)).b
             have HSF := HSG.out
             obtain ⟨Fk, hFk2⟩ : ∃ y, y = foundM m3 f0 f1 cc := ⟨_, rfl⟩
             rw [← hFk2] at hL3f HSF
             rw [hL3f] at hbk
             dsimp only at hbk
             clear hL3e hFk2 HSG
             obtain ⟨⟨kg, kc, kl, ks⟩, Bk, Ik⟩ := Fk
             dsimp only at hL3f hbk HSF
             have hbk2 : Bk.length ≤ 256 := by omega
             have LD3 := fun w L M u O (HB : Bw w1 w p q P Q (Lv m3 0) u L M O) (hO : ∀ y ∈ osB x p P s r a b h k f0 f1 cc, y ∈ O) => HB.load hO hT1 z3 d3 c3 c4 (by show 0 ≤ _; omega)
             have RD3 := fun w L M O (HB : Bw w1 w p q P Q (Lv m3 0) (Lv m3 0) L M O) (hO : ∀ y ∈ osB x p P s r a b h k f0 f1 cc, y ∈ O) => HB.rload hO z3 d3 c2 c3 c4 (by show 0 ≤ _; omega)
             simp only [hL3f] at LD3 RD3
             unfold LoadB Hd.v at LD3
             unfold LoadE Hd.v at RD3
             dsimp only at LD3 RD3
             clear hL3f hbk
             have hnx : nextH (⟨hg, hc_, hl, hs⟩ : Hd) lcov Bd = ⟨hg + 1, lcov, (Bd.length : Nat), crcS Bd⟩ := by unfold nextH; dsimp only; rw [Nat.mod_eq_of_lt (by omega)]
             rw [hnx] at HSF
             obtain ⟨cr, hcr⟩ : ∃ c, c = crcS Bd := ⟨_, rfl⟩
             have SU := fun v w h => rsum_any Bd v w h
             rw [← hcr] at HSF
             simp only [← hcr] at SU
             clear hnx hcr
             have HSK := Lib.hid HSF
             clear HSF
             go_upto_region 24 with fail
             go_cut [17] (fun u wx => ∃ nz, u = .pointer (some ⟨nz, 0, none⟩) ∧ Bw w1 wx p q P Q (Lv m3 0) (Lv m3 0) L23 M24 ((nz, 25, [.int .u64 ((hg : Int) + 1), .int .u64 (lcov : Nat), .int .i64 (Bd.length : Nat), .int .u32 (cr : Nat)]) :: (n15, 25, [.int .u64 (sg : Nat), .int .u64 (sc : Nat), .int .i64 sl, .int .u32 (ss : Nat)]) :: (gb, 5, bv Bd) :: (gO, tO, cO) :: (t10, 25, [.int .u64 (hg : Nat), .int .u64 (hc_ : Nat), .int .i64 hl, .int .u32 (hs : Nat)]) :: osB x p P s r a b h k f0 f1 cc))
             case first =>
               as_aux_lemma =>
                 refine wp_region_T2 8 10 [⟨0, true, []⟩, ⟨1, true, []⟩, ⟨2, true, []⟩, ⟨3, true, []⟩, ⟨4, true, []⟩, ⟨5, true, []⟩, ⟨6, true, []⟩, ⟨7, true, []⟩, ⟨8, false, [1, 2, 4, 6]⟩, ⟨9, true, []⟩, ⟨10, false, [1, 2, 4, 6, 9]⟩, ⟨11, false, []⟩] [⟨0, true, []⟩, ⟨1, true, []⟩, ⟨2, true, []⟩, ⟨3, true, []⟩, ⟨4, true, []⟩, ⟨5, true, []⟩, ⟨6, true, []⟩, ⟨7, true, []⟩, ⟨10, false, [1, 2, 4, 6]⟩, ⟨8, false, [1, 2, 4, 6]⟩, ⟨9, true, []⟩, ⟨11, false, []⟩] (by kernel_rfl) (by kernel_rfl) (by kernel_rfl) (by kernel_rfl) (by kernel_rfl) ?_ ?_
                 all_goals have hmD := Mod.drew [] w24
                 all_goals obtain ⟨wd, hwd⟩ : ∃ x, x = w24.drew := ⟨_, rfl⟩
                 all_goals rw [← hwd] at hmD ⊢
                 all_goals clear hwd
                 all_goals have BD := B25.ext hmD
                 all_goals have u0 := (BD.blk 3 rfl).cell' (i := 0) rfl
                 all_goals have l3 := (hL1.ext BD.m).cell' (i := 3) rfl
                 all_goals have hbx := hbsg (BD.blk 1 rfl)
                 · iterate 8 (refine wpT_n rfl rfl (fun K hK => ?_); go_wp2_with fail)
                   refine wpT_callh rfl rfl (fun K hK => ?_)
                   go_wp2_with (go_at_call 26; (with_reducible refine (SU _ _ hbx).mono ?_); rintro e wz ⟨rfl, hwz⟩; obtain rfl := hwz)
                   refine ⟨agains_same, ?_⟩
                   refine wpT_n rfl rfl (fun K hK => ?_)
                   go_wp2_with fail
                   refine wpT_e rfl rfl (fun K hK => ?_)
                   refine wp_alloc zero_header ?_
                   intro n wA hA1 hA2 hmA hBA
                   simp only [put_some, List.set_cons_succ, List.set_cons_zero]
                   refine hK _ _ ⟨agains_cons rfl (again_load rfl rfl (hmA.block t10 (BD.blk 3 rfl).lt (by simp)) (BD.blk 3 rfl).kinds) (agains_cons rfl (again_add rfl (by rfl) (by rfl)) (agains_cons rfl (again_load rfl rfl (hmA.block t (hL1.ext BD.m).lt (by simp)) (hL1.ext BD.m).kinds) (agains_cons rfl (again_len rfl (by rfl) (by kernel_rfl)) (agains_cons rfl (again_build rfl) agains_nil)))), ?_⟩
                   clear hK K
                   have hnf := BD.young hA1
                   have hBAz : Blk wA n 25 [.int .u64 0, .int .u64 0, .int .i64 0, .int .u32 0] := hBA
                   have BA := BD.new hmA hA1 hBAz
                   refine wpT_e0 rfl rfl (fun K hK => ?_)
                   refine wp_store (u := .agg #[.int .u64 ((hg : Int) + 1), .int .u64 (lcov : Nat), .int .i64 (Bd.length : Nat), .int .u32 (cr : Nat)]) (by rfl) (by rfl) (by kernel_rfl) (BA.blk 0 rfl) (by simp [Value.cells]) (by simp [Value.cells, Value.oneCell']) ?_
                   intro wT hmT hBT
                   refine hK _ _ ?_
                   clear hK K
                   have hBT2 : Blk wT n 25 [.int .u64 ((hg : Int) + 1), .int .u64 (lcov : Nat), .int .i64 (Bd.length : Nat), .int .u32 (cr : Nat)] := hBT
                   have BT := BA.head hnf hmT hBT2
                   refine wpT_nil ?_
                   go_wp2_with fail
                   go_meet
                   exact ⟨n, rfl, BT⟩
                 · iterate 8 (refine wpT_n rfl rfl (fun K hK => ?_); go_wp2_with fail)
                   refine wpT_e rfl rfl (fun K hK => ?_)
                   refine wp_alloc zero_header ?_
                   intro n wA hA1 hA2 hmA hBA
                   simp only [put_some, List.set_cons_succ, List.set_cons_zero]
                   refine hK _ _ ⟨agains_cons rfl (again_load rfl rfl (hmA.block t10 (BD.blk 3 rfl).lt (by simp)) (BD.blk 3 rfl).kinds) (agains_cons rfl (again_add rfl (by rfl) (by rfl)) (agains_cons rfl (again_load rfl rfl (hmA.block t (hL1.ext BD.m).lt (by simp)) (hL1.ext BD.m).kinds) (agains_cons rfl (again_len rfl (by rfl) (by kernel_rfl)) agains_nil))), ?_⟩
                   clear hK K
                   have hnf := BD.young hA1
                   have hBAz : Blk wA n 25 [.int .u64 0, .int .u64 0, .int .i64 0, .int .u32 0] := hBA
                   have BA := BD.new hmA hA1 hBAz
                   have hbx2 := hbsg (BA.blk 2 rfl)
                   refine wpT_callh rfl rfl (fun K hK => ?_)
                   go_wp2_with (go_at_call 26; (with_reducible refine (SU _ _ hbx2).mono ?_); rintro e wz ⟨rfl, hwz⟩; obtain rfl := hwz)
                   refine ⟨agains_same, ?_⟩
                   refine wpT_n rfl rfl (fun K hK => ?_)
                   go_wp2_with fail
                   refine wpT_e0 rfl rfl (fun K hK => ?_)
                   refine wp_store (u := .agg #[.int .u64 ((hg : Int) + 1), .int .u64 (lcov : Nat), .int .i64 (Bd.length : Nat), .int .u32 (cr : Nat)]) (by rfl) (by rfl) (by kernel_rfl) (BA.blk 0 rfl) (by simp [Value.cells]) (by simp [Value.cells, Value.oneCell']) ?_
                   intro wT hmT hBT
                   refine hK _ _ ?_
                   clear hK K
                   have hBT2 : Blk wT n 25 [.int .u64 ((hg : Int) + 1), .int .u64 (lcov : Nat), .int .i64 (Bd.length : Nat), .int .u32 (cr : Nat)] := hBT
                   have BT := BA.head hnf hmT hBT2
                   refine wpT_nil ?_
                   go_wp2_with fail
                   go_meet
                   exact ⟨n, rfl, BT⟩
             case rest =>
               as_aux_lemma =>
                 obtain ⟨n17, rfl, B26⟩ := hcut
                 rename World => w26
                 clear B25 SU
                 have e3 := (B26.blk 5 rfl).cell' (i := 3) rfl
                 go_wp2_with (first
                               | (with_reducible refine st_alloc ?_)
                               | (go_at_call 21; (with_reducible refine (RD3 _ _ _ _ B26 (fun y hy => by simp only [List.mem_cons]; exact .inr (.inr (.inr (.inr (.inr (hy))))))).mono ?_); rintro e w27 ⟨bwk, rfl, hkk, hnk, B27, hm27⟩; obtain ⟨aok, capk, rfl, _, _⟩ := hkk.sl.form))
                 refine StopOp.go rfl fun K hK => ?_
                 refine wp_alloc zero_header ?_
                 intro t18 w28 h281 h282 hm28 hB28
                 simp only [put_some, List.set_cons_succ, List.set_cons_zero]
                 refine hK _ _ ?_
                 clear hK K
                 go_wp2_with (with_reducible refine st_store ?_)
                 refine StopOp.go rfl fun K hK => ?_
                 refine wp_store (u := .agg #[.int .u64 (kg : Nat), .int .u64 (kc : Nat), .int .i64 kl, .int .u32 (ks : Nat)]) (by rfl) (by rfl) (by kernel_rfl) hB28 (by simp [Value.cells]) (by simp [Value.cells, Value.oneCell']) ?_
                 intro w29 hm29 hB29
                 refine hK _ _ ?_
                 clear hK K
                 have hm279 : Mod [] w27 w29 := hm28.fresh hm29 (by simpa using h281)
                 have hB29' : Blk w29 t18 25 [.int .u64 (kg : Nat), .int .u64 (kc : Nat), .int .i64 kl, .int .u32 (ks : Nat)] := hB29
                 have B29 := B27.new hm279 h281 hB29'
                 have hk29 : Ob w29 (.slice aok Bk.length capk) Bk := Ow.ext hkk hm279
                 have hkp : ∀ y ∈ blks (.slice aok Bk.length capk), y ∉ [p] := fun y hy hh => by obtain rfl := List.mem_singleton.1 hh; have h1 := hnk y hy; have h2 := B26.D.lt0 y List.mem_cons_self; omega
                 clear hB28 hB29 hB29' hm28 hm29 hm279 e3 hkk hnk B27 hm27 RD3 B26
                 have SBo := fun va vb w ha hb => same_any Bk Bo va vb w ha hb
                 have SBn := fun va vb w ha hb => same_any Bk Bd va vb w ha hb
                 have hko : Bs w29 (.slice aok Bk.length capk) Bk := Ob.bs hk29
                 have hoo : Bs w29 (.slice aoo Bo.length capo) Bo := hBO _ (B29.blk 4 rfl)
                 have hbb := hbsg (B29.blk 3 rfl)
                 have X18 := B29.blk 0 rfl
                 have X17 := B29.blk 1 rfl
                 have X10 := B29.blk 5 rfl
                 have xa0 := X18.cell' (i := 0) rfl
                 have xa1 := X18.cell' (i := 1) rfl
                 have xa2 := X18.cell' (i := 2) rfl
                 have xa3 := X18.cell' (i := 3) rfl
                 have xb0 := X17.cell' (i := 0) rfl
                 have xb1 := X17.cell' (i := 1) rfl
                 have xb2 := X17.cell' (i := 2) rfl
                 have xb3 := X17.cell' (i := 3) rfl
                 have xc0 := X10.cell' (i := 0) rfl
                 have xc1 := X10.cell' (i := 1) rfl
                 have xc2 := X10.cell' (i := 2) rfl
                 have xc3 := X10.cell' (i := 3) rfl
                 clear hoo hko hbb X18 X17 X10
                 have hA8 : Bs w29 (.slice aok Bk.length capk) Bk := Ob.bs hk29
                 have hO8 : Bs w29 (.slice aoo Bo.length capo) Bo := hBO _ (B29.blk 4 rfl)
                 have hN8 := hbsg (B29.blk 3 rfl)
                 have Q1 := fun w => hdv_any (kg : Int) kc kl ks hg hc_ hl hs w
                 have Q2 := fun w => hdv_any (kg : Int) kc kl ks ((hg : Int) + 1) lcov (Bd.length : Nat) cr w
                 have hqq : decide ((kg : Int) = hg ∧ (kc : Int) = hc_ ∧ kl = hl ∧ (ks : Int) = hs) = true → decide ((kg : Int) = (hg : Int) + 1 ∧ (kc : Int) = lcov ∧ kl = (Bd.length : Nat) ∧ (ks : Int) = cr) = false := fun h => decide_eq_false (fun h2 => by have h1 := (of_decide_eq_true h).1; have := h2.1; omega)
                 have hE0 : E = 0 → decide ((kg : Int) = (hg : Int) + 1 ∧ (kc : Int) = lcov ∧ kl = (Bd.length : Nat) ∧ (ks : Int) = cr) = true ∧ kg = sg ∧ kc = sc ∧ kl = sl ∧ ks = ss := fun h => by
                   obtain ⟨h1, h2, h3⟩ := HSK.out.2 h
                   injection h1 with h11 h12 h13 h14
                   injection h2 with h21 h22 h23 h24
                   exact ⟨decide_eq_true ⟨by omega, by omega, h23, by omega⟩, by omega, by omega, by rw [h23, h13], by omega⟩
                 have hE1 := HSK.out.1
                 obtain ⟨qa, hqa⟩ : ∃ q, q = decide ((kg : Int) = hg ∧ (kc : Int) = hc_ ∧ kl = hl ∧ (ks : Int) = hs) := ⟨_, rfl⟩
                 obtain ⟨qb, hqb⟩ : ∃ q, q = decide ((kg : Int) = (hg : Int) + 1 ∧ (kc : Int) = lcov ∧ kl = (Bd.length : Nat) ∧ (ks : Int) = cr) := ⟨_, rfl⟩
                 obtain ⟨ra, hra⟩ : ∃ q, q = decide (Bk = Bo) := ⟨_, rfl⟩
                 obtain ⟨rb, hrb⟩ : ∃ q, q = decide (Bk = Bd) := ⟨_, rfl⟩
                 rw [← hqa, ← hqb] at hqq
                 rw [← hqb] at hE0
                 simp only [← hqa] at Q1
                 simp only [← hqb] at Q2
                 rw [← hra] at SBo
                 rw [← hrb] at SBn
                 have hE2 : E = 0 → rb = true := fun h => by rw [hrb]; exact decide_eq_true (HSK.out.2 h).2.2
                 clear hqa hqb hra hrb HSK HFO hk29
                 have e1 := (B29.blk 6 rfl).cell' (i := 1) rfl
                 cases qa with
                 | true =>
                   have hqb := hqq rfl
                   subst hqb
                   rcases hE1 with h | hE
                   · have := (hE0 h).1; cases this
                   subst hE
                   cases ra with
                   | true =>
                     go_wp2_with (first
                                   | (with_reducible refine st_alloc ?_)
                                   | (go_at_call 15; (with_reducible refine (SBo _ _ _ hA8 hO8).mono ?_); rintro e w40 ⟨rfl, hm40⟩; have B40 := B29.ext hm40; have e41 := (B40.blk 6 rfl).cell' (i := 1) rfl)
                                   | (go_at_call 12; (with_reducible refine (LD3 _ _ _ _ _ B40 (fun y hy => by simp only [List.mem_cons]; exact .inr (.inr (.inr (.inr (.inr (.inr (hy)))))))).mono ?_); rintro e w41 ⟨bwl, rfl, hll, hnl, B41, hm41⟩; obtain ⟨aol, capl, rfl, _, _⟩ := hll.sl.form))
                     refine StopOp.go rfl fun K hK => ?_
                     refine wp_alloc zero_header ?_
                     intro t22 w42 h421 h422 hm42 hB42
                     simp only [put_some, List.set_cons_succ, List.set_cons_zero]
                     refine hK _ _ ?_
                     clear hK K
                     go_wp2_with (with_reducible refine st_store ?_)
                     refine StopOp.go rfl fun K hK => ?_
                     refine wp_store (u := .agg #[.int .u64 (kg : Nat), .int .u64 (kc : Nat), .int .i64 kl, .int .u32 (ks : Nat)]) (by rfl) (by rfl) (by kernel_rfl) hB42 (by simp [Value.cells]) (by simp [Value.cells, Value.oneCell']) ?_
                     intro w43 hm43 hB43
                     refine hK _ _ ?_
                     clear hK K
                     have hm413 : Mod [] w41 w43 := hm42.fresh hm43 (by simpa using h421)
                     have hB43' : Blk w43 t22 25 [.int .u64 (kg : Nat), .int .u64 (kc : Nat), .int .i64 kl, .int .u32 (ks : Nat)] := hB43
                     have B43 := B41.new hm413 h421 hB43'
                     have hA9 : Bs w43 (.slice aol Bk.length capl) Bk := Ob.bs (Ow.ext hll hm413)
                     have hO9 : Bs w43 (.slice aoo Bo.length capo) Bo := hBO _ (B43.blk 5 rfl)
                     have hN9 := hbsg (B43.blk 4 rfl)
                     have Y22 := B43.blk 0 rfl
                     have Y17 := B43.blk 2 rfl
                     have Y15 := B43.blk 3 rfl
                     have Y10 := B43.blk 6 rfl
                     clear hB42 hB43 hB43' hm42 hm43 hll hnl e1 e41 xa0 xa1 xa2 xa3 xb0 xb1 xb2 xb3 xc0 xc1 xc2 xc3
                     have ya0 := Y22.cell' (i := 0) rfl
                     have ya1 := Y22.cell' (i := 1) rfl
                     have ya2 := Y22.cell' (i := 2) rfl
                     have ya3 := Y22.cell' (i := 3) rfl
                     have yb0 := Y17.cell' (i := 0) rfl
                     have yb1 := Y17.cell' (i := 1) rfl
                     have yb2 := Y17.cell' (i := 2) rfl
                     have yb3 := Y17.cell' (i := 3) rfl
                     have yc0 := Y15.cell' (i := 0) rfl
                     have yc1 := Y15.cell' (i := 1) rfl
                     have yc2 := Y15.cell' (i := 2) rfl
                     have yc3 := Y15.cell' (i := 3) rfl
                     have yd0 := Y10.cell' (i := 0) rfl
                     have yd1 := Y10.cell' (i := 1) rfl
                     have yd2 := Y10.cell' (i := 2) rfl
                     have yd3 := Y10.cell' (i := 3) rfl
                     go_wp2_with (go_at_call 15; (with_reducible refine (SBo _ _ _ hA9 hO9).mono ?_); rintro e w44 ⟨rfl, hm44⟩; have B44 := B43.ext hm44; have za0 := (B44.blk 0 rfl).cell' (i := 0) rfl; have za1 := (B44.blk 0 rfl).cell' (i := 1) rfl; have za2 := (B44.blk 0 rfl).cell' (i := 2) rfl; have za3 := (B44.blk 0 rfl).cell' (i := 3) rfl; have zb0 := (B44.blk 2 rfl).cell' (i := 0) rfl; have zb1 := (B44.blk 2 rfl).cell' (i := 1) rfl; have zb2 := (B44.blk 2 rfl).cell' (i := 2) rfl; have zb3 := (B44.blk 2 rfl).cell' (i := 3) rfl; have zc0 := (B44.blk 3 rfl).cell' (i := 0) rfl; have zc1 := (B44.blk 3 rfl).cell' (i := 1) rfl; have zc2 := (B44.blk 3 rfl).cell' (i := 2) rfl; have zc3 := (B44.blk 3 rfl).cell' (i := 3) rfl; have zd0 := (B44.blk 6 rfl).cell' (i := 0) rfl; have zd1 := (B44.blk 6 rfl).cell' (i := 1) rfl; have zd2 := (B44.blk 6 rfl).cell' (i := 2) rfl; have zd3 := (B44.blk 6 rfl).cell' (i := 3) rfl)
                     go_ret
                     exact ⟨rfl, hM1.ext (B43.ext hm44).m⟩
                   | false =>
                     go_wp2_with (go_at_call 15; (with_reducible refine (SBo _ _ _ hA8 hO8).mono ?_); rintro e w40 ⟨rfl, hm40⟩; have B40 := B29.ext hm40; have za0 := (B40.blk 0 rfl).cell' (i := 0) rfl; have za1 := (B40.blk 0 rfl).cell' (i := 1) rfl; have za2 := (B40.blk 0 rfl).cell' (i := 2) rfl; have za3 := (B40.blk 0 rfl).cell' (i := 3) rfl; have zb0 := (B40.blk 1 rfl).cell' (i := 0) rfl; have zb1 := (B40.blk 1 rfl).cell' (i := 1) rfl; have zb2 := (B40.blk 1 rfl).cell' (i := 2) rfl; have zb3 := (B40.blk 1 rfl).cell' (i := 3) rfl)
                     go_ret
                     exact ⟨rfl, hM1.ext (B29.ext hm40).m⟩
                 | false =>
                   cases qb with
                   | true =>
                     cases rb with
                     | true =>
                       rcases hE1 with hE | hE
                       · obtain ⟨_, hs1, hs2, hs3, hs4⟩ := hE0 hE
                         subst hE hs1 hs2 hs3 hs4
                         go_wp2_with (first
                                       | (with_reducible refine st_alloc ?_)
                                       | (go_at_call 15; (with_reducible refine (SBn _ _ _ hA8 hN8).mono ?_); rintro e w40 ⟨rfl, hm40⟩; have B40 := B29.ext hm40; have e41 := (B40.blk 6 rfl).cell' (i := 1) rfl)
                                       | (go_at_call 12; (with_reducible refine (LD3 _ _ _ _ _ B40 (fun y hy => by simp only [List.mem_cons]; exact .inr (.inr (.inr (.inr (.inr (.inr (hy)))))))).mono ?_); rintro e w41 ⟨bwl, rfl, hll, hnl, B41, hm41⟩; obtain ⟨aol, capl, rfl, _, _⟩ := hll.sl.form))
                         refine StopOp.go rfl fun K hK => ?_
                         refine wp_alloc zero_header ?_
                         intro t22 w42 h421 h422 hm42 hB42
                         simp only [put_some, List.set_cons_succ, List.set_cons_zero]
                         refine hK _ _ ?_
                         clear hK K
                         go_wp2_with (with_reducible refine st_store ?_)
                         refine StopOp.go rfl fun K hK => ?_
                         refine wp_store (u := .agg #[.int .u64 (kg : Nat), .int .u64 (kc : Nat), .int .i64 kl, .int .u32 (ks : Nat)]) (by rfl) (by rfl) (by kernel_rfl) hB42 (by simp [Value.cells]) (by simp [Value.cells, Value.oneCell']) ?_
                         intro w43 hm43 hB43
                         refine hK _ _ ?_
                         clear hK K
                         have hm413 : Mod [] w41 w43 := hm42.fresh hm43 (by simpa using h421)
                         have hB43' : Blk w43 t22 25 [.int .u64 (kg : Nat), .int .u64 (kc : Nat), .int .i64 kl, .int .u32 (ks : Nat)] := hB43
                         have B43 := B41.new hm413 h421 hB43'
                         have hA9 : Bs w43 (.slice aol Bk.length capl) Bk := Ob.bs (Ow.ext hll hm413)
                         have hO9 : Bs w43 (.slice aoo Bo.length capo) Bo := hBO _ (B43.blk 5 rfl)
                         have hN9 := hbsg (B43.blk 4 rfl)
                         have Y22 := B43.blk 0 rfl
                         have Y17 := B43.blk 2 rfl
                         have Y15 := B43.blk 3 rfl
                         have Y10 := B43.blk 6 rfl
                         clear hB42 hB43 hB43' hm42 hm43 hll hnl e1 e41 xa0 xa1 xa2 xa3 xb0 xb1 xb2 xb3 xc0 xc1 xc2 xc3
                         have ya0 := Y22.cell' (i := 0) rfl
                         have ya1 := Y22.cell' (i := 1) rfl
                         have ya2 := Y22.cell' (i := 2) rfl
                         have ya3 := Y22.cell' (i := 3) rfl
                         have yb0 := Y17.cell' (i := 0) rfl
                         have yb1 := Y17.cell' (i := 1) rfl
                         have yb2 := Y17.cell' (i := 2) rfl
                         have yb3 := Y17.cell' (i := 3) rfl
                         have yc0 := Y15.cell' (i := 0) rfl
                         have yc1 := Y15.cell' (i := 1) rfl
                         have yc2 := Y15.cell' (i := 2) rfl
                         have yc3 := Y15.cell' (i := 3) rfl
                         have yd0 := Y10.cell' (i := 0) rfl
                         have yd1 := Y10.cell' (i := 1) rfl
                         have yd2 := Y10.cell' (i := 2) rfl
                         have yd3 := Y10.cell' (i := 3) rfl
                         go_wp2_with (go_at_call 15; (with_reducible refine (SBn _ _ _ hA9 hN9).mono ?_); rintro e w44 ⟨rfl, hm44⟩; have B44 := B43.ext hm44; have za0 := (B44.blk 0 rfl).cell' (i := 0) rfl; have za1 := (B44.blk 0 rfl).cell' (i := 1) rfl; have za2 := (B44.blk 0 rfl).cell' (i := 2) rfl; have za3 := (B44.blk 0 rfl).cell' (i := 3) rfl; have zb0 := (B44.blk 2 rfl).cell' (i := 0) rfl; have zb1 := (B44.blk 2 rfl).cell' (i := 1) rfl; have zb2 := (B44.blk 2 rfl).cell' (i := 2) rfl; have zb3 := (B44.blk 2 rfl).cell' (i := 3) rfl; have zc0 := (B44.blk 3 rfl).cell' (i := 0) rfl; have zc1 := (B44.blk 3 rfl).cell' (i := 1) rfl; have zc2 := (B44.blk 3 rfl).cell' (i := 2) rfl; have zc3 := (B44.blk 3 rfl).cell' (i := 3) rfl; have zd0 := (B44.blk 6 rfl).cell' (i := 0) rfl; have zd1 := (B44.blk 6 rfl).cell' (i := 1) rfl; have zd2 := (B44.blk 6 rfl).cell' (i := 2) rfl; have zd3 := (B44.blk 6 rfl).cell' (i := 3) rfl)
                         go_ret
                         exact ⟨rfl, hM1.ext (B43.ext hm44).m⟩
                       · subst hE
                         go_wp2_with (first
                                       | (with_reducible refine st_alloc ?_)
                                       | (go_at_call 15; (with_reducible refine (SBn _ _ _ hA8 hN8).mono ?_); rintro e w40 ⟨rfl, hm40⟩; have B40 := B29.ext hm40; have e41 := (B40.blk 6 rfl).cell' (i := 1) rfl)
                                       | (go_at_call 12; (with_reducible refine (LD3 _ _ _ _ _ B40 (fun y hy => by simp only [List.mem_cons]; exact .inr (.inr (.inr (.inr (.inr (.inr (hy)))))))).mono ?_); rintro e w41 ⟨bwl, rfl, hll, hnl, B41, hm41⟩; obtain ⟨aol, capl, rfl, _, _⟩ := hll.sl.form))
                         refine StopOp.go rfl fun K hK => ?_
                         refine wp_alloc zero_header ?_
                         intro t22 w42 h421 h422 hm42 hB42
                         simp only [put_some, List.set_cons_succ, List.set_cons_zero]
                         refine hK _ _ ?_
                         clear hK K
                         go_wp2_with (with_reducible refine st_store ?_)
                         refine StopOp.go rfl fun K hK => ?_
                         refine wp_store (u := .agg #[.int .u64 (kg : Nat), .int .u64 (kc : Nat), .int .i64 kl, .int .u32 (ks : Nat)]) (by rfl) (by rfl) (by kernel_rfl) hB42 (by simp [Value.cells]) (by simp [Value.cells, Value.oneCell']) ?_
                         intro w43 hm43 hB43
                         refine hK _ _ ?_
                         clear hK K
                         have hm413 : Mod [] w41 w43 := hm42.fresh hm43 (by simpa using h421)
                         have hB43' : Blk w43 t22 25 [.int .u64 (kg : Nat), .int .u64 (kc : Nat), .int .i64 kl, .int .u32 (ks : Nat)] := hB43
                         have B43 := B41.new hm413 h421 hB43'
                         have hA9 : Bs w43 (.slice aol Bk.length capl) Bk := Ob.bs (Ow.ext hll hm413)
                         have hO9 : Bs w43 (.slice aoo Bo.length capo) Bo := hBO _ (B43.blk 5 rfl)
                         have hN9 := hbsg (B43.blk 4 rfl)
                         have Y22 := B43.blk 0 rfl
                         have Y17 := B43.blk 2 rfl
                         have Y15 := B43.blk 3 rfl
                         have Y10 := B43.blk 6 rfl
                         clear hB42 hB43 hB43' hm42 hm43 hll hnl e1 e41 xa0 xa1 xa2 xa3 xb0 xb1 xb2 xb3 xc0 xc1 xc2 xc3
                         have ya0 := Y22.cell' (i := 0) rfl
                         have ya1 := Y22.cell' (i := 1) rfl
                         have ya2 := Y22.cell' (i := 2) rfl
                         have ya3 := Y22.cell' (i := 3) rfl
                         have yb0 := Y17.cell' (i := 0) rfl
                         have yb1 := Y17.cell' (i := 1) rfl
                         have yb2 := Y17.cell' (i := 2) rfl
                         have yb3 := Y17.cell' (i := 3) rfl
                         have yc0 := Y15.cell' (i := 0) rfl
                         have yc1 := Y15.cell' (i := 1) rfl
                         have yc2 := Y15.cell' (i := 2) rfl
                         have yc3 := Y15.cell' (i := 3) rfl
                         have yd0 := Y10.cell' (i := 0) rfl
                         have yd1 := Y10.cell' (i := 1) rfl
                         have yd2 := Y10.cell' (i := 2) rfl
                         have yd3 := Y10.cell' (i := 3) rfl
                         go_wp2_with (go_at_call 15; (with_reducible refine (SBn _ _ _ hA9 hN9).mono ?_); rintro e w44 ⟨rfl, hm44⟩; have B44 := B43.ext hm44; have za0 := (B44.blk 0 rfl).cell' (i := 0) rfl; have za1 := (B44.blk 0 rfl).cell' (i := 1) rfl; have za2 := (B44.blk 0 rfl).cell' (i := 2) rfl; have za3 := (B44.blk 0 rfl).cell' (i := 3) rfl; have zb0 := (B44.blk 2 rfl).cell' (i := 0) rfl; have zb1 := (B44.blk 2 rfl).cell' (i := 1) rfl; have zb2 := (B44.blk 2 rfl).cell' (i := 2) rfl; have zb3 := (B44.blk 2 rfl).cell' (i := 3) rfl; have zc0 := (B44.blk 3 rfl).cell' (i := 0) rfl; have zc1 := (B44.blk 3 rfl).cell' (i := 1) rfl; have zc2 := (B44.blk 3 rfl).cell' (i := 2) rfl; have zc3 := (B44.blk 3 rfl).cell' (i := 3) rfl; have zd0 := (B44.blk 6 rfl).cell' (i := 0) rfl; have zd1 := (B44.blk 6 rfl).cell' (i := 1) rfl; have zd2 := (B44.blk 6 rfl).cell' (i := 2) rfl; have zd3 := (B44.blk 6 rfl).cell' (i := 3) rfl)
                         go_ret
                         exact ⟨rfl, hM1.ext (B43.ext hm44).m⟩
                     | false =>
                       go_wp2_with (go_at_call 15; (with_reducible refine (SBn _ _ _ hA8 hN8).mono ?_); rintro e w40 ⟨rfl, hm40⟩)
                       go_ret
                       exact ⟨rfl, hM1.ext (B29.ext hm40).m⟩
                   | false =>
                     go_wp2_with fail
                     go_ret
                     exact ⟨rfl, hM1.ext B29.m⟩
end Go.Proofs.YtminfegoldgjpaaGreatDoor
