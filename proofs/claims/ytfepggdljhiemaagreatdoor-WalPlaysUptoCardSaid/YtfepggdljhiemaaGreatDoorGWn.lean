import Derived.Test.YtfepggdljhiemaaGreatDoorGWm
import Derived.Test.YtfepggdljhiemaaGreatDoorRegB
import Derived.Test.YtfepggdljhiemaaGreatDoorGWl
/-! WalPlays: a step of a script (plays). -/
set_option linter.unusedVariables false
set_option linter.unusedSimpArgs false
set_option maxRecDepth 100000
namespace Go.Proofs.YtfepggdljhiemaaGreatDoor
open Go.RowKit Gw

/-- a step -/
structure Wop where
  k : Int
  n : Int
  bv : Value
  b : List UInt8
  ep : Nat
  sq : Nat
  fo : Value
  F : List (Int × Int)
def Wop.cells (o : Wop) : List Value := [.int .i64 o.k, .int .i64 o.n, o.bv, .int .u64 (o.ep : Nat), .int .u64 (o.sq : Nat), o.fo]
def Wop.val (o : Wop) : Value := .agg #[.int .i64 o.k, .int .i64 o.n, o.bv, .int .u64 (o.ep : Nat), .int .u64 (o.sq : Nat), o.fo]
structure OkWop (w : World) (o : Wop) : Prop where
  bs : Bs w o.bv o.b
  fs : Fs w o.fo o.F
  old : o.F ≠ [] → ∀ b ∈ blks o.fo, b < w.heap.size
  k : i64 o.k
  n : i64 o.n
  ep : o.ep < 18446744073709551616
  sq : o.sq < 18446744073709551616
  b : o.b.length ≤ 1048576
  f : o.F.length ≤ 1048576
section
variable {W w w' : World} {p q P Q : Nat} {v u v' u' : Pv} {L M L' M' G : List Nat} {l r h c : Nat} {bw bw' : Value} {s s' : Ls} {x m : Nat} {fv fv' : Value} {Kd Kd' : List Fi} {e f dn e' f' dn' : Nat} {ls ls' : List (List UInt8)} {O : List (Nat × TypeId × List Value)}
theorem Wq.new {g : Nat} {t : TypeId} {cs : List Value} (H : Wq W w p q P Q v u L M l r h c bw s x m fv Kd e f dn ls O) (hm : Mod [] w w') (h1 : w.heap.size ≤ g) (hB : Blk w' g t cs) (h2 : t ≠ 5) (h3 : t ≠ 97) (h4 : t ≠ 69) (h5 : t ≠ 54) : Wq W w' p q P Q v u L M l r h c bw s x m fv Kd e f dn ls ((g, t, cs) :: O) :=
  ⟨(H.G.new hm h1 hB h2).perm (fun y hy => by simp at hy ⊢; rcases hy with h | h | h | h <;> simp [h]), H.F.ext hm, H.a, fun y hy => (List.mem_cons.1 hy).elim (fun e => by subst e; exact ⟨h3, h4, h5⟩) (H.o y), H.kf, H.l32, H.el, H.fl, H.nl, H.dl⟩
theorem Wq.tail {y : Nat × TypeId × List Value} (H : Wq W w p q P Q v u L M l r h c bw s x m fv Kd e f dn ls (y :: O)) : Wq W w p q P Q v u L M l r h c bw s x m fv Kd e f dn ls O :=
  ⟨H.G.perm (fun z hz => by simp at hz ⊢; rcases hz with h | h | h <;> simp [h]), H.F, H.a, fun z hz => H.o z (List.mem_cons_of_mem _ hz), H.kf, H.l32, H.el, H.fl, H.nl, H.dl⟩
/-- the law's own blocks stay where the program's log and device turn -/
theorem Wq.xF (H : Wq W w p q P Q v u L M l r h c bw s x m fv Kd e f dn ls O) : x ∉ l :: p :: L := fun hh => (List.mem_cons.1 hh).elim (H.G.nl (x, 54, wcC r p h l m) (by simp)).1 (H.G.B.outD (t := 54) (cs := wcC r p h l m) 4 rfl)
theorem Wq.xD (H : Wq W w p q P Q v u L M l r h c bw s x m fv Kd e f dn ls O) : x ∉ p :: L := H.G.B.outD (t := 54) (cs := wcC r p h l m) 4 rfl
theorem Wq.hD (H : Wq W w p q P Q v u L M l r h c bw s x m fv Kd e f dn ls O) : h ∉ p :: L := H.G.B.outD (t := 64) (cs := rhC P c) 2 rfl
theorem Wq.oD {g : Nat} {t : TypeId} {cs : List Value} (H : Wq W w p q P Q v u L M l r h c bw s x m fv Kd e f dn ls ((g, t, cs) :: O)) : g ∉ p :: L := H.G.B.outD (t := t) (cs := cs) 5 rfl
theorem Wq.oB {g : Nat} {t : TypeId} {cs : List Value} (H : Wq W w p q P Q v u L M l r h c bw s x m fv Kd e f dn ls ((g, t, cs) :: O)) : Blk w g t cs := H.G.B.blk 5 rfl
theorem Wq.bh (H : Wq W w p q P Q v u L M l r h c bw s x m fv Kd e f dn ls O) : Blk w h 64 (rhC P c) := H.G.B.blk 2 rfl
theorem Wq.lts {bw2 : Value} {s2 : Ls} {fv2 : Value} {e2 f2 dn2 : Nat} (H : Wq W w p q P Q v u L M l r h c bw s x m fv Kd e f dn ls O) : ∀ y ∈ wO l r h p P c bw2 s2 ++ (m, 69, dcC h e2 f2 fv2 dn2) :: (x, 54, wcC r p h l m) :: O, y.1 < w.heap.size := fun y hy => by
  rcases List.mem_append.1 hy with hy | hy
  · unfold wO at hy
    rcases List.mem_cons.1 hy with e | hy
    · subst e; exact H.G.lg.b.lt
    · rcases List.mem_cons.1 hy with e | hy
      · subst e; exact H.G.rg.lt
      · rcases List.mem_cons.1 hy with e | hy
        · subst e; exact H.G.rh.lt
        · exact nomatch hy
  · rcases List.mem_cons.1 hy with e | hy
    · subst e; exact H.bm.lt
    · exact (H.G.B.O y (List.mem_append_right _ (List.mem_cons_of_mem _ hy))).2.2.2.lt
end
/-- how all stands: both devices tell the same, both logs hold the same -/
def StQ (W w : World) (x p q P Q r h c : Nat) (n0 r0 : Nat) : Prop :=
  ∃ v L M l bw s m fv Kd e f dn ls, Wq W w p q P Q v v L M l r h c bw s x m fv Kd e f dn ls [] ∧ Tie s e f dn ls ∧ LsOk s (c * 64) ∧ v.m.sz = 64 ∧ v.m.dur.length = c + 1 ∧ v.n ≤ n0 ∧ v.m.row.length ≤ r0
theorem flG_szQ (c : Nat) (v : Pv) (s : Ls) : SzOk c 64 v 1 (flG c v s).1 := by
  unfold flG
  split
  · exact ⟨rfl, rfl, by dsimp only; omega, by dsimp only; omega⟩
  · exact putG_sz 1 c 64 v (s.g : Nat) s.b
set_option maxRecDepth 1000000 in
set_option maxHeartbeats 20000000 in
theorem Wq.plays1 {W w : World} {p q P Q : Nat} {v : Pv} {L M : List Nat} {l r h c : Nat} {bw : Value} {s : Ls} {x m : Nat} {fv : Value} {Kd : List Fi} {e f dn : Nat} {ls : List (List UInt8)} (H : Wq W w p q P Q v v L M l r h c bw s x m fv Kd e f dn ls []) (T : Tie s e f dn ls) (hok : LsOk s (c * 64)) (o : Wop) (ho : OkWop W o) (hk : o.k = 1) (hT0 : TabC W) (hc1 : 1 ≤ c) (hc8 : c ≤ 8) (hz : v.m.sz = 64) (hd : v.m.dur.length = c + 1) (hn : v.n ≤ 400000) (hr : v.m.row.length ≤ 400000) :
    Calls Tryz.prog 18 #[.pointer (some ⟨x, 0, none⟩), o.val] w fun en w' => en = .returned (.bool true) ∧ StQ W w' x p q P Q r h c (v.n + 1100) (v.m.row.length + 600) := by
  obtain ⟨hb, hF, hold, wk, wn, wep, wsq, hbl, hfl⟩ := ho
  obtain ⟨k, n, bv0, b, ep, sq, fo, F⟩ := o
  dsimp only at hk hb hF hold wk wn wep wsq hbl hfl
  subst hk
  obtain ⟨aob, capb, rfl, _, _⟩ := hb.form
  obtain ⟨aof, capf, rfl, _, _⟩ := hF.form
  have hcl : (catB e f ls).length ≤ 512 := by have := T.u; have := hok.n; omega
  unfold Wop.val
  dsimp only
  have LB := fun w h => lent_any b (.slice aob b.length capb) w h (by omega)
  have KB := fun w g cap v h hv => kept_any g cap b v w h hv
  have OB := fun w g cap h => over_any g cap b w h (by omega)
  have AP := fun {w O} (H : Wq W w p q P Q v v L M l r h c bw s x m fv Kd e f dn ls O) {xv} (hv : Bs w xv b) => H.appP hT0 hv hok (by omega) (by omega)
  have AD := fun {w O bw s'} (H : Wq W w p q P Q v v L M l r h c bw s' x m fv Kd e f dn ls O) {xv} (hv : Bs w xv b) => H.appD (s0 := s) T hv hz (by omega) (by omega) (by omega)
  have TA := T.app (c * 64) b
  have OA := hok.app b
  unfold QAp at AP
  unfold QAd at AD
  obtain ⟨N1, hN1⟩ : ∃ N, N = s.appN (c * 64) b := ⟨_, rfl⟩
  obtain ⟨S1, hS1⟩ : ∃ N, N = s.app (c * 64) b := ⟨_, rfl⟩
  obtain ⟨E1, hE1⟩ : ∃ N, N = s.appE (c * 64) b := ⟨_, rfl⟩
  simp only [← hN1, ← hS1, ← hE1] at AP AD TA OA
  obtain ⟨LS, hLS⟩ : ∃ N, N = (if E1 = 0 then ls ++ [b] else ls) := ⟨_, rfl⟩
  simp only [← hLS] at AD TA
  clear hN1 hS1 hE1 hLS
  go_enter Tryz.func18, Tryz.ntmps18
  go_wp2_with (with_reducible refine st_box ?_)
  refine StopOp.go rfl fun K hK => ?_
  refine wp_box (v := .agg #[.int .i64 1, .int .i64 n, .slice aob b.length capb, .int .u64 (ep : Nat), .int .u64 (sq : Nat), .slice aof F.length capf]) (by rfl) ?_
  intro t w1 ht1 ht2 hm1 hTT
  simp only [put_some, List.set_cons_succ, List.set_cons_zero]
  refine hK _ _ ?_
  clear hK K
  have H1 := H.new hm1 ht1 (show Blk w1 t 58 [.int .i64 1, .int .i64 n, .slice aob b.length capb, .int .u64 (ep : Nat), .int .u64 (sq : Nat), .slice aof F.length capf] from hTT) (by decide) (by decide) (by decide) (by decide)
  clear hTT ht2
  have d0 := H1.oB.cell' (i := 0) rfl
  have d2 := H1.oB.cell' (i := 2) rfl
  have hb1 : Bs w1 (.slice aob b.length capb) b := Sl.ext hb H1.G.B.m
  go_wp2_with (first
                | (go_at_call 7; (with_reducible refine (LB _ hb1).mono ?_); rintro e w2 ⟨g, capg, rfl, hg, hL2, hm2⟩; have H2 := H1.ext hm2; have x3 := Blk.cell' H2.bx (i := 3) rfl; have bs2 := hL2.bs)
                | (go_at_call 8; (with_reducible refine (AP H2 bs2).mono ?_); rintro e w3 ⟨rfl, bw3, H3, hm3, hn3⟩))
  have hg2 : g < w2.heap.size := hL2.lt
  have hL3 := hL2.mod hm3 (fun hh => (List.mem_cons.1 hh).elim (fun e => by have := H1.G.lg.b.lt; omega) (fun hh => by have := Ow.lt H1.G.o g hh; omega))
  clear d2 x3
  refine wp_region_T [⟨0, true, []⟩, ⟨1, true, []⟩, ⟨2, true, []⟩, ⟨3, true, []⟩, ⟨4, true, []⟩, ⟨5, true, []⟩, ⟨6, false, []⟩, ⟨7, true, []⟩, ⟨8, true, []⟩, ⟨9, true, []⟩, ⟨10, true, []⟩, ⟨11, true, []⟩] (by kernel_rfl) (by kernel_rfl) ?_
  have hmD1 := Mod.drew [] w3
  obtain ⟨xa, hx1⟩ : ∃ z, z = w3.drew := ⟨_, rfl⟩
  rw [← hx1] at hmD1 ⊢
  clear hx1
  have HD1 := H3.ext hmD1
  have hL4 := hL3.ext hmD1
  have x4 := Blk.cell' HD1.bx (i := 4) rfl
  have d2 := HD1.oB.cell' (i := 2) rfl
  have hb4 : Bs xa (.slice aob b.length capb) b := Sl.ext hb HD1.G.B.m
  iterate 6 (refine wpT_n rfl rfl (fun K hK => ?_); go_wp2_with fail)
  refine wpT_call rfl rfl (fun K hK => ?_)
  go_wp2_with (go_at_call 50; (with_reducible refine (AD HD1 hb4).mono ?_); rintro e w5 ⟨rfl, fv5, Kd5, H5, hm5, hn5⟩)
  have hL5 := hL4.mod hm5 (fun hh => (List.mem_cons.1 hh).elim (fun e => by have := H1.bm.lt; omega) (fun hh => by have := (H1.F.ltB g (dB_v hh)).1; omega))
  clear d2
  have d2 := H5.oB.cell' (i := 2) rfl
  have hb5 : Bs w5 (.slice aob b.length capb) b := Sl.ext hb H5.G.B.m
  iterate 5 (refine wpT_n rfl rfl (fun K hK => ?_); go_wp2_with fail)
  refine wpT_nil ?_
  go_wp2_with (first
                | (go_at_call 9; (with_reducible refine (KB _ _ _ _ hL5 hb5).mono ?_); rintro e w6 ⟨rfl, hm6⟩; have H6 := H5.ext hm6; have hL6 := hL5.ext hm6)
                | (go_at_call 10; (with_reducible refine (OB _ _ _ hL6).mono ?_); rintro e w7 ⟨rfl, hm7⟩))
  go_ret
  have z2 := hm2.size
  have z3 := hm3.size
  have zD := hmD1.size
  have H7 := H6.off hm7 (fun k hk => by
    have e : k = g := by simpa using hk
    subst e
    refine ⟨Nat.le_trans H1.G.B.m.size hg, fun hh => by have := H1.G.B.D.lt0 k hh; omega, fun hh => by have := H1.G.B.E.lt1 k hh; omega, fun hh => ?_, fun hh => ?_, fun y hy e => by have := H1.lts y hy; omega⟩
    · rcases hn3 k hh with h1 | h1
      · have := Ow.lt H1.G.o k h1; omega
      · omega
    · rcases hn5 k hh with h1 | h1
      · have := (H1.F.ltB k h1).1; omega
      · omega)
  exact ⟨rfl, _, _, _, _, _, _, _, _, _, _, _, _, _, H7.tail, TA, OA, hz, hd, by omega, by omega⟩
set_option maxRecDepth 1000000 in
set_option maxHeartbeats 20000000 in
theorem Wq.plays2 {W w : World} {p q P Q : Nat} {v : Pv} {L M : List Nat} {l r h c : Nat} {bw : Value} {s : Ls} {x m : Nat} {fv : Value} {Kd : List Fi} {e f dn : Nat} {ls : List (List UInt8)} (H : Wq W w p q P Q v v L M l r h c bw s x m fv Kd e f dn ls []) (T : Tie s e f dn ls) (hok : LsOk s (c * 64)) (o : Wop) (ho : OkWop W o) (hk : o.k = 2) (hT0 : TabC W) (hc1 : 1 ≤ c) (hc8 : c ≤ 8) (hz : v.m.sz = 64) (hd : v.m.dur.length = c + 1) (hn : v.n ≤ 400000) (hr : v.m.row.length ≤ 400000) :
    Calls Tryz.prog 18 #[.pointer (some ⟨x, 0, none⟩), o.val] w fun en w' => en = .returned (.bool true) ∧ StQ W w' x p q P Q r h c (v.n + 1100) (v.m.row.length + 600) := by
  obtain ⟨hb, hF, hold, wk, wn, wep, wsq, hbl, hfl⟩ := ho
  obtain ⟨k, n, bv0, b, ep, sq, fo, F⟩ := o
  dsimp only at hk hb hF hold wk wn wep wsq hbl hfl
  subst hk
  obtain ⟨aob, capb, rfl, _, _⟩ := hb.form
  obtain ⟨aof, capf, rfl, _, _⟩ := hF.form
  have hcl : (catB e f ls).length ≤ 512 := by have := T.u; have := hok.n; omega
  unfold Wop.val
  dsimp only
  have FP := fun {w O} (H : Wq W w p q P Q v v L M l r h c bw s x m fv Kd e f dn ls O) => H.flushP hok (by omega) hz hd (by omega) (by omega)
  have FD := fun {w O vv L bw s'} (H : Wq W w p q P Q vv v L M l r h c bw s' x m fv Kd e f dn ls O) => H.flushD (by omega) hz hd (by omega) (by omega) (by omega)
  have TF := (T.flG c v).2
  have TE := (T.flG c v).1
  have OA := hok.fl v
  have SZ := flG_szQ c v s
  unfold QFp at FP
  unfold QFd at FD
  rw [TE] at FD
  obtain ⟨DN, hDN⟩ : ∃ N, N = (if (flG c v s).2.1.d = s.d then dn else ls.length) := ⟨_, rfl⟩
  rw [← hDN] at FD TF
  clear hDN TE
  obtain ⟨R, hR⟩ : ∃ R, R = flG c v s := ⟨_, rfl⟩
  rw [← hR] at FP FD TF OA SZ
  clear hR
  obtain ⟨V, S, E⟩ := R
  dsimp only at FP FD TF OA SZ
  obtain ⟨z1, z2, z3, z4⟩ := SZ
  go_enter Tryz.func18, Tryz.ntmps18
  go_wp2_with (with_reducible refine st_box ?_)
  refine StopOp.go rfl fun K hK => ?_
  refine wp_box (v := .agg #[.int .i64 2, .int .i64 n, .slice aob b.length capb, .int .u64 (ep : Nat), .int .u64 (sq : Nat), .slice aof F.length capf]) (by rfl) ?_
  intro t w1 ht1 ht2 hm1 hTT
  simp only [put_some, List.set_cons_succ, List.set_cons_zero]
  refine hK _ _ ?_
  clear hK K
  have H1 := H.new hm1 ht1 (show Blk w1 t 58 [.int .i64 2, .int .i64 n, .slice aob b.length capb, .int .u64 (ep : Nat), .int .u64 (sq : Nat), .slice aof F.length capf] from hTT) (by decide) (by decide) (by decide) (by decide)
  clear hTT ht2
  have d0 := H1.oB.cell' (i := 0) rfl
  go_wp2_with fail
  refine wp_region_T [⟨0, true, []⟩, ⟨1, true, []⟩, ⟨2, true, []⟩, ⟨3, true, []⟩, ⟨5, true, []⟩, ⟨6, true, []⟩, ⟨7, true, []⟩, ⟨8, true, []⟩, ⟨4, false, [6, 8]⟩, ⟨9, false, []⟩, ⟨10, true, []⟩, ⟨11, true, []⟩] (by kernel_rfl) (by kernel_rfl) ?_
  have hmD1 := Mod.drew [] w1
  obtain ⟨xa, hx1⟩ : ∃ z, z = w1.drew := ⟨_, rfl⟩
  rw [← hx1] at hmD1 ⊢
  clear hx1
  have HD1 := H1.ext hmD1
  have x3 := Blk.cell' HD1.bx (i := 3) rfl
  have x4 := Blk.cell' HD1.bx (i := 4) rfl
  iterate 8 (refine wpT_n rfl rfl (fun K hK => ?_); go_wp2_with fail)
  refine wpT_callh rfl rfl (fun K hK => ?_)
  go_wp2_with (go_at_call 11; (with_reducible refine (FP HD1).mono ?_); rintro e w3 ⟨rfl, bw3, L3, H3, hm3⟩)
  refine ⟨(agains_cons rfl (again_const (fun _ => rfl)) (agains_cons rfl (again_load rfl rfl (hm3.block _ HD1.bx.lt HD1.xF) HD1.bx.kinds) agains_nil)), ?_⟩
  refine wpT_call rfl rfl (fun K hK => ?_)
  go_wp2_with (go_at_call 51; (with_reducible refine (FD H3).mono ?_); rintro e w4 ⟨rfl, M4, H4, hm4⟩)
  iterate 2 (refine wpT_n rfl rfl (fun K hK => ?_); go_wp2_with fail)
  refine wpT_nil ?_
  go_wp2_with fail
  go_ret
  exact ⟨rfl, _, _, _, _, _, _, _, _, _, _, _, _, _, H4.tail, TF, OA, by omega, by omega, by omega, by omega⟩
set_option maxRecDepth 1000000 in
set_option maxHeartbeats 20000000 in
theorem Wq.plays3 {W w : World} {p q P Q : Nat} {v : Pv} {L M : List Nat} {l r h c : Nat} {bw : Value} {s : Ls} {x m : Nat} {fv : Value} {Kd : List Fi} {e f dn : Nat} {ls : List (List UInt8)} (H : Wq W w p q P Q v v L M l r h c bw s x m fv Kd e f dn ls []) (T : Tie s e f dn ls) (hok : LsOk s (c * 64)) (o : Wop) (ho : OkWop W o) (hk : o.k = 3) (hT0 : TabC W) (hc1 : 1 ≤ c) (hc8 : c ≤ 8) (hz : v.m.sz = 64) (hd : v.m.dur.length = c + 1) (hn : v.n ≤ 400000) (hr : v.m.row.length ≤ 400000) :
    Calls Tryz.prog 18 #[.pointer (some ⟨x, 0, none⟩), o.val] w fun en w' => en = .returned (.bool true) ∧ StQ W w' x p q P Q r h c (v.n + 1100) (v.m.row.length + 600) := by
  obtain ⟨hb, hF, hold, wk, wn, wep, wsq, hbl, hfl⟩ := ho
  obtain ⟨k, n, bv0, b, ep, sq, fo, F⟩ := o
  dsimp only at hk hb hF hold wk wn wep wsq hbl hfl
  subst hk
  obtain ⟨aob, capb, rfl, _, _⟩ := hb.form
  obtain ⟨aof, capf, rfl, _, _⟩ := hF.form
  have hcl : (catB e f ls).length ≤ 512 := by have := T.u; have := hok.n; omega
  unfold Wop.val
  dsimp only
  have RP := fun {w O fv Kd e f dn ls} (H : Wq W w p q P Q v v L M l r h c bw s x m fv Kd e f dn ls O) => H.resetP ep hok (by omega)
  have RD := fun {w O} (H : Wq W w p q P Q v v L M l r h c bw s x m fv Kd e f dn ls O) => H.resetD ep wep
  have TR := T.reset ep
  have OA := hok.reset wep
  obtain ⟨FN, hFN⟩ : ∃ N, N = f + ls.length := ⟨_, rfl⟩
  rw [← hFN] at RD TR
  clear hFN
  go_enter Tryz.func18, Tryz.ntmps18
  go_wp2_with (with_reducible refine st_box ?_)
  refine StopOp.go rfl fun K hK => ?_
  refine wp_box (v := .agg #[.int .i64 3, .int .i64 n, .slice aob b.length capb, .int .u64 (ep : Nat), .int .u64 (sq : Nat), .slice aof F.length capf]) (by rfl) ?_
  intro t w1 ht1 ht2 hm1 hTT
  simp only [put_some, List.set_cons_succ, List.set_cons_zero]
  refine hK _ _ ?_
  clear hK K
  have H1 := H.new hm1 ht1 (show Blk w1 t 58 [.int .i64 3, .int .i64 n, .slice aob b.length capb, .int .u64 (ep : Nat), .int .u64 (sq : Nat), .slice aof F.length capf] from hTT) (by decide) (by decide) (by decide) (by decide)
  clear hTT ht2
  have d0 := H1.oB.cell' (i := 0) rfl
  go_wp2_with fail
  refine wp_region_T [⟨0, true, []⟩, ⟨1, true, []⟩, ⟨2, true, []⟩, ⟨3, true, []⟩, ⟨4, true, []⟩, ⟨5, true, []⟩, ⟨6, false, []⟩] (by kernel_rfl) (by kernel_rfl) ?_
  have hmD1 := Mod.drew [] w1
  obtain ⟨xa, hx1⟩ : ∃ z, z = w1.drew := ⟨_, rfl⟩
  rw [← hx1] at hmD1 ⊢
  clear hx1
  have HD1 := H1.ext hmD1
  have x4 := Blk.cell' HD1.bx (i := 4) rfl
  have d3 := HD1.oB.cell' (i := 3) rfl
  iterate 6 (refine wpT_n rfl rfl (fun K hK => ?_); go_wp2_with fail)
  refine wpT_call rfl rfl (fun K hK => ?_)
  go_wp2_with (go_at_call 52; (with_reducible refine (RD HD1).mono ?_); rintro e w3 ⟨rfl, H3, hm3⟩)
  refine wpT_nil ?_
  go_wp2_with fail
  refine wp_region_T [⟨0, true, []⟩, ⟨1, true, []⟩, ⟨2, true, []⟩, ⟨3, true, []⟩, ⟨4, true, []⟩, ⟨5, true, []⟩, ⟨6, false, []⟩, ⟨7, true, []⟩, ⟨8, true, []⟩] (by kernel_rfl) (by kernel_rfl) ?_
  have hmD2 := Mod.drew [] w3
  obtain ⟨xb, hx2⟩ : ∃ z, z = w3.drew := ⟨_, rfl⟩
  rw [← hx2] at hmD2 ⊢
  clear hx2
  have HD2 := H3.ext hmD2
  clear x4 d3
  have x3 := Blk.cell' HD2.bx (i := 3) rfl
  have d3 := HD2.oB.cell' (i := 3) rfl
  iterate 6 (refine wpT_n rfl rfl (fun K hK => ?_); go_wp2_with fail)
  refine wpT_call rfl rfl (fun K hK => ?_)
  go_wp2_with (go_at_call 53; (with_reducible refine (RP HD2).mono ?_); rintro e w4 ⟨rfl, H4, hm4⟩)
  iterate 2 (refine wpT_n rfl rfl (fun K hK => ?_); go_wp2_with fail)
  refine wpT_nil ?_
  go_wp2_with fail
  go_ret
  exact ⟨rfl, _, _, _, _, _, _, _, _, _, _, _, _, _, H4.tail, TR, OA, hz, hd, by omega, by omega⟩
set_option maxRecDepth 1000000 in
set_option maxHeartbeats 20000000 in
theorem Wq.plays4 {W w : World} {p q P Q : Nat} {v : Pv} {L M : List Nat} {l r h c : Nat} {bw : Value} {s : Ls} {x m : Nat} {fv : Value} {Kd : List Fi} {e f dn : Nat} {ls : List (List UInt8)} (H : Wq W w p q P Q v v L M l r h c bw s x m fv Kd e f dn ls []) (T : Tie s e f dn ls) (hok : LsOk s (c * 64)) (o : Wop) (ho : OkWop W o) (hk : o.k = 4) (hT0 : TabC W) (hc1 : 1 ≤ c) (hc8 : c ≤ 8) (hz : v.m.sz = 64) (hd : v.m.dur.length = c + 1) (hn : v.n ≤ 400000) (hr : v.m.row.length ≤ 400000) :
    Calls Tryz.prog 18 #[.pointer (some ⟨x, 0, none⟩), o.val] w fun en w' => en = .returned (.bool true) ∧ StQ W w' x p q P Q r h c (v.n + 1100) (v.m.row.length + 600) := by
  obtain ⟨hb, hF, hold, wk, wn, wep, wsq, hbl, hfl⟩ := ho
  obtain ⟨k, n, bv0, b, ep, sq, fo, F⟩ := o
  dsimp only at hk hb hF hold wk wn wep wsq hbl hfl
  subst hk
  obtain ⟨aob, capb, rfl, _, _⟩ := hb.form
  obtain ⟨aof, capf, rfl, _, _⟩ := hF.form
  have hcl : (catB e f ls).length ≤ 512 := by have := T.u; have := hok.n; omega
  unfold Wop.val
  dsimp only
  have FP := fun {w O} (H : Wq W w p q P Q v v L M l r h c bw s x m fv Kd e f dn ls O) => lFits_any l r p c bw s n w wn H.G.lg H.G.rg hok.n (by omega) hok.t
  have FD := fun {w O} (H : Wq W w p q P Q v v L M l r h c bw s x m fv Kd e f dn ls O) => dFits_any m h W.heap.size P Q c v M fv Kd e f dn ls n w wn H.dq H.G.rh H.G.B.E hz (by omega) (by omega)
  simp only [T.fits] at FD
  obtain ⟨B, hB⟩ : ∃ B, B = s.fits (c * 64) n := ⟨_, rfl⟩
  rw [← hB] at FP FD
  clear hB
  go_enter Tryz.func18, Tryz.ntmps18
  go_wp2_with (with_reducible refine st_box ?_)
  refine StopOp.go rfl fun K hK => ?_
  refine wp_box (v := .agg #[.int .i64 4, .int .i64 n, .slice aob b.length capb, .int .u64 (ep : Nat), .int .u64 (sq : Nat), .slice aof F.length capf]) (by rfl) ?_
  intro t w1 ht1 ht2 hm1 hTT
  simp only [put_some, List.set_cons_succ, List.set_cons_zero]
  refine hK _ _ ?_
  clear hK K
  have H1 := H.new hm1 ht1 (show Blk w1 t 58 [.int .i64 4, .int .i64 n, .slice aob b.length capb, .int .u64 (ep : Nat), .int .u64 (sq : Nat), .slice aof F.length capf] from hTT) (by decide) (by decide) (by decide) (by decide)
  clear hTT ht2
  have d0 := H1.oB.cell' (i := 0) rfl
  go_wp2_with fail
  refine wp_region_T [⟨0, true, []⟩, ⟨1, true, []⟩, ⟨2, true, []⟩, ⟨3, true, []⟩, ⟨4, true, []⟩, ⟨5, true, []⟩, ⟨7, true, []⟩, ⟨8, true, []⟩, ⟨9, true, []⟩, ⟨10, true, []⟩, ⟨11, true, []⟩, ⟨12, true, []⟩, ⟨6, false, [8, 10, 12]⟩, ⟨13, false, []⟩, ⟨14, true, []⟩, ⟨15, true, []⟩] (by kernel_rfl) (by kernel_rfl) ?_
  have hmD1 := Mod.drew [] w1
  obtain ⟨xa, hx1⟩ : ∃ z, z = w1.drew := ⟨_, rfl⟩
  rw [← hx1] at hmD1 ⊢
  clear hx1
  have HD1 := H1.ext hmD1
  have x3 := Blk.cell' HD1.bx (i := 3) rfl
  have x4 := Blk.cell' HD1.bx (i := 4) rfl
  have d1 := HD1.oB.cell' (i := 1) rfl
  iterate 12 (refine wpT_n rfl rfl (fun K hK => ?_); go_wp2_with fail)
  refine wpT_callh rfl rfl (fun K hK => ?_)
  go_wp2_with (go_at_call 36; (with_reducible refine (FP HD1).mono ?_); rintro e w3 ⟨rfl, hm3⟩)
  refine ⟨(agains_cons rfl (again_const (fun _ => rfl)) (agains_cons rfl (again_load rfl rfl (hm3.block _ HD1.bx.lt (by simp)) HD1.bx.kinds) (agains_cons rfl (again_load rfl rfl (hm3.block _ HD1.oB.lt (by simp)) HD1.oB.kinds) agains_nil))), ?_⟩
  have H3 := HD1.ext hm3
  refine wpT_call rfl rfl (fun K hK => ?_)
  go_wp2_with (go_at_call 54; (with_reducible refine (FD H3).mono ?_); rintro e w4 ⟨rfl, hm4⟩)
  iterate 2 (refine wpT_n rfl rfl (fun K hK => ?_); go_wp2_with fail)
  refine wpT_nil ?_
  go_wp2_with fail
  go_ret
  exact ⟨rfl, _, _, _, _, _, _, _, _, _, _, _, _, _, (H3.ext hm4).tail, T, hok, hz, hd, by omega, by omega⟩
set_option maxRecDepth 1000000 in
set_option maxHeartbeats 20000000 in
theorem Wq.plays5 {W w : World} {p q P Q : Nat} {v : Pv} {L M : List Nat} {l r h c : Nat} {bw : Value} {s : Ls} {x m : Nat} {fv : Value} {Kd : List Fi} {e f dn : Nat} {ls : List (List UInt8)} (H : Wq W w p q P Q v v L M l r h c bw s x m fv Kd e f dn ls []) (T : Tie s e f dn ls) (hok : LsOk s (c * 64)) (o : Wop) (ho : OkWop W o) (hk : o.k = 5) (hT0 : TabC W) (hc1 : 1 ≤ c) (hc8 : c ≤ 8) (hz : v.m.sz = 64) (hd : v.m.dur.length = c + 1) (hn : v.n ≤ 400000) (hr : v.m.row.length ≤ 400000) :
    Calls Tryz.prog 18 #[.pointer (some ⟨x, 0, none⟩), o.val] w fun en w' => en = .returned (.bool true) ∧ StQ W w' x p q P Q r h c (v.n + 1100) (v.m.row.length + 600) := by
  obtain ⟨hb, hF, hold, wk, wn, wep, wsq, hbl, hfl⟩ := ho
  obtain ⟨k, n, bv0, b, ep, sq, fo, F⟩ := o
  dsimp only at hk hb hF hold wk wn wep wsq hbl hfl
  subst hk
  obtain ⟨aob, capb, rfl, _, _⟩ := hb.form
  obtain ⟨aof, capf, rfl, _, _⟩ := hF.form
  have hcl : (catB e f ls).length ≤ 512 := by have := T.u; have := hok.n; omega
  unfold Wop.val
  dsimp only
  have AR := fun w h => pArm_any p q v L n w h (by have := wn.2; omega)
  have AQ := fun w h => qArm_any P Q v M n w h (by have := wn.2; omega)
  obtain ⟨E, hE⟩ : ∃ E : Int, E = if v.off = true then 60 else 0 := ⟨_, rfl⟩
  rw [← hE] at AR AQ
  clear hE
  obtain ⟨s1, s2⟩ := arm_sz v n
  obtain ⟨V, hV⟩ : ∃ V, V = v.arm n := ⟨_, rfl⟩
  rw [← hV] at AR AQ s1 s2
  clear hV
  go_enter Tryz.func18, Tryz.ntmps18
  go_wp2_with (with_reducible refine st_box ?_)
  refine StopOp.go rfl fun K hK => ?_
  refine wp_box (v := .agg #[.int .i64 5, .int .i64 n, .slice aob b.length capb, .int .u64 (ep : Nat), .int .u64 (sq : Nat), .slice aof F.length capf]) (by rfl) ?_
  intro t w1 ht1 ht2 hm1 hTT
  simp only [put_some, List.set_cons_succ, List.set_cons_zero]
  refine hK _ _ ?_
  clear hK K
  have H1 := H.new hm1 ht1 (show Blk w1 t 58 [.int .i64 5, .int .i64 n, .slice aob b.length capb, .int .u64 (ep : Nat), .int .u64 (sq : Nat), .slice aof F.length capf] from hTT) (by decide) (by decide) (by decide) (by decide)
  clear hTT ht2
  have d0 := H1.oB.cell' (i := 0) rfl
  go_wp2_with fail
  refine wp_region_T [⟨0, true, []⟩, ⟨1, true, []⟩, ⟨2, true, []⟩, ⟨3, true, []⟩, ⟨4, true, []⟩, ⟨5, true, []⟩, ⟨7, true, []⟩, ⟨8, true, []⟩, ⟨9, true, []⟩, ⟨10, true, []⟩, ⟨11, true, []⟩, ⟨12, true, []⟩, ⟨13, true, []⟩, ⟨14, true, []⟩, ⟨15, true, []⟩, ⟨6, false, [8, 10, 11, 13, 15]⟩, ⟨16, false, []⟩, ⟨17, true, []⟩, ⟨18, true, []⟩] (by kernel_rfl) (by kernel_rfl) ?_
  have hmD1 := Mod.drew [] w1
  obtain ⟨xa, hx1⟩ : ∃ z, z = w1.drew := ⟨_, rfl⟩
  rw [← hx1] at hmD1 ⊢
  clear hx1
  have HD1 := H1.ext hmD1
  have D2 := HD1.G.B.D
  have x1 := Blk.cell' HD1.bx (i := 1) rfl
  have x2 := Blk.cell' HD1.bx (i := 2) rfl
  have h0 := Blk.cell' HD1.bh (i := 0) rfl
  have d1 := HD1.oB.cell' (i := 1) rfl
  iterate 15 (refine wpT_n rfl rfl (fun K hK => ?_); go_wp2_with fail)
  refine wpT_callh rfl rfl (fun K hK => ?_)
  go_wp2_with (go_at_call 55; (with_reducible refine (AR _ D2).mono ?_); rintro e w3 ⟨rfl, hP3, hm3⟩)
  refine ⟨(agains_cons rfl (again_const (fun _ => rfl)) (agains_cons rfl (again_load rfl rfl (hm3.block _ HD1.bx.lt (fun hh => HD1.xD (by simp at hh; simp [hh]))) HD1.bx.kinds) (agains_cons rfl (again_const (fun _ => rfl)) (agains_cons rfl (again_load rfl rfl (hm3.block _ HD1.bh.lt (fun hh => HD1.hD (by simp at hh; simp [hh]))) HD1.bh.kinds) (agains_cons rfl (again_load rfl rfl (hm3.block _ HD1.oB.lt (fun hh => HD1.oD (by simp at hh; simp [hh]))) HD1.oB.kinds) agains_nil))))), ?_⟩
  have H3 := HD1.rd hP3 hm3
  have E3 := H3.G.B.E
  refine wpT_call rfl rfl (fun K hK => ?_)
  go_wp2_with (go_at_call 56; (with_reducible refine (AQ _ E3).mono ?_); rintro e w4 ⟨rfl, hP4, hm4⟩)
  have H4 := H3.rr hP4 hm4
  iterate 2 (refine wpT_n rfl rfl (fun K hK => ?_); go_wp2_with fail)
  refine wpT_nil ?_
  go_wp2_with fail
  go_ret
  exact ⟨rfl, _, _, _, _, _, _, _, _, _, _, _, _, _, H4.tail, T, hok, by rw [s1]; exact hz, by rw [s1]; exact hd, by omega, by rw [s1]; omega⟩
set_option maxRecDepth 1000000 in
set_option maxHeartbeats 20000000 in
theorem Wq.plays6 {W w : World} {p q P Q : Nat} {v : Pv} {L M : List Nat} {l r h c : Nat} {bw : Value} {s : Ls} {x m : Nat} {fv : Value} {Kd : List Fi} {e f dn : Nat} {ls : List (List UInt8)} (H : Wq W w p q P Q v v L M l r h c bw s x m fv Kd e f dn ls []) (T : Tie s e f dn ls) (hok : LsOk s (c * 64)) (o : Wop) (ho : OkWop W o) (hk : o.k = 6) (hT0 : TabC W) (hc1 : 1 ≤ c) (hc8 : c ≤ 8) (hz : v.m.sz = 64) (hd : v.m.dur.length = c + 1) (hn : v.n ≤ 400000) (hr : v.m.row.length ≤ 400000) :
    Calls Tryz.prog 18 #[.pointer (some ⟨x, 0, none⟩), o.val] w fun en w' => en = .returned (.bool true) ∧ StQ W w' x p q P Q r h c (v.n + 1100) (v.m.row.length + 600) := by
  obtain ⟨hb, hF, hold, wk, wn, wep, wsq, hbl, hfl⟩ := ho
  obtain ⟨k, n, bv0, b, ep, sq, fo, F⟩ := o
  dsimp only at hk hb hF hold wk wn wep wsq hbl hfl
  subst hk
  obtain ⟨aob, capb, rfl, _, _⟩ := hb.form
  obtain ⟨aof, capf, rfl, _, _⟩ := hF.form
  have hcl : (catB e f ls).length ≤ 512 := by have := T.u; have := hok.n; omega
  unfold Wop.val
  dsimp only
  have CF := fun fv0 w h => copyF_any F fv0 w h (by omega)
  have RE := fun fw w h hF hFL => pRestart_any p q v L F fw w h (by omega) hF hFL
  have RQ := fun fw w h hF hFL => qRestart_any P Q v M F fw w h (by omega) hF hFL
  obtain ⟨s1, s2, s3, s4⟩ := re_sz v F
  obtain ⟨V, hV⟩ : ∃ V, V = v.re F := ⟨_, rfl⟩
  rw [← hV] at RE RQ s1 s2 s3 s4
  clear hV
  go_enter Tryz.func18, Tryz.ntmps18
  go_wp2_with (with_reducible refine st_box ?_)
  refine StopOp.go rfl fun K hK => ?_
  refine wp_box (v := .agg #[.int .i64 6, .int .i64 n, .slice aob b.length capb, .int .u64 (ep : Nat), .int .u64 (sq : Nat), .slice aof F.length capf]) (by rfl) ?_
  intro t w1 ht1 ht2 hm1 hTT
  simp only [put_some, List.set_cons_succ, List.set_cons_zero]
  refine hK _ _ ?_
  clear hK K
  have H1 := H.new hm1 ht1 (show Blk w1 t 58 [.int .i64 6, .int .i64 n, .slice aob b.length capb, .int .u64 (ep : Nat), .int .u64 (sq : Nat), .slice aof F.length capf] from hTT) (by decide) (by decide) (by decide) (by decide)
  clear hTT ht2
  have d0 := H1.oB.cell' (i := 0) rfl
  go_wp2_with fail
  refine wp_region_T [⟨0, true, []⟩, ⟨1, true, []⟩, ⟨2, true, []⟩, ⟨3, true, []⟩, ⟨4, true, []⟩, ⟨5, true, []⟩, ⟨8, true, []⟩, ⟨9, true, []⟩, ⟨10, true, []⟩, ⟨11, true, []⟩, ⟨12, true, []⟩, ⟨13, true, []⟩, ⟨14, true, []⟩, ⟨15, true, []⟩, ⟨16, true, []⟩, ⟨6, false, [1, 3, 9, 11, 12, 14, 16]⟩, ⟨7, false, [9, 11, 12, 14, 16]⟩, ⟨17, false, []⟩, ⟨18, true, []⟩, ⟨19, true, []⟩] (by kernel_rfl) (by kernel_rfl) ?_
  have hmD1 := Mod.drew [] w1
  obtain ⟨xa, hx1⟩ : ∃ z, z = w1.drew := ⟨_, rfl⟩
  rw [← hx1] at hmD1 ⊢
  clear hx1
  have HD1 := H1.ext hmD1
  have x1 := Blk.cell' HD1.bx (i := 1) rfl
  have x2 := Blk.cell' HD1.bx (i := 2) rfl
  have h0 := Blk.cell' HD1.bh (i := 0) rfl
  have d5 := HD1.oB.cell' (i := 5) rfl
  have hF2 : Fs xa (.slice aof F.length capf) F := hF.far HD1.G.B.m (by simp)
  iterate 15 (refine wpT_n rfl rfl (fun K hK => ?_); go_wp2_with fail)
  refine wpT_callh rfl rfl (fun K hK => ?_)
  go_wp2_with (go_at_call 57; (with_reducible refine (CF _ _ hF2).mono ?_); rintro e w3 ⟨fw, rfl, hF3, hf3, hm3⟩)
  obtain ⟨aow, capw, rfl, _, _⟩ := hF3.form
  refine ⟨(agains_cons rfl (again_const (fun _ => rfl)) (agains_cons rfl (again_load rfl rfl (hm3.block _ HD1.bx.lt (by simp)) HD1.bx.kinds) (agains_cons rfl (again_const (fun _ => rfl)) (agains_cons rfl (again_load rfl rfl (hm3.block _ HD1.bx.lt (by simp)) HD1.bx.kinds) (agains_cons rfl (again_const (fun _ => rfl)) (agains_cons rfl (again_load rfl rfl (hm3.block _ HD1.bh.lt (by simp)) HD1.bh.kinds) (agains_cons rfl (again_load rfl rfl (hm3.block _ HD1.oB.lt (by simp)) HD1.oB.kinds) agains_nil))))))), ?_⟩
  have H3 := HD1.ext hm3
  have D3 := H3.G.B.D
  refine wpT_callh rfl rfl (fun K hK => ?_)
  go_wp2_with (go_at_call 20; (with_reducible refine (RE _ _ D3 hF3 (fun _ y hy hh => by have h1 := hf3 y hy; have h2 := HD1.G.B.D.lt0 y (List.mem_cons_of_mem _ hh); omega)).mono ?_); rintro e w4 ⟨rfl, hP4⟩)
  obtain ⟨L4, H4, hm4⟩ := H3.dt hP4
  refine ⟨(agains_cons rfl (again_const (fun _ => rfl)) (agains_cons rfl (again_load rfl rfl (hm4.block _ H3.bx.lt H3.xD) H3.bx.kinds) (agains_cons rfl (again_const (fun _ => rfl)) (agains_cons rfl (again_load rfl rfl (hm4.block _ H3.bh.lt H3.hD) H3.bh.kinds) (agains_cons rfl (again_load rfl rfl (hm4.block _ H3.oB.lt H3.oD) H3.oB.kinds) agains_nil))))), ?_⟩
  have E4 := H4.G.B.E
  have hF4 : Fs w4 (.slice aof F.length capf) F := hF.far H4.G.B.m (by simp)
  refine wpT_call rfl rfl (fun K hK => ?_)
  go_wp2_with (go_at_call 21; (with_reducible refine (RQ _ _ E4 hF4 (fun hh0 y hy hh => by have h1 := hold hh0 y hy; have h2 := H4.G.B.rn y (List.mem_cons_of_mem _ hh); omega)).mono ?_); rintro e w5 ⟨rfl, hP5⟩)
  obtain ⟨M5, H5, hm5⟩ := H4.rt hP5
  iterate 2 (refine wpT_n rfl rfl (fun K hK => ?_); go_wp2_with fail)
  refine wpT_nil ?_
  go_wp2_with fail
  go_ret
  exact ⟨rfl, _, _, _, _, _, _, _, _, _, _, _, _, _, H5.tail, T, hok, by rw [s1]; exact hz, by rw [s2]; exact hd, by omega, by rw [s3]; exact Nat.zero_le _⟩
end Go.Proofs.YtfepggdljhiemaaGreatDoor

/-! WalPlays: a step of a script: kinds 7, 8, 9, others; plays. -/
namespace Go.Proofs.YtfepggdljhiemaaGreatDoor
open Go.RowKit Gw

section
variable {W w w' : World} {p q P Q : Nat} {v u v' u' : Pv} {L M L' M' G : List Nat} {l r h c : Nat} {bw bw' : Value} {s s' : Ls} {x m : Nat} {fv fv' : Value} {Kd Kd' : List Fi} {e f dn e' f' dn' : Nat} {ls ls' : List (List UInt8)} {O : List (Nat × TypeId × List Value)}
/-- the law's world has turned -/
theorem Wg.setX {l2 m2 : Nat} (H : Wg W w p q P Q v u L M l r h c bw s ((x, 54, wcC r p h l2 m2) :: O)) (hO : ∀ y ∈ O, y.2.1 ≠ 54) (hm : Mod [x] w w') {cs : List Value} (hB : Blk w' x 54 cs) : Wg W w' p q P Q v u L M l r h c bw s ((x, 54, cs) :: O) := by
  refine H.setO (G := []) hm (fun k hk => nomatch hk) (fun y hy => ?_) hB
  have hx := H.B.O (x, 54, wcC r p h l2 m2) (by simp)
  have hb : Blk w y.1 y.2.1 y.2.2 := (H.B.O y (by
    rcases List.mem_append.1 hy with hy | hy
    · exact List.mem_append_left _ hy
    · exact List.mem_append_right _ (List.mem_cons_of_mem _ hy))).2.2.2
  refine Blk.ne hb hx.2.2.2 ?_
  rcases List.mem_append.1 hy with hy | hy
  · unfold wO at hy
    rcases List.mem_cons.1 hy with e | hy
    · subst e; exact (by decide : (89 : TypeId) ≠ 54)
    · rcases List.mem_cons.1 hy with e | hy
      · subst e; exact (by decide : (142 : TypeId) ≠ 54)
      · rcases List.mem_cons.1 hy with e | hy
        · subst e; exact (by decide : (64 : TypeId) ≠ 54)
        · exact nomatch hy
  · exact hO y hy
/-- a document's log that is made -/
theorem Wq.fresh {e2 f2 : Nat} {O : List (Nat × TypeId × List Value)} (H : Wg W w p q P Q v u L M l r h c bw s ((m, 69, dcC h e2 f2 (.slice none 0 0) 0) :: (x, 54, wcC r p h l m) :: O)) (ho : ∀ y ∈ O, y.2.1 ≠ 97 ∧ y.2.1 ≠ 69 ∧ y.2.1 ≠ 54) (he : e2 < 18446744073709551616) (hf : f2 < 18446744073709551616) : Wq W w p q P Q v u L M l r h c bw s x m (.slice none 0 0) [] e2 f2 0 [] O :=
  ⟨H, Frs.nil _ _, fun k hk => absurd hk (by simp [dB, blks]), ho, rfl, (fun z hz => nomatch hz), he, hf, Nat.zero_le _, Nat.le_refl _⟩
end
set_option maxRecDepth 1000000 in
set_option maxHeartbeats 20000000 in
theorem Wq.plays7 {W w : World} {p q P Q : Nat} {v : Pv} {L M : List Nat} {l r h c : Nat} {bw : Value} {s : Ls} {x m : Nat} {fv : Value} {Kd : List Fi} {e f dn : Nat} {ls : List (List UInt8)} (H : Wq W w p q P Q v v L M l r h c bw s x m fv Kd e f dn ls []) (T : Tie s e f dn ls) (hok : LsOk s (c * 64)) (o : Wop) (ho : OkWop W o) (hk : o.k = 7) (hT0 : TabC W) (hc1 : 1 ≤ c) (hc8 : c ≤ 8) (hz : v.m.sz = 64) (hd : v.m.dur.length = c + 1) (hn : v.n ≤ 400000) (hr : v.m.row.length ≤ 400000) :
    Calls Tryz.prog 18 #[.pointer (some ⟨x, 0, none⟩), o.val] w fun en w' => en = .returned (.bool true) ∧ StQ W w' x p q P Q r h c (v.n + 1100) (v.m.row.length + 600) := by
  obtain ⟨hb, hF, hold, wk, wn, wep, wsq, hbl, hfl⟩ := ho
  obtain ⟨k, n, bv0, b, ep, sq, fo, F⟩ := o
  dsimp only at hk hb hF hold wk wn wep wsq hbl hfl
  subst hk
  obtain ⟨aob, capb, rfl, _, _⟩ := hb.form
  obtain ⟨aof, capf, rfl, _, _⟩ := hF.form
  have hcl : (catB e f ls).length ≤ 512 := by have := T.u; have := hok.n; omega
  unfold Wop.val
  dsimp only
  have SC := fun {w O} (H : Wq W w p q P Q v v L M l r h c bw s x m fv Kd e f dn ls O) => H.scans ep sq hT0 hc8 hc1 hz hd (by omega) wep wsq
  obtain ⟨s1, s2⟩ := rdA_sz 1 c 64 v (0 : Nat) (c * 64 : Nat)
  obtain ⟨R, hR⟩ : ∃ R, R = rdA 1 c 64 v (0 : Nat) (c * 64 : Nat) := ⟨_, rfl⟩
  rw [← hR] at SC s1 s2
  clear hR
  obtain ⟨V, E, X⟩ := R
  dsimp only at SC s1 s2
  go_enter Tryz.func18, Tryz.ntmps18
  go_wp2_with (with_reducible refine st_box ?_)
  refine StopOp.go rfl fun K hK => ?_
  refine wp_box (v := .agg #[.int .i64 7, .int .i64 n, .slice aob b.length capb, .int .u64 (ep : Nat), .int .u64 (sq : Nat), .slice aof F.length capf]) (by rfl) ?_
  intro t w1 ht1 ht2 hm1 hTT
  simp only [put_some, List.set_cons_succ, List.set_cons_zero]
  refine hK _ _ ?_
  clear hK K
  have H1 := H.new hm1 ht1 (show Blk w1 t 58 [.int .i64 7, .int .i64 n, .slice aob b.length capb, .int .u64 (ep : Nat), .int .u64 (sq : Nat), .slice aof F.length capf] from hTT) (by decide) (by decide) (by decide) (by decide)
  clear hTT ht2
  have d0 := H1.oB.cell' (i := 0) rfl
  have d3 := H1.oB.cell' (i := 3) rfl
  have d4 := H1.oB.cell' (i := 4) rfl
  go_wp2_with (go_at_call 25; (with_reducible refine (SC H1).mono ?_); rintro e w3 ⟨rfl, H3⟩)
  go_ret
  exact ⟨rfl, _, _, _, _, _, _, _, _, _, _, _, _, _, H3.tail, T, hok, by rw [s1]; exact hz, by rw [s1]; exact hd, by omega, by rw [s1]; omega⟩
set_option maxRecDepth 1000000 in
set_option maxHeartbeats 20000000 in
theorem Wq.plays8 {W w : World} {p q P Q : Nat} {v : Pv} {L M : List Nat} {l r h c : Nat} {bw : Value} {s : Ls} {x m : Nat} {fv : Value} {Kd : List Fi} {e f dn : Nat} {ls : List (List UInt8)} (H : Wq W w p q P Q v v L M l r h c bw s x m fv Kd e f dn ls []) (T : Tie s e f dn ls) (hok : LsOk s (c * 64)) (o : Wop) (ho : OkWop W o) (hk : o.k = 8) (hT0 : TabC W) (hc1 : 1 ≤ c) (hc8 : c ≤ 8) (hz : v.m.sz = 64) (hd : v.m.dur.length = c + 1) (hn : v.n ≤ 400000) (hr : v.m.row.length ≤ 400000) :
    Calls Tryz.prog 18 #[.pointer (some ⟨x, 0, none⟩), o.val] w fun en w' => en = .returned (.bool true) ∧ StQ W w' x p q P Q r h c (v.n + 1100) (v.m.row.length + 600) := by
  obtain ⟨hb, hF, hold, wk, wn, wep, wsq, hbl, hfl⟩ := ho
  obtain ⟨k, n, bv0, b, ep, sq, fo, F⟩ := o
  dsimp only at hk hb hF hold wk wn wep wsq hbl hfl
  subst hk
  obtain ⟨aob, capb, rfl, _, _⟩ := hb.form
  obtain ⟨aof, capf, rfl, _, _⟩ := hF.form
  have hcl : (catB e f ls).length ≤ 512 := by have := T.u; have := hok.n; omega
  unfold Wop.val
  dsimp only
  have hel := H.el
  have hfl2 := H.fl
  have SC := fun {w O} (H : Wq W w p q P Q v v L M l r h c bw s x m fv Kd e f dn ls O) => H.scans e f hT0 hc8 hc1 hz hd (by omega) hel (by omega)
  obtain ⟨s1, s2⟩ := rdA_sz 1 c 64 v (0 : Nat) (c * 64 : Nat)
  obtain ⟨R, hR⟩ : ∃ R, R = rdA 1 c 64 v (0 : Nat) (c * 64 : Nat) := ⟨_, rfl⟩
  rw [← hR] at SC s1 s2
  clear hR
  obtain ⟨V, E, X⟩ := R
  dsimp only at SC s1 s2
  go_enter Tryz.func18, Tryz.ntmps18
  go_wp2_with (with_reducible refine st_box ?_)
  refine StopOp.go rfl fun K hK => ?_
  refine wp_box (v := .agg #[.int .i64 8, .int .i64 n, .slice aob b.length capb, .int .u64 (ep : Nat), .int .u64 (sq : Nat), .slice aof F.length capf]) (by rfl) ?_
  intro t w1 ht1 ht2 hm1 hTT
  simp only [put_some, List.set_cons_succ, List.set_cons_zero]
  refine hK _ _ ?_
  clear hK K
  have H1 := H.new hm1 ht1 (show Blk w1 t 58 [.int .i64 8, .int .i64 n, .slice aob b.length capb, .int .u64 (ep : Nat), .int .u64 (sq : Nat), .slice aof F.length capf] from hTT) (by decide) (by decide) (by decide) (by decide)
  clear hTT ht2
  have d0 := H1.oB.cell' (i := 0) rfl
  go_wp2_with fail
  refine wp_region_T [⟨0, true, []⟩, ⟨1, true, []⟩, ⟨2, true, []⟩, ⟨3, true, []⟩, ⟨4, true, []⟩, ⟨5, true, []⟩, ⟨6, true, []⟩, ⟨7, true, []⟩, ⟨8, true, []⟩, ⟨9, true, []⟩, ⟨10, true, []⟩, ⟨11, true, []⟩, ⟨12, true, []⟩, ⟨13, true, []⟩, ⟨14, true, []⟩, ⟨15, false, []⟩, ⟨16, true, []⟩] (by kernel_rfl) (by kernel_rfl) ?_
  have hmD1 := Mod.drew [] w1
  obtain ⟨xa, hx1⟩ : ∃ z, z = w1.drew := ⟨_, rfl⟩
  rw [← hx1] at hmD1 ⊢
  clear hx1
  have HD1 := H1.ext hmD1
  have x4 := Blk.cell' HD1.bx (i := 4) rfl
  have m1 := Blk.cell' HD1.bm (i := 1) rfl
  have m2 := Blk.cell' HD1.bm (i := 2) rfl
  iterate 15 (refine wpT_n rfl rfl (fun K hK => ?_); go_wp2_with fail)
  refine wpT_call rfl rfl (fun K hK => ?_)
  go_wp2_with (go_at_call 25; (with_reducible refine (SC HD1).mono ?_); rintro e w3 ⟨rfl, H3⟩)
  refine wpT_n rfl rfl (fun K hK => ?_)
  go_wp2_with fail
  refine wpT_nil ?_
  go_wp2_with fail
  go_ret
  exact ⟨rfl, _, _, _, _, _, _, _, _, _, _, _, _, _, H3.tail, T, hok, by rw [s1]; exact hz, by rw [s1]; exact hd, by omega, by rw [s1]; omega⟩
set_option maxRecDepth 1000000 in
set_option maxHeartbeats 20000000 in
theorem Wq.plays9 {W w : World} {p q P Q : Nat} {v : Pv} {L M : List Nat} {l r h c : Nat} {bw : Value} {s : Ls} {x m : Nat} {fv : Value} {Kd : List Fi} {e f dn : Nat} {ls : List (List UInt8)} (H : Wq W w p q P Q v v L M l r h c bw s x m fv Kd e f dn ls []) (T : Tie s e f dn ls) (hok : LsOk s (c * 64)) (o : Wop) (ho : OkWop W o) (hk : o.k = 9) (hT0 : TabC W) (hc1 : 1 ≤ c) (hc8 : c ≤ 8) (hz : v.m.sz = 64) (hd : v.m.dur.length = c + 1) (hn : v.n ≤ 400000) (hr : v.m.row.length ≤ 400000) :
    Calls Tryz.prog 18 #[.pointer (some ⟨x, 0, none⟩), o.val] w fun en w' => en = .returned (.bool true) ∧ StQ W w' x p q P Q r h c (v.n + 1100) (v.m.row.length + 600) := by
  obtain ⟨hb, hF, hold, wk, wn, wep, wsq, hbl, hfl⟩ := ho
  obtain ⟨k, n, bv0, b, ep, sq, fo, F⟩ := o
  dsimp only at hk hb hF hold wk wn wep wsq hbl hfl
  subst hk
  obtain ⟨aob, capb, rfl, _, _⟩ := hb.form
  obtain ⟨aof, capf, rfl, _, _⟩ := hF.form
  have hcl : (catB e f ls).length ≤ 512 := by have := T.u; have := hok.n; omega
  unfold Wop.val
  dsimp only
  have NW := fun {w bw s O} (H : Wg W w p q P Q v v L M l r h c bw s O) => H.newL ep sq hc1 (by omega)
  have ND := fun w => dnew_any10 h ep sq w
  go_enter Tryz.func18, Tryz.ntmps18
  go_wp2_with (with_reducible refine st_box ?_)
  refine StopOp.go rfl fun K hK => ?_
  refine wp_box (v := .agg #[.int .i64 9, .int .i64 n, .slice aob b.length capb, .int .u64 (ep : Nat), .int .u64 (sq : Nat), .slice aof F.length capf]) (by rfl) ?_
  intro t w1 ht1 ht2 hm1 hTT
  simp only [put_some, List.set_cons_succ, List.set_cons_zero]
  refine hK _ _ ?_
  clear hK K
  have H1 := H.new hm1 ht1 (show Blk w1 t 58 [.int .i64 9, .int .i64 n, .slice aob b.length capb, .int .u64 (ep : Nat), .int .u64 (sq : Nat), .slice aof F.length capf] from hTT) (by decide) (by decide) (by decide) (by decide)
  clear hTT ht2
  have d0 := H1.oB.cell' (i := 0) rfl
  go_wp2_with fail
  refine wp_region_T [⟨0, true, []⟩, ⟨1, true, []⟩, ⟨2, true, []⟩, ⟨3, true, []⟩, ⟨4, true, []⟩, ⟨5, true, []⟩, ⟨6, true, []⟩, ⟨7, true, []⟩, ⟨8, false, []⟩, ⟨9, true, []⟩, ⟨10, true, []⟩, ⟨11, true, []⟩, ⟨12, true, []⟩, ⟨13, true, []⟩] (by kernel_rfl) (by kernel_rfl) ?_
  have hmD1 := Mod.drew [] w1
  obtain ⟨xa, hx1⟩ : ∃ z, z = w1.drew := ⟨_, rfl⟩
  rw [← hx1] at hmD1 ⊢
  clear hx1
  have HD1 := H1.ext hmD1
  have x0 := Blk.cell' HD1.bx (i := 0) rfl
  have d3 := HD1.oB.cell' (i := 3) rfl
  have d4 := HD1.oB.cell' (i := 4) rfl
  have G1 := HD1.G
  iterate 8 (refine wpT_n rfl rfl (fun K hK => ?_); go_wp2_with fail)
  refine wpT_call rfl rfl (fun K hK => ?_)
  go_wp2_with (go_at_call 6; (with_reducible refine (NW G1).mono ?_); rintro e w3 ⟨l2, rfl, G3, hm3, hl3⟩)
  clear x0 d3 d4
  have b3 : Blk w3 x 54 [.pointer (some ⟨r, 0, none⟩), .pointer (some ⟨p, 0, none⟩), .pointer (some ⟨h, 0, none⟩), .pointer (some ⟨l, 0, none⟩), .pointer (some ⟨m, 0, none⟩)] := HD1.bx.ext hm3
  iterate 5 (refine wpT_n rfl rfl (fun K hK => ?_); go_wp2_with fail)
  refine wpT_nil ?_
  go_wp2_with (with_reducible refine st_store ?_)
  refine StopOp.go rfl fun K hK => ?_
  refine wp_store1 (by kernel_rfl) (by rfl) (u := .pointer (some ⟨l2, 0, none⟩)) (by rfl) ⟨rfl, rfl⟩ b3 (by simp) ?_
  intro w4 hm4 hB4
  refine hK _ _ ?_
  clear hK K
  have G4 := (G3.perm (O2 := [(x, 54, wcC r p h l m), (t, 58, [.int .i64 9, .int .i64 n, .slice aob b.length capb, .int .u64 (ep : Nat), .int .u64 (sq : Nat), .slice aof F.length capf])]) (fun y hy => by simp at hy ⊢; rcases hy with h | h <;> simp [h])).setX (fun y hy => by simp at hy; subst hy; exact (by decide : (58 : TypeId) ≠ 54)) hm4 (show Blk w4 x 54 (wcC r p h l2 m) from hB4)
  clear hB4
  go_wp2_with fail
  refine wp_region_T [⟨0, true, []⟩, ⟨1, true, []⟩, ⟨2, true, []⟩, ⟨3, true, []⟩, ⟨4, true, []⟩, ⟨5, true, []⟩, ⟨6, true, []⟩, ⟨7, true, []⟩, ⟨8, true, []⟩, ⟨9, false, []⟩, ⟨10, true, []⟩, ⟨11, true, []⟩, ⟨12, false, []⟩] (by kernel_rfl) (by kernel_rfl) ?_
  have hmD2 := Mod.drew [] w4
  obtain ⟨xb, hx2⟩ : ∃ z, z = w4.drew := ⟨_, rfl⟩
  rw [← hx2] at hmD2 ⊢
  clear hx2
  have G5 := G4.ext hmD2
  have bx5 : Blk xb x 54 [.pointer (some ⟨r, 0, none⟩), .pointer (some ⟨p, 0, none⟩), .pointer (some ⟨h, 0, none⟩), .pointer (some ⟨l2, 0, none⟩), .pointer (some ⟨m, 0, none⟩)] := G5.B.blk 3 rfl
  have bt5 : Blk xb t 58 [.int .i64 9, .int .i64 n, .slice aob b.length capb, .int .u64 (ep : Nat), .int .u64 (sq : Nat), .slice aof F.length capf] := G5.B.blk 4 rfl
  have x2 := Blk.cell' bx5 (i := 2) rfl
  have d3 := bt5.cell' (i := 3) rfl
  have d4 := bt5.cell' (i := 4) rfl
  iterate 9 (refine wpT_n rfl rfl (fun K hK => ?_); go_wp2_with fail)
  refine wpT_call rfl rfl (fun K hK => ?_)
  go_wp2_with (go_at_call 17; (with_reducible refine (ND _).mono ?_); rintro e w6 ⟨m2, rfl, D6, hl6, hm6⟩)
  have G6 := (G5.new hm6 hl6 D6.b (by decide)).perm (O2 := (x, 54, wcC r p h l2 m) :: (m2, 69, dcC h ep sq (.slice none 0 0) 0) :: (t, 58, [.int .i64 9, .int .i64 n, .slice aob b.length capb, .int .u64 (ep : Nat), .int .u64 (sq : Nat), .slice aof F.length capf]) :: []) (fun y hy => by simp at hy ⊢; rcases hy with h | h | h <;> simp [h])
  have bx6 := bx5.ext hm6
  iterate 2 (refine wpT_n rfl rfl (fun K hK => ?_); go_wp2_with fail)
  refine wpT_e0 rfl rfl (fun K hK => ?_)
  refine wp_store1 (by kernel_rfl) (by rfl) (u := .pointer (some ⟨m2, 0, none⟩)) (by rfl) ⟨rfl, rfl⟩ bx6 (by simp) ?_
  intro w7 hm7 hB7
  refine hK _ _ ?_
  clear hK K
  refine wpT_nil ?_
  have G7 := (G6.setX (fun y hy => by
    simp at hy
    rcases hy with h | h
    · subst h; exact (by decide : (69 : TypeId) ≠ 54)
    · subst h; exact (by decide : (58 : TypeId) ≠ 54)) hm7 (show Blk w7 x 54 (wcC r p h l2 m2) from hB7)).perm (O2 := (m2, 69, dcC h ep sq (.slice none 0 0) 0) :: (x, 54, wcC r p h l2 m2) :: []) (fun y hy => by simp at hy ⊢; rcases hy with h | h <;> simp [h])
  go_wp2_with fail
  go_ret
  exact ⟨rfl, _, _, _, _, _, _, _, _, _, _, _, _, _, Wq.fresh G7 (fun y hy => nomatch hy) wep wsq, Tie.new ep sq, ⟨wep, wsq, wsq, Nat.zero_le _⟩, hz, hd, by omega, by omega⟩
set_option maxRecDepth 1000000 in
set_option maxHeartbeats 20000000 in
theorem Wq.plays0 {W w : World} {p q P Q : Nat} {v : Pv} {L M : List Nat} {l r h c : Nat} {bw : Value} {s : Ls} {x m : Nat} {fv : Value} {Kd : List Fi} {e f dn : Nat} {ls : List (List UInt8)} (H : Wq W w p q P Q v v L M l r h c bw s x m fv Kd e f dn ls []) (T : Tie s e f dn ls) (hok : LsOk s (c * 64)) (o : Wop) (ho : OkWop W o) (hk : o.k ≠ 1 ∧ o.k ≠ 2 ∧ o.k ≠ 3 ∧ o.k ≠ 4 ∧ o.k ≠ 5 ∧ o.k ≠ 6 ∧ o.k ≠ 7 ∧ o.k ≠ 8 ∧ o.k ≠ 9) (hT0 : TabC W) (hc1 : 1 ≤ c) (hc8 : c ≤ 8) (hz : v.m.sz = 64) (hd : v.m.dur.length = c + 1) (hn : v.n ≤ 400000) (hr : v.m.row.length ≤ 400000) :
    Calls Tryz.prog 18 #[.pointer (some ⟨x, 0, none⟩), o.val] w fun en w' => en = .returned (.bool true) ∧ StQ W w' x p q P Q r h c (v.n + 1100) (v.m.row.length + 600) := by
  obtain ⟨hb, hF, hold, wk, wn, wep, wsq, hbl, hfl⟩ := ho
  obtain ⟨k, n, bv0, b, ep, sq, fo, F⟩ := o
  dsimp only at hk hb hF hold wk wn wep wsq hbl hfl
  obtain ⟨aob, capb, rfl, _, _⟩ := hb.form
  obtain ⟨aof, capf, rfl, _, _⟩ := hF.form
  have hcl : (catB e f ls).length ≤ 512 := by have := T.u; have := hok.n; omega
  unfold Wop.val
  dsimp only
  obtain ⟨a1, a2, a3, a4, a5, a6, a7, a8, a9⟩ := hk
  have y1 : (k == 1) = false := beq_eq_false_iff_ne.2 a1
  have y2 : (k == 2) = false := beq_eq_false_iff_ne.2 a2
  have y3 : (k == 3) = false := beq_eq_false_iff_ne.2 a3
  have y4 : (k == 4) = false := beq_eq_false_iff_ne.2 a4
  have y5 : (k == 5) = false := beq_eq_false_iff_ne.2 a5
  have y6 : (k == 6) = false := beq_eq_false_iff_ne.2 a6
  have y7 : (k == 7) = false := beq_eq_false_iff_ne.2 a7
  have y8 : (k == 8) = false := beq_eq_false_iff_ne.2 a8
  have y9 : (k == 9) = false := beq_eq_false_iff_ne.2 a9
  clear a1 a2 a3 a4 a5 a6 a7 a8 a9
  go_enter Tryz.func18, Tryz.ntmps18
  go_wp2_with (with_reducible refine st_box ?_)
  refine StopOp.go rfl fun K hK => ?_
  refine wp_box (v := .agg #[.int .i64 k, .int .i64 n, .slice aob b.length capb, .int .u64 (ep : Nat), .int .u64 (sq : Nat), .slice aof F.length capf]) (by rfl) ?_
  intro t w1 ht1 ht2 hm1 hTT
  simp only [put_some, List.set_cons_succ, List.set_cons_zero]
  refine hK _ _ ?_
  clear hK K
  have H1 := H.new hm1 ht1 (show Blk w1 t 58 [.int .i64 k, .int .i64 n, .slice aob b.length capb, .int .u64 (ep : Nat), .int .u64 (sq : Nat), .slice aof F.length capf] from hTT) (by decide) (by decide) (by decide) (by decide)
  clear hTT ht2
  have d0 := H1.oB.cell' (i := 0) rfl
  go_wp2_with fail
  go_ret
  exact ⟨rfl, _, _, _, _, _, _, _, _, _, _, _, _, _, H1.tail, T, hok, hz, hd, by omega, by omega⟩
theorem StQ.mono {W w : World} {x p q P Q r h c n0 r0 n1 r1 : Nat} (S : StQ W w x p q P Q r h c n0 r0) (hn : n0 ≤ n1) (hr : r0 ≤ r1) : StQ W w x p q P Q r h c n1 r1 := by
  obtain ⟨v, L, M, l, bw, s, m, fv, Kd, e, f, dn, ls, a1, a2, a3, a4, a5, a6, a7⟩ := S
  exact ⟨v, L, M, l, bw, s, m, fv, Kd, e, f, dn, ls, a1, a2, a3, a4, a5, by omega, by omega⟩
theorem plays10_any {W w : World} {x p q P Q r h c n0 r0 : Nat} (S : StQ W w x p q P Q r h c n0 r0) (o : Wop) (ho : OkWop W o) (hT0 : TabC W) (hc1 : 1 ≤ c) (hc8 : c ≤ 8) (hn : n0 ≤ 400000) (hr : r0 ≤ 400000) :
    Calls Tryz.prog 18 #[.pointer (some ⟨x, 0, none⟩), o.val] w fun en w' => en = .returned (.bool true) ∧ StQ W w' x p q P Q r h c (n0 + 1100) (r0 + 600) := by
  obtain ⟨v, L, M, l, bw, s, m, fv, Kd, e, f, dn, ls, H, T, hok, hz, hd, hvn, hvr⟩ := S
  have key : Calls Tryz.prog 18 #[.pointer (some ⟨x, 0, none⟩), o.val] w fun en w' => en = .returned (.bool true) ∧ StQ W w' x p q P Q r h c (v.n + 1100) (v.m.row.length + 600) := by
    by_cases g1 : o.k = 1
    · exact Wq.plays1 H T hok o ho g1 hT0 hc1 hc8 hz hd (by omega) (by omega)
    by_cases g2 : o.k = 2
    · exact Wq.plays2 H T hok o ho g2 hT0 hc1 hc8 hz hd (by omega) (by omega)
    by_cases g3 : o.k = 3
    · exact Wq.plays3 H T hok o ho g3 hT0 hc1 hc8 hz hd (by omega) (by omega)
    by_cases g4 : o.k = 4
    · exact Wq.plays4 H T hok o ho g4 hT0 hc1 hc8 hz hd (by omega) (by omega)
    by_cases g5 : o.k = 5
    · exact Wq.plays5 H T hok o ho g5 hT0 hc1 hc8 hz hd (by omega) (by omega)
    by_cases g6 : o.k = 6
    · exact Wq.plays6 H T hok o ho g6 hT0 hc1 hc8 hz hd (by omega) (by omega)
    by_cases g7 : o.k = 7
    · exact Wq.plays7 H T hok o ho g7 hT0 hc1 hc8 hz hd (by omega) (by omega)
    by_cases g8 : o.k = 8
    · exact Wq.plays8 H T hok o ho g8 hT0 hc1 hc8 hz hd (by omega) (by omega)
    by_cases g9 : o.k = 9
    · exact Wq.plays9 H T hok o ho g9 hT0 hc1 hc8 hz hd (by omega) (by omega)
    exact Wq.plays0 H T hok o ho ⟨g1, g2, g3, g4, g5, g6, g7, g8, g9⟩ hT0 hc1 hc8 hz hd (by omega) (by omega)
  exact key.mono fun en w' hh => ⟨hh.1, hh.2.mono (by omega) (by omega)⟩
end Go.Proofs.YtfepggdljhiemaaGreatDoor

/-! WalPlays: stands. -/
namespace Go.Proofs.YtfepggdljhiemaaGreatDoor
open Go.RowKit Gw

set_option maxRecDepth 1000000 in
set_option maxHeartbeats 20000000 in
theorem Wq.stands {W w : World} {p q P Q : Nat} {v : Pv} {L M : List Nat} {l r h c : Nat} {bw : Value} {s : Ls} {x m : Nat} {fv : Value} {Kd : List Fi} {e f dn : Nat} {ls : List (List UInt8)} {O : List (Nat × TypeId × List Value)} (H : Wq W w p q P Q v v L M l r h c bw s x m fv Kd e f dn ls O) (T : Tie s e f dn ls) (hok : LsOk s (c * 64)) (hc8 : c ≤ 8) (hz : v.m.sz = 64) :
    Calls Tryz.prog 19 #[.pointer (some ⟨x, 0, none⟩)] w fun en w' => en = .returned (.bool true) ∧ Mod [] w w' := by
  have hus := hok.n
  have hnl := H.nl
  have hfl := H.fl
  have hdl := H.dl
  have hcl : (catB e f ls).length ≤ 512 := by have := T.u; omega
  have PE := fun {w} (H : Wq W w p q P Q v v L M l r h c bw s x m fv Kd e f dn ls O) => lEpoch_any l r bw s w H.G.lg
  have PL := fun {w} (H : Wq W w p q P Q v v L M l r h c bw s x m fv Kd e f dn ls O) => lLast_any l r bw s w H.G.lg
  have PD := fun {w} (H : Wq W w p q P Q v v L M l r h c bw s x m fv Kd e f dn ls O) => lDurable_any l r bw s w H.G.lg
  have PU := fun {w} (H : Wq W w p q P Q v v L M l r h c bw s x m fv Kd e f dn ls O) => lUsed_any l r bw s w H.G.lg (by omega)
  have PR := fun {w} (H : Wq W w p q P Q v v L M l r h c bw s x m fv Kd e f dn ls O) => lRoom_any l r p c bw s w H.G.lg H.G.rg hus (by omega)
  have DL := fun {w} (H : Wq W w p q P Q v v L M l r h c bw s x m fv Kd e f dn ls O) => dLastQ m h W.heap.size fv Kd e f dn ls w H.dq
  have DD := fun {w} (H : Wq W w p q P Q v v L M l r h c bw s x m fv Kd e f dn ls O) => dDurable_any m h W.heap.size fv Kd e f dn w H.dq.g (by omega) (by omega)
  have DU := fun {w} (H : Wq W w p q P Q v v L M l r h c bw s x m fv Kd e f dn ls O) => dUsed_any m h W.heap.size fv Kd e f dn ls w H.dq
  have DR := fun {w} (H : Wq W w p q P Q v v L M l r h c bw s x m fv Kd e f dn ls O) => dRoom_any m h W.heap.size P Q c v M fv Kd e f dn ls w H.dq H.G.rh H.G.B.E hz (by omega) (by omega)
  rw [T.e] at PE
  rw [← T.r.t] at DL
  rw [← T.r.d] at DD
  rw [← T.u] at DU DR
  have CO := fun {w} (H : Wq W w p q P Q v v L M l r h c bw s x m fv Kd e f dn ls O) => pCount_any p q v w H.G.B.D.b
  have CQ := fun {w} (H : Wq W w p q P Q v v L M l r h c bw s x m fv Kd e f dn ls O) => qCount_any P Q v w H.G.B.E.b
  have WO := fun {w} (H : Wq W w p q P Q v v L M l r h c bw s x m fv Kd e f dn ls O) => pWaiting_any p q v L w H.G.B.D
  have WQ := fun {w} (H : Wq W w p q P Q v v L M l r h c bw s x m fv Kd e f dn ls O) => qWaiting_any P Q v M w H.G.B.E
  have DO := fun {w} (H : Wq W w p q P Q v v L M l r h c bw s x m fv Kd e f dn ls O) => pDown_any p q v w H.G.B.D.b
  have DQ := fun {w} (H : Wq W w p q P Q v v L M l r h c bw s x m fv Kd e f dn ls O) => qDown_any P Q v w H.G.B.E.b
  obtain ⟨tt, htt⟩ : ∃ n, n = s.t := ⟨_, rfl⟩
  obtain ⟨dd, hdd⟩ : ∃ n, n = s.d := ⟨_, rfl⟩
  obtain ⟨uu, huu⟩ : ∃ n, n = s.u := ⟨_, rfl⟩
  obtain ⟨rr, hrr⟩ : ∃ n : Int, n = ((c * 64 : Nat) : Int) - (uu : Nat) := ⟨_, rfl⟩
  simp only [← htt, ← hdd, ← huu, ← hrr] at PL PD PU PR DL DD DU DR
  obtain ⟨nn, hnn⟩ : ∃ n, n = v.n := ⟨_, rfl⟩
  obtain ⟨ro, hro⟩ : ∃ n, n = v.m.row.length := ⟨_, rfl⟩
  obtain ⟨oo, hoo⟩ : ∃ n, n = v.off := ⟨_, rfl⟩
  simp only [← hnn] at CO CQ
  simp only [← hro] at WO WQ
  simp only [← hoo] at DO DQ
  clear htt hdd huu hrr hnn hro hoo hus hnl hfl hdl hcl
  go_enter Tryz.func19, Tryz.ntmps19
  go_wp2_with fail
  refine wp_region_T [⟨0, true, []⟩, ⟨1, true, []⟩, ⟨2, true, []⟩, ⟨3, true, []⟩, ⟨4, true, []⟩, ⟨5, true, []⟩, ⟨6, true, []⟩, ⟨7, true, []⟩, ⟨8, true, []⟩, ⟨9, true, []⟩] (by kernel_rfl) (by kernel_rfl) ?_
  have hmD1 := Mod.drew [] w
  obtain ⟨xa, hx1⟩ : ∃ z, z = w.drew := ⟨_, rfl⟩
  rw [← hx1] at hmD1 ⊢
  clear hx1
  have HD1 := H.ext hmD1
  have x3 := Blk.cell' HD1.bx (i := 3) rfl
  have x4 := Blk.cell' HD1.bx (i := 4) rfl
  iterate 10 (refine wpT_n rfl rfl (fun K hK => ?_); go_wp2_with fail)
  refine wpT_nil ?_
  go_wp2_with fail
  refine wp_region_T [⟨0, true, []⟩, ⟨2, true, []⟩, ⟨3, true, []⟩, ⟨4, true, []⟩, ⟨5, true, []⟩, ⟨1, false, [3, 5]⟩, ⟨6, true, []⟩, ⟨7, true, []⟩, ⟨8, true, []⟩, ⟨10, true, []⟩, ⟨9, false, []⟩, ⟨11, false, []⟩, ⟨12, true, []⟩, ⟨13, true, []⟩, ⟨14, true, []⟩, ⟨15, true, []⟩, ⟨17, true, []⟩, ⟨16, false, []⟩, ⟨18, false, []⟩, ⟨19, true, []⟩, ⟨20, true, []⟩, ⟨21, true, []⟩, ⟨22, true, []⟩, ⟨24, true, []⟩, ⟨23, false, []⟩, ⟨25, false, []⟩, ⟨26, true, []⟩, ⟨27, true, []⟩, ⟨28, true, []⟩, ⟨29, true, []⟩, ⟨31, true, []⟩, ⟨30, false, []⟩, ⟨32, false, []⟩, ⟨33, true, []⟩, ⟨34, true, []⟩] (by kernel_rfl) (by kernel_rfl) ?_
  have hmD2 := Mod.drew [] xa
  obtain ⟨xb, hx2⟩ : ∃ z, z = xa.drew := ⟨_, rfl⟩
  rw [← hx2] at hmD2 ⊢
  clear hx2
  have HD2 := HD1.ext hmD2
  have m1 := Blk.cell' HD2.bm (i := 1) rfl
  iterate 5 (refine wpT_n rfl rfl (fun K hK => ?_); go_wp2_with fail)
  refine wpT_callh rfl rfl (fun K hK => ?_)
  go_wp2_with (go_at_call 58; (with_reducible refine (PE HD2).mono ?_); rintro e w2 ⟨rfl, rfl⟩)
  refine ⟨agains_same, ?_⟩
  iterate 2 (refine wpT_n rfl rfl (fun K hK => ?_); go_wp2_with fail)
  iterate 2 (refine wpT_gq (gi := 7) rfl rfl rfl rfl rfl (fun K hK => ?_); go_wp2_with fail)
  refine wpT_gcall (gi := 7) rfl rfl rfl rfl (fun K hK => ?_)
  go_wp2_with (go_at_call 59; (with_reducible refine (PL HD2).mono ?_); rintro e w2 ⟨rfl, rfl⟩)
  refine wpT_gcall (gi := 7) rfl rfl rfl rfl (fun K hK => ?_)
  go_wp2_with (go_at_call 60; (with_reducible refine (DL HD2).mono ?_); rintro e w3 ⟨rfl, hm3⟩)
  have H3 := HD2.ext hm3
  refine wpT_gq (gi := 7) rfl rfl rfl rfl rfl (fun K hK => ?_)
  go_wp2_with fail
  iterate 2 (refine wpT_n rfl rfl (fun K hK => ?_); go_wp2_with fail)
  iterate 2 (refine wpT_gq (gi := 14) rfl rfl rfl rfl rfl (fun K hK => ?_); go_wp2_with fail)
  refine wpT_gcall (gi := 14) rfl rfl rfl rfl (fun K hK => ?_)
  go_wp2_with (go_at_call 49; (with_reducible refine (PD H3).mono ?_); rintro e w4 ⟨rfl, rfl⟩)
  refine wpT_gcall (gi := 14) rfl rfl rfl rfl (fun K hK => ?_)
  go_wp2_with (go_at_call 61; (with_reducible refine (DD H3).mono ?_); rintro e w4 ⟨rfl, hm4⟩)
  have H4 := H3.ext hm4
  refine wpT_gq (gi := 14) rfl rfl rfl rfl rfl (fun K hK => ?_)
  go_wp2_with fail
  iterate 2 (refine wpT_n rfl rfl (fun K hK => ?_); go_wp2_with fail)
  iterate 2 (refine wpT_gq (gi := 21) rfl rfl rfl rfl rfl (fun K hK => ?_); go_wp2_with fail)
  refine wpT_gcall (gi := 21) rfl rfl rfl rfl (fun K hK => ?_)
  go_wp2_with (go_at_call 48; (with_reducible refine (PU H4).mono ?_); rintro e w5 ⟨rfl, hm5⟩)
  have H5 := H4.ext hm5
  refine wpT_gcall (gi := 21) rfl rfl rfl rfl (fun K hK => ?_)
  go_wp2_with (go_at_call 62; (with_reducible refine (DU H5).mono ?_); rintro e w6 ⟨rfl, hm6⟩)
  have H6 := H5.ext hm6
  refine wpT_gq (gi := 21) rfl rfl rfl rfl rfl (fun K hK => ?_)
  go_wp2_with fail
  iterate 2 (refine wpT_n rfl rfl (fun K hK => ?_); go_wp2_with fail)
  iterate 2 (refine wpT_gq (gi := 28) rfl rfl rfl rfl rfl (fun K hK => ?_); go_wp2_with fail)
  refine wpT_gcall (gi := 28) rfl rfl rfl rfl (fun K hK => ?_)
  go_wp2_with (go_at_call 63; (with_reducible refine (PR H6).mono ?_); rintro e w7 ⟨rfl, hm7⟩)
  have H7 := H6.ext hm7
  refine wpT_gcall (gi := 28) rfl rfl rfl rfl (fun K hK => ?_)
  go_wp2_with (go_at_call 64; (with_reducible refine (DR H7).mono ?_); rintro e w8 ⟨rfl, hm8⟩)
  have H8 := H7.ext hm8
  refine wpT_gq (gi := 28) rfl rfl rfl rfl rfl (fun K hK => ?_)
  go_wp2_with fail
  refine wpT_n rfl rfl (fun K hK => ?_)
  go_wp2_with fail
  refine wpT_nil ?_
  go_wp2_with fail
  clear x3 x4 m1
  refine wp_region_T [⟨0, true, []⟩, ⟨1, true, []⟩, ⟨2, true, []⟩, ⟨3, true, []⟩, ⟨5, true, []⟩, ⟨6, true, []⟩, ⟨7, true, []⟩, ⟨8, true, []⟩, ⟨9, true, []⟩, ⟨10, true, []⟩, ⟨11, true, []⟩, ⟨4, false, [6, 8, 9, 11]⟩, ⟨12, false, []⟩, ⟨13, true, []⟩, ⟨14, true, []⟩, ⟨15, true, []⟩, ⟨16, true, []⟩, ⟨17, true, []⟩, ⟨18, true, []⟩, ⟨20, true, []⟩, ⟨21, true, []⟩, ⟨22, true, []⟩, ⟨23, true, []⟩, ⟨24, true, []⟩, ⟨25, true, []⟩, ⟨26, true, []⟩, ⟨19, false, [21, 23, 24, 26]⟩, ⟨27, false, []⟩, ⟨28, true, []⟩, ⟨29, true, []⟩, ⟨30, true, []⟩, ⟨31, true, []⟩, ⟨32, true, []⟩, ⟨33, true, []⟩, ⟨34, true, []⟩, ⟨36, true, []⟩, ⟨37, true, []⟩, ⟨38, true, []⟩, ⟨39, true, []⟩, ⟨40, true, []⟩, ⟨41, true, []⟩, ⟨42, true, []⟩, ⟨35, false, [37, 39, 40, 42]⟩, ⟨43, false, []⟩, ⟨44, true, []⟩, ⟨45, true, []⟩, ⟨46, true, []⟩] (by kernel_rfl) (by kernel_rfl) ?_
  have hmD4 := Mod.drew [] w8
  obtain ⟨xc, hx4⟩ : ∃ z, z = w8.drew := ⟨_, rfl⟩
  rw [← hx4] at hmD4 ⊢
  clear hx4
  have HD4 := H8.ext hmD4
  have x1 := Blk.cell' HD4.bx (i := 1) rfl
  have x2 := Blk.cell' HD4.bx (i := 2) rfl
  have h0 := Blk.cell' HD4.bh (i := 0) rfl
  iterate 11 (refine wpT_n rfl rfl (fun K hK => ?_); go_wp2_with fail)
  refine wpT_callh rfl rfl (fun K hK => ?_)
  go_wp2_with (go_at_call 65; (with_reducible refine (CO HD4).mono ?_); rintro e wa ⟨rfl, rfl⟩)
  refine ⟨agains_same, ?_⟩
  refine wpT_call rfl rfl (fun K hK => ?_)
  go_wp2_with (go_at_call 66; (with_reducible refine (CQ HD4).mono ?_); rintro e wa ⟨rfl, rfl⟩)
  iterate 2 (refine wpT_n rfl rfl (fun K hK => ?_); go_wp2_with fail)
  iterate 11 (refine wpT_gq (gi := 14) rfl rfl rfl rfl rfl (fun K hK => ?_); go_wp2_with fail)
  refine wpT_gcallh (gi := 14) rfl rfl rfl rfl (fun K hK => ?_)
  go_wp2_with (go_at_call 67; (with_reducible refine (WO HD4).mono ?_); rintro e wa ⟨rfl, rfl⟩)
  refine ⟨agains_same, ?_⟩
  refine wpT_gcall (gi := 14) rfl rfl rfl rfl (fun K hK => ?_)
  go_wp2_with (go_at_call 68; (with_reducible refine (WQ HD4).mono ?_); rintro e wa ⟨rfl, rfl⟩)
  refine wpT_gq (gi := 14) rfl rfl rfl rfl rfl (fun K hK => ?_)
  go_wp2_with fail
  iterate 2 (refine wpT_n rfl rfl (fun K hK => ?_); go_wp2_with fail)
  iterate 11 (refine wpT_gq (gi := 30) rfl rfl rfl rfl rfl (fun K hK => ?_); go_wp2_with fail)
  refine wpT_gcallh (gi := 30) rfl rfl rfl rfl (fun K hK => ?_)
  go_wp2_with (go_at_call 69; (with_reducible refine (DO HD4).mono ?_); rintro e wa ⟨rfl, rfl⟩)
  refine ⟨agains_same, ?_⟩
  refine wpT_gcall (gi := 30) rfl rfl rfl rfl (fun K hK => ?_)
  go_wp2_with (go_at_call 70; (with_reducible refine (DQ HD4).mono ?_); rintro e wa ⟨rfl, rfl⟩)
  refine wpT_gq (gi := 30) rfl rfl rfl rfl rfl (fun K hK => ?_)
  go_wp2_with fail
  iterate 2 (refine wpT_n rfl rfl (fun K hK => ?_); go_wp2_with fail)
  refine wpT_nil ?_
  go_wp2_with fail
  go_ret
  exact ⟨rfl, (((((((hmD1.ext hmD2).ext hm3).ext hm4).ext hm5).ext hm6).ext hm7).ext hm8).ext hmD4⟩
end Go.Proofs.YtfepggdljhiemaaGreatDoor

/-! WalPlays. -/
namespace Go.Proofs.YtfepggdljhiemaaGreatDoor
open Go.RowKit Gw

theorem OkWop.ext {w w' : World} {o : Wop} (h : OkWop w o) (hm : Mod [] w w') : OkWop w' o :=
  ⟨Sl.ext h.bs hm, h.fs.far hm (by simp), fun h0 b hb => Nat.lt_of_lt_of_le (h.old h0 b hb) hm.size, h.k, h.n, h.ep, h.sq, h.b, h.f⟩
/-- a script -/
def Wops (w : World) (v : Value) (os : List Wop) : Prop := Sl w 6 v os.length (os.flatMap Wop.cells) ∧ ∀ o ∈ os, OkWop w o
theorem wlen6 : ∀ os : List Wop, (os.flatMap Wop.cells).length = os.length * 6
  | [] => rfl
  | o :: os => by
    rw [List.flatMap_cons, List.length_append, wlen6 os, List.length_cons]
    show 6 + os.length * 6 = _
    omega
theorem wflat_at6 : ∀ (os : List Wop) (i j : Nat) (hi : i < os.length) (hj : j < 6), (os.flatMap Wop.cells)[i * 6 + j]? = (os[i].cells)[j]?
  | o :: os, 0, j, _, hj => by
    rw [List.flatMap_cons, Nat.zero_mul, Nat.zero_add, List.getElem?_append_left (show j < o.cells.length from hj)]
    rfl
  | o :: os, i + 1, j, hi, hj => by
    have := wflat_at6 os i j (by simpa using hi) hj
    rw [List.flatMap_cons, List.getElem?_append_right (by show 6 ≤ _; omega)]
    simp only [List.getElem_cons_succ]
    rw [← this]
    congr 1
    show (i + 1) * 6 + j - 6 = _
    omega
theorem Wops.elem {w : World} {ao : Option Addr} {n cap : Nat} {os : List Wop} (h : Sl w 6 (.slice ao n cap) os.length (os.flatMap Wop.cells)) {i : Nat} (hi : i < os.length) :
    ∃ b o, ao = some ⟨b, o, none⟩ ∧ w.rangeAt b (o + i * 6) os[i].cells := by
  obtain ⟨b, o, c, hv, _, _, hc⟩ := Sl.at h (fun h0 => by
    have := wflat_at6 os i 0 hi (by omega)
    rw [h0] at this
    simp [Wop.cells] at this)
  injection hv with e1
  refine ⟨b, o, e1, fun j u hu => ?_⟩
  have hj : j < 6 := by have := (List.getElem?_eq_some_iff.1 hu).1; simpa [Wop.cells] using this
  have := hc (i * 6 + j) u (by rw [wflat_at6 os i j hi hj]; exact hu)
  rwa [← Nat.add_assoc] at this
theorem stands10_any {W w : World} {x p q P Q r h c n0 r0 : Nat} (S : StQ W w x p q P Q r h c n0 r0) (hc8 : c ≤ 8) :
    Calls Tryz.prog 19 #[.pointer (some ⟨x, 0, none⟩)] w fun en w' => en = .returned (.bool true) ∧ StQ W w' x p q P Q r h c n0 r0 := by
  obtain ⟨v, L, M, l, bw, s, m, fv, Kd, e, f, dn, ls, H, T, hok, hz, hd, hvn, hvr⟩ := S
  exact (H.stands T hok hc8 hz).mono fun en w' hh => ⟨hh.1, v, L, M, l, bw, s, m, fv, Kd, e, f, dn, ls, H.ext hh.2, T, hok, hz, hd, hvn, hvr⟩
set_option maxRecDepth 1000000 in
set_option maxHeartbeats 20000000 in
theorem walPlays_core (s_ : Int) (e0 f0 : Nat) (sv : Value) (os : List Wop) (W : World) (ws : i64 s_) (he : e0 < 18446744073709551616) (hf : f0 < 18446744073709551616) (hs : Wops W sv os) (hT : TabC W) :
    Calls Tryz.prog 4 #[.int .i64 s_, .int .u64 (e0 : Nat), .int .u64 (f0 : Nat), sv] W fun e w' => e = .returned (.bool true) ∧ Mod [] W w' := by
  obtain ⟨hs1, hs2⟩ := hs
  obtain ⟨aos, caps, rfl, hcs, hcs2⟩ := hs1.form
  have AW := fun w h => walake_any w h
  have PL := fun w => place_any s_ w ws
  obtain ⟨hc1, hc8⟩ := cP_le s_
  obtain ⟨c, hc⟩ : ∃ c, c = cP s_ := ⟨_, rfl⟩
  rw [← hc] at PL hc1 hc8
  clear hc
  unfold PlaceP at PL
  have hv1 : (dvW c).m.sz = 64 := rfl
  have hv2 : (dvW c).m.dur.length = c + 1 := by show (List.replicate (c + 1) (zeros 64)).length = _; rw [List.length_replicate]
  have hv3 : (dvW c).n = 0 := rfl
  have hv4 : (dvW c).m.row.length = 0 := rfl
  obtain ⟨v0, hv0⟩ : ∃ v, v = dvW c := ⟨_, rfl⟩
  rw [← hv0] at PL hv1 hv2 hv3 hv4
  clear hv0
  have NW := fun {w r p q P Q h L M} (B : Bw W w p q P Q v0 v0 L M (wO0 r h p P c)) => Wg.newAny B e0 f0 hc1 (by omega)
  have ND := fun h w => dnew_any10 h e0 f0 w
  obtain ⟨J, hJ⟩ : ∃ N, N = min os.length 200 := ⟨_, rfl⟩
  have HN := Lib.hid hJ
  clear hJ
  have HV := Lib.hid (And.intro hv1 (And.intro hv2 (And.intro hv3 hv4)))
  clear hv1 hv2 hv3 hv4
  go_enter Tryz.func4, Tryz.ntmps4
  go_wp2_with (first
                | (with_reducible refine st_box ?_)
                | (go_at_call 5; (with_reducible refine (PL _).mono ?_); rintro e w1 ⟨r, p, q, L0, h, P, Q, M0, rfl, B1⟩)
                | (go_at_call 6; (with_reducible refine (NW B1).mono ?_); rintro e w2 ⟨l, rfl, G2, hm2, hl2⟩)
                | (go_at_call 17; (with_reducible refine (ND _ _).mono ?_); rintro e w3 ⟨m, rfl, D3, hl3, hm3⟩))
  refine StopOp.go rfl fun K hK => ?_
  refine wp_box (v := .agg #[.pointer (some ⟨r, 0, none⟩), .pointer (some ⟨p, 0, none⟩), .pointer (some ⟨h, 0, none⟩), .pointer (some ⟨l, 0, none⟩), .pointer (some ⟨m, 0, none⟩)]) (by rfl) ?_
  intro x w4 hx1 hx2 hm4 hXX
  simp only [put_some, List.set_cons_succ, List.set_cons_zero]
  refine hK _ _ ?_
  clear hK K
  have H4 := Wq.fresh (((G2.new hm3 hl3 D3.b (by decide)).new hm4 hx1 (show Blk w4 x 54 (wcC r p h l m) from hXX) (by decide)).perm (O2 := (m, 69, dcC h e0 f0 (.slice none 0 0) 0) :: (x, 54, wcC r p h l m) :: []) (fun y hy => by simp at hy ⊢; rcases hy with h | h <;> simp [h])) (fun y hy => nomatch hy) he hf
  have S4 : StQ W w4 x p q P Q r h c 0 0 := ⟨v0, L0, M0, l, _, _, m, _, _, e0, f0, 0, [], H4, Tie.new e0 f0, ⟨he, hf, hf, Nat.zero_le _⟩, HV.out.1, HV.out.2.1, by have := HV.out.2.2.1; omega, by have := HV.out.2.2.2; omega⟩
  clear H4 hXX hm4 hx1 hx2 D3 hl3 hm3 G2 hm2 hl2 B1 ND NW HV PL
  go_wp2_with fail
  go_loopw [16] (fun iv wr => ∃ (j : Nat), iv = .int .i64 j ∧ j ≤ J ∧ StQ W wr x p q P Q r h c (1100 * j) (600 * j)) (fun iv _ => J - (intOf iv).toNat)
  case atStart => exact ⟨0, rfl, Nat.zero_le _, S4⟩
  case round =>
    clear S4
    obtain ⟨j, rfl, hj, SR⟩ := hrel
    have hJ2 : J ≤ 200 := by have := HN.out; omega
    obtain ⟨cc, hcc⟩ : ∃ c, c = decide (j < J) := ⟨_, rfl⟩
    have HC := Lib.hid hcc
    clear hcc
    go_upto_region 7 with fail
    go_cut [58] (fun u wx => u = .bool cc ∧ wr = wx)
    case first =>
      by_cases h1 : j < os.length
      · have y1 : (j : Int) < os.length := by omega
        by_cases h2 : j < 200
        · have y2 : (j : Int) < 200 := by omega
          go_wp2_with fail
          go_meet
          exact ⟨by rw [HC.out, decide_eq_true (show j < J by have := HN.out; omega)]; try (simp; omega), rfl⟩
        · have y2 : (200 : Int) ≤ j := by omega
          go_wp2_with fail
          go_meet
          exact ⟨by rw [HC.out, decide_eq_false (show ¬ j < J by have := HN.out; omega)]; try (simp; omega), rfl⟩
      · have y1 : (os.length : Int) ≤ j := by omega
        go_wp2_with fail
        go_meet
        exact ⟨by rw [HC.out, decide_eq_false (show ¬ j < J by have := HN.out; omega)]; try (simp; omega), rfl⟩
    case rest =>
    obtain ⟨rfl, rfl⟩ := hcut
    cases cc with
    | true =>
      have hlt : j < J := of_decide_eq_true HC.out.symm
      have hjo : j < os.length := by have := HN.out; omega
      have y1 : (j : Int) < os.length := by omega
      clear HC
      have hMr : Mod [] W wr := by obtain ⟨_, _, _, _, _, _, _, _, _, _, _, _, _, H, _⟩ := SR; exact H.G.B.m
      obtain ⟨bb, oo, rfl, hcr⟩ := Wops.elem (Sl.ext hs1 hMr) hjo
      have hop := hs2 _ (List.getElem_mem hjo)
      obtain ⟨op, hop'⟩ : ∃ op, op = os[j] := ⟨_, rfl⟩
      rw [← hop'] at hcr hop
      clear hop'
      have PP := fun w (S : StQ W w x p q P Q r h c (1100 * j) (600 * j)) => plays10_any S op hop hT hc1 hc8 (by omega) (by omega)
      have ST := fun w (S : StQ W w x p q P Q r h c (1100 * j + 1100) (600 * j + 600)) => stands10_any S hc8
      obtain ⟨gk, gn, gbv, gb, gep, gsq, gfo, gF⟩ := op
      obtain ⟨aof, capf, hfv, _, _⟩ := hop.fs.form
      obtain ⟨aob, capb, hbv, _, _⟩ := hop.bs.form
      dsimp only at hfv hbv
      subst hfv
      subst hbv
      unfold Wop.val at PP
      dsimp only at PP
      unfold Wop.cells at hcr
      dsimp only at hcr
      have q0 := hcr 0 _ rfl
      have q1 := hcr 1 _ rfl
      have q2 := hcr 2 _ rfl
      have q3 := hcr 3 _ rfl
      have q4 := hcr 4 _ rfl
      have q5 := hcr 5 _ rfl
      rw [Nat.add_zero] at q0
      clear hcr hop
      go_wp2_with (first
                    | (go_at_call 18; (with_reducible refine (PP _ SR).mono ?_); rintro e w5 ⟨rfl, S5⟩)
                    | (go_at_call 19; (with_reducible refine (ST _ S5).mono ?_); rintro e w6 ⟨rfl, S6⟩))
      go_roundw
      case rel => exact ⟨j + 1, by go_num, by omega, S6.mono (by omega) (by omega)⟩
      case measure => simp [intOf]; omega
    | false =>
      clear HC
      obtain ⟨v, L, M, l, bw, s, m, fv, Kd, e, f, dn, ls, H, T, hok, hz, hd, hvn, hvr⟩ := SR
      have hel := H.el
      have hfl := H.fl
      have hff : f < 18446744073709551616 := by omega
      have RE := fun w h => pRestart_any p q v L [] (.slice none 0 0) w h (by omega) (Sl.nil w 2) (fun h0 => absurd rfl h0)
      have RQ := fun w h => qRestart_any P Q v M [] (.slice none 0 0) w h (by omega) (Sl.nil w 2) (fun h0 => absurd rfl h0)
      obtain ⟨s1, s2, s3, s4⟩ := re_sz v []
      obtain ⟨V, hV⟩ : ∃ V, V = v.re [] := ⟨_, rfl⟩
      rw [← hV] at RE RQ s1 s2 s3 s4
      rw [hz] at s1
      rw [hd] at s2
      have SC := fun {w L M} (H : Wq W w p q P Q V V L M l r h c bw s x m fv Kd e f dn ls []) => H.scans e f hT hc8 hc1 s1 s2 (by omega) hel hff
      have IM := fun {w L M} (H : Wq W w p q P Q V V L M l r h c bw s x m fv Kd e f dn ls []) => pImage_any p q V L w H.G.B.D
      have IQ := fun {w L M} (H : Wq W w p q P Q V V L M l r h c bw s x m fv Kd e f dn ls []) => qImage_any P Q V M w H.G.B.E
      unfold ImgPost at IM IQ
      clear hV T hok hz hd hvn hvr hfl s1 s2 s3 s4 hj hJ2
      have x1 := Blk.cell' H.bx (i := 1) rfl
      have DD := H.G.B.D
      go_wp2_with (first
                    | (go_at_call 20; (with_reducible refine (RE _ DD).mono ?_); rintro e w5 ⟨rfl, hP5⟩; obtain ⟨L5, H5, hm5⟩ := H.dt hP5; have EE := H5.G.B.E; have x2 := Blk.cell' H5.bx (i := 2) rfl; have h0 := Blk.cell' H5.bh (i := 0) rfl)
                    | (go_at_call 21; (with_reducible refine (RQ _ EE).mono ?_); rintro e w6 ⟨rfl, hP6⟩))
      obtain ⟨M6, H6, hm6⟩ := H5.rt hP6
      clear x1 x2 h0
      refine wp_region_T [⟨0, true, []⟩, ⟨1, true, []⟩, ⟨2, true, []⟩, ⟨3, true, []⟩, ⟨5, true, []⟩, ⟨6, true, []⟩, ⟨7, true, []⟩, ⟨8, true, []⟩, ⟨9, true, []⟩, ⟨10, true, []⟩, ⟨11, true, []⟩, ⟨4, false, [6, 8, 9, 11]⟩, ⟨12, false, []⟩, ⟨13, false, []⟩, ⟨14, true, []⟩, ⟨15, true, []⟩, ⟨16, true, []⟩, ⟨17, true, []⟩, ⟨18, true, []⟩, ⟨19, true, []⟩, ⟨20, true, []⟩, ⟨21, true, []⟩, ⟨22, true, []⟩, ⟨23, true, []⟩, ⟨24, true, []⟩, ⟨25, true, []⟩, ⟨26, true, []⟩, ⟨27, true, []⟩, ⟨28, true, []⟩, ⟨29, true, []⟩, ⟨30, false, []⟩, ⟨31, true, []⟩, ⟨32, true, []⟩, ⟨33, false, []⟩, ⟨34, true, []⟩, ⟨35, true, []⟩] (by kernel_rfl) (by kernel_rfl) ?_
      have hmD := Mod.drew [] w6
      obtain ⟨xa, hxa⟩ : ∃ z, z = w6.drew := ⟨_, rfl⟩
      rw [← hxa] at hmD ⊢
      clear hxa
      have H7 := H6.ext hmD
      have x1 := Blk.cell' H7.bx (i := 1) rfl
      have x2 := Blk.cell' H7.bx (i := 2) rfl
      have h0 := Blk.cell' H7.bh (i := 0) rfl
      iterate 11 (refine wpT_n rfl rfl (fun K hK => ?_); go_wp2_with fail)
      refine wpT_callh rfl rfl (fun K hK => ?_)
      go_wp2_with (go_at_call 23; (with_reducible refine (IM H7).mono ?_); rintro e w8 ⟨va, dq1, rfl, hR1, hq1, hm8⟩)
      refine ⟨(agains_cons rfl (again_const (fun _ => rfl)) (agains_cons rfl (again_load rfl rfl (hm8.block _ H7.bx.lt (by simp)) H7.bx.kinds) (agains_cons rfl (again_const (fun _ => rfl)) (agains_cons rfl (again_load rfl rfl (hm8.block _ H7.bh.lt (by simp)) H7.bh.kinds) agains_nil)))), ?_⟩
      have H8 := H7.ext hm8
      refine wpT_call rfl rfl (fun K hK => ?_)
      go_wp2_with (go_at_call 24; (with_reducible refine (IQ H8).mono ?_); rintro e w9 ⟨vb, dq2, rfl, hR2, hq2, hm9⟩)
      have H9 := H8.ext hm9
      refine wpT_call rfl rfl (fun K hK => ?_)
      go_wp2_with (go_at_call 22; (with_reducible refine (sameRows_yes dq1 dq2 _ _ _ (hR1.ext hm9).r hR2.r (hq1.trans hq2.symm)).mono ?_); rintro e wa ⟨rfl, hma⟩)
      have Ha := H9.ext hma
      clear x1 x2 h0
      have x4 := Blk.cell' Ha.bx (i := 4) rfl
      have m1 := Blk.cell' Ha.bm (i := 1) rfl
      have m2 := Blk.cell' Ha.bm (i := 2) rfl
      refine wpT_n rfl rfl (fun K hK => ?_)
      go_wp2_with fail
      iterate 15 (refine wpT_gq (gi := 14) rfl rfl rfl rfl rfl (fun K hK => ?_); go_wp2_with fail)
      refine wpT_gcall (gi := 14) rfl rfl rfl rfl (fun K hK => ?_)
      go_wp2_with (go_at_call 25; (with_reducible refine (SC Ha).mono ?_); rintro e wb ⟨rfl, Hb⟩)
      have hTb := hT.ext Hb.G.B.m
      iterate 2 (refine wpT_n rfl rfl (fun K hK => ?_); go_wp2_with fail)
      refine wpT_gcall (gi := 32) rfl rfl rfl rfl (fun K hK => ?_)
      go_wp2_with (go_at_call 16; (with_reducible refine (AW _ hTb).mono ?_); rintro e wc ⟨rfl, hmc⟩)
      iterate 2 (refine wpT_n rfl rfl (fun K hK => ?_); go_wp2_with fail)
      refine wpT_nil ?_
      go_wp2_with fail
      go_ret
      exact ⟨rfl, Hb.G.B.m.ext hmc⟩
end Go.Proofs.YtfepggdljhiemaaGreatDoor
