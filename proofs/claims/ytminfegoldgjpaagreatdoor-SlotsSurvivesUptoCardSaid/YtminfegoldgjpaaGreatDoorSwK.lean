import Derived.Test.YtminfegoldgjpaaGreatDoorSwJ
set_option linter.unusedVariables false
set_option linter.unusedSimpArgs false
set_option maxRecDepth 100000
namespace Go.Proofs.YtminfegoldgjpaaGreatDoor
open Go.RowKit Gw
section
variable {W w : World} {x p q P Q s r a b h k f0 f1 c : Nat} {v u : Pv} {L M : List Nat} {O : List (Nat × TypeId × List Value)}
def LoadB (W w : World) (p q P Q : Nat) (u : Pv) (L M : List Nat) (O : List (Nat × TypeId × List Value)) (R : Ld5) (e : Ending) (w' : World) : Prop :=
 ∃ bw, e = .returned (.tuple #[R.h.v, bw, .int .i64 R.i, .int .i64 R.e]) ∧ Ob w' bw R.b ∧ New w bw ∧ Bw W w' p q P Q R.v u L M O ∧ Mod [p] w w'
theorem Bw.load (H : Bw W w p q P Q v u L M O) (hO : ∀ y ∈ osB x p P s r a b h k f0 f1 c, y ∈ O) (hT : TabC W) (hz : v.m.sz = 64) (hd : v.m.dur.length = 10) (h0 : f0 + c ≤ 10) (h1 : f1 + c ≤ 10) (hn : v.n ≤ 900000) :
   Calls Tryz.prog 12 #[.pointer (some ⟨s, 0, none⟩)] w (LoadB W w p q P Q u L M O (loadG f0 f1 c 64 v)) := by
 have H0 := H.sub hO
 have hS : Sls w s a b := H0.blk 1 rfl
 have hA : Rgn w a p f0 c 64 := H0.blk 3 rfl
 have hB : Rgn w b p f1 c 64 := H0.blk 4 rfl
 have key : ∀ {g : Nat}, g ∉ p :: L → g ≠ p := fun hg e => hg (e ▸ List.mem_cons_self)
 refine (sload_any s a b p q f0 f1 c 64 v L w hS H.D hA hB hz (by omega) (by omega) (by omega) (hT.ext H.m) (key (H.oldD hT.1)) (key (H0.outD 3 rfl)) (key (H0.outD 4 rfl)) (key (H0.outD 1 rfl))).mono fun e w' hh => ?_
 obtain ⟨bw, e1, e2, e3, e4, e5⟩ := hh
 exact ⟨bw, e1, e2, e3, H.rd e4 e5, e5⟩
def SaveB (W w : World) (p q P Q : Nat) (u : Pv) (L M : List Nat) (O : List (Nat × TypeId × List Value)) (R : Pv × Int × Hd) (e : Ending) (w' : World) : Prop :=
 e = .returned (.tuple #[R.2.2.v, .int .i64 R.2.1]) ∧ ∃ L2, Bw W w' p q P Q R.1 u L2 M O ∧ Mod (p :: L) w w'
theorem Bw.save (H : Bw W w p q P Q v u L M O) (hO : ∀ y ∈ osB x p P s r a b h k f0 f1 c, y ∈ O) (hT : TabC W) (hz : v.m.sz = 64) (hd : v.m.dur.length = 10) (h0 : f0 + c ≤ 10) (h1 : f1 + c ≤ 10) (hn : v.n ≤ 900000) (hr : v.m.row.length ≤ 900000)
   (B : List UInt8) (bw : Value) (cov : Nat) (hbb : Bs w bw B) (hbB : ∀ y ∈ blks bw, y < w.heap.size ∧ y ∉ p :: L) (hcov : cov < 18446744073709551616) :
   Calls Tryz.prog 8 #[.pointer (some ⟨s, 0, none⟩), bw, .int .u64 (cov : Nat)] w (SaveB W w p q P Q u L M O (saveG f0 f1 c 64 v B cov)) := by
 have H0 := H.sub hO
 have hS : Sls w s a b := H0.blk 1 rfl
 have hA : Rgn w a p f0 c 64 := H0.blk 3 rfl
 have hB : Rgn w b p f1 c 64 := H0.blk 4 rfl
 refine (ssave_any s a b p q f0 f1 c 64 cov v L B bw w hS H.D hA hB hz (by omega) (by omega) (by omega) (by omega) (by omega) (by omega) (hT.ext H.m) (H.oldD hT.1) (H0.outD 1 rfl) (H0.outD 3 rfl) (H0.outD 4 rfl) hbb hbB hcov).mono fun e w' hh => ?_
 exact ⟨hh.1, H.dt hh.2⟩
theorem Turn.load {m : Dm} {i : Nat} {H : Hd} {B : List UInt8} (T : Turn m f0 f1 c i H B) (n : Nat) (hi : 0 < i) (hc : 2 ≤ c) (h0 : f0 + c ≤ m.dur.length) (h1 : f1 + c ≤ m.dur.length) :
   ∃ n', loadG f0 f1 c 64 (Lv m n) = ⟨Lv m n', 0, H, B, (((i - 1) % 2 : Nat) : Int)⟩ ∧ n ≤ n' ∧ n' ≤ n + 2 * c + 6 := by
 obtain ⟨n', e1, e2, e3⟩ := loadG_lv f0 f1 c m n T.ok T.sz (by omega) h0 h1
 have e4 := T.found.2 hi
 unfold foundM at e4
 rw [e4] at e1
 exact ⟨n', e1, e2, e3⟩
def TurnS (W w : World) (p q P Q : Nat) (u : Pv) (L M : List Nat) (O : List (Nat × TypeId × List Value)) (f0 f1 c i n : Nat) (N : Hd) (B : List UInt8) (e : Ending) (w' : World) : Prop :=
 e = .returned (.tuple #[N.v, .int .i64 0]) ∧ ∃ L2 m2 n2, Bw W w' p q P Q (Lv m2 n2) u L2 M O ∧ Mod (p :: L) w w' ∧ Turn m2 f0 f1 c (i + 1) N B ∧ m2.dur.length = 10 ∧ n2 ≤ n + 4 * c + 20
theorem Bw.turnS {m : Dm} {i n : Nat} {N : Hd} {B0 : List UInt8} (H : Bw W w p q P Q (Lv m n) u L M O) (hO : ∀ y ∈ osB x p P s r a b h k f0 f1 c, y ∈ O) (T : Turn m f0 f1 c i N B0) (hT : TabC W) (hd : m.dur.length = 10) (hc : 2 ≤ c) (h0 : f0 + c ≤ 10) (h1 : f1 + c ≤ 10) (hap : f0 + c ≤ f1 ∨ f1 + c ≤ f0) (hn : n ≤ 900000)
   (B : List UInt8) (bw : Value) (cov : Nat) (hbb : Bs w bw B) (hbB : ∀ y ∈ blks bw, y < w.heap.size ∧ y ∉ p :: L) (hcov : cov < 18446744073709551616) (hB : B.length + 64 ≤ c * 64) (hi : i ≤ 1000000) :
   Calls Tryz.prog 8 #[.pointer (some ⟨s, 0, none⟩), bw, .int .u64 (cov : Nat)] w (TurnS W w p q P Q u L M O f0 f1 c i n ⟨i + 1, cov, (B.length : Nat), crcS B⟩ B) := by
 obtain ⟨m2, n2, N2, e1, e2, e3, e4, e5, e6⟩ := T.save n B cov hc (by omega) (by omega) hap hB (by omega) hcov (by omega)
 refine (H.save hO hT T.sz hd h0 h1 hn (by show m.row.length ≤ _; rw [T.row]; simp) B bw cov hbb hbB hcov).mono fun e w' hh => ?_
 unfold SaveB at hh
 rw [e1] at hh
 subst e2
 obtain ⟨g1, L2, g2, g3⟩ := hh
 exact ⟨g1, L2, m2, n2, g2, g3, e3, by omega, e6⟩
def TurnL (W w : World) (p q P Q : Nat) (u : Pv) (L M : List Nat) (O : List (Nat × TypeId × List Value)) (m : Dm) (c i n : Nat) (N : Hd) (B : List UInt8) (e : Ending) (w' : World) : Prop :=
 ∃ bw n2, e = .returned (.tuple #[N.v, bw, .int .i64 (((i - 1) % 2 : Nat) : Int), .int .i64 0]) ∧ Ob w' bw B ∧ New w bw ∧ Bw W w' p q P Q (Lv m n2) u L M O ∧ Mod [p] w w' ∧ n2 ≤ n + 2 * c + 6
theorem Bw.turnL {m : Dm} {i n : Nat} {N : Hd} {B : List UInt8} (H : Bw W w p q P Q (Lv m n) u L M O) (hO : ∀ y ∈ osB x p P s r a b h k f0 f1 c, y ∈ O) (T : Turn m f0 f1 c i N B) (hT : TabC W) (hd : m.dur.length = 10) (hc : 2 ≤ c) (h0 : f0 + c ≤ 10) (h1 : f1 + c ≤ 10) (hn : n ≤ 900000) (hi : 0 < i) :
   Calls Tryz.prog 12 #[.pointer (some ⟨s, 0, none⟩)] w (TurnL W w p q P Q u L M O m c i n N B) := by
 obtain ⟨n2, e1, e2, e3⟩ := T.load n hi hc (by omega) (by omega)
 refine (H.load hO hT T.sz hd h0 h1 hn).mono fun e w' hh => ?_
 unfold LoadB at hh
 rw [e1] at hh
 obtain ⟨bw, g1, g2, g3, g4, g5⟩ := hh
 exact ⟨bw, n2, g1, g2, g3, g4, g5, e3⟩
end
end Go.Proofs.YtminfegoldgjpaaGreatDoor
