import Derived.Test.YtkhnemnpadhgoaaRcD
import Derived.Test.YtkhnemnpadhgoaaRcL
/-! Records: Get. -/
set_option linter.unusedVariables false
set_option linter.unusedSimpArgs false
set_option maxRecDepth 100000
namespace Go.Proofs.Ytkhnemnpadhgoaa
open Go.RowKit Gw

def GetC (b : List UInt8) (w : World) (e : Ending) (w' : World) : Prop := e = .returned (.tuple #[(getC b).v, .int .i64 (errC b)]) ∧ Mod [] w w'
theorem gc_no {b : List UInt8} {n : Int} (h : errC b = n) (hn : n ≠ 0) {w w' : World} {e : Ending} (he : e = .returned (.tuple #[cz.v, .int .i64 n])) (hm : Mod [] w w') : GetC b w e w' := by
  refine ⟨?_, hm⟩
  unfold getC
  rw [h, if_neg hn]
  exact he
theorem gc_yes {b : List UInt8} (h : errC b = 0) {w w' : World} {e : Ending} (he : e = .returned (.tuple #[(parC b).v, .int .i64 0])) (hm : Mod [] w w') : GetC b w e w' := by
  refine ⟨?_, hm⟩
  unfold getC
  rw [if_pos h, h]
  exact he
theorem zero_rec : (Try.prog.info? 25).map (·.zero) = some (some (.agg #[.int .i64 0, .int .u32 0, .int .i64 0, .int .i64 0, .int .i64 0])) := by kernel_rfl
theorem cellsC_u8 (r : Rc) : ∀ c ∈ cellsC r, ∀ n, c ≠ .int .u8 n := by simp [cellsC]
theorem shape_u8 (f1 f2 f3 f4 : Bool) : ∀ c ∈ [Value.bool f1, .bool f2, .bool f3, .bool f4], ∀ n, c ≠ .int .u8 n := by simp
theorem Rd.qblk {w : World} {r q : Nat} {l : List UInt8} {e : Int} (h : Rd w r q l e) : ∃ cs, Blk w q 96 cs := by
  obtain ⟨_, v, h2, _⟩ := h
  exact ⟨_, h2⟩
theorem Rd.keepC {w w' : World} {r q g : Nat} {l : List UInt8} {e : Int} {x : Rc} (h : Rd w r q l e) (hb : Blk w g 25 (cellsC x)) (hm : Mod [g] w w') : Rd w' r q l e := by
  obtain ⟨_, hB⟩ := h.qblk
  exact h.mod hb (cellsC_u8 x) (h.1.ne hb (by decide)) (hB.ne hb (by decide)) hm
/-! a number that is there -/
theorem tk_drop (b : List UInt8) (p k : Nat) (h : p + k ≤ b.length) : got (b.drop p) 0 k = nb b p k ∧ tkRest (b.drop p) 0 k = b.drop (p + k) ∧ tkErr (b.drop p) 0 k = 0 := by
  have h1 : (0 : Int) ≤ (k : Int) ∧ (k : Int) ≤ ((b.drop p).length : Int) := by rw [List.length_drop]; omega
  refine ⟨?_, ?_, ?_⟩
  · unfold got tkGot nb; rw [if_pos ⟨rfl, h1.1, h1.2⟩, Int.toNat_natCast]
  · unfold tkRest; rw [if_pos rfl, if_pos h1, Int.toNat_natCast, List.drop_drop]
  · unfold tkErr; rw [if_pos rfl, if_neg (by omega), if_neg (by omega)]
def NextC (b : List UInt8) (r q p k : Nat) (kd : IntKind) (w : World) (e : Ending) (w' : World) : Prop := e = .returned (.int kd (nb b p k)) ∧ Rd w' r q (b.drop (p + k)) 0 ∧ Mod [q] w w'
theorem nextC_of {b : List UInt8} {r q p k : Nat} {kd : IntKind} {w : World} (h : p + k ≤ b.length) {e : Ending} {w' : World} (he : e = .returned (.int kd (got (b.drop p) 0 k))) (hp : TakePost w r q (b.drop p) 0 k w') : NextC b r q p k kd w e w' := by
  obtain ⟨t1, t2, t3⟩ := tk_drop b p k h
  unfold TakePost at hp
  rw [t2, t3] at hp
  exact ⟨by rw [he, t1], hp⟩
theorem nbyte (r q : Nat) (b : List UInt8) (p : Nat) (w : World) (h : Rd w r q (b.drop p) 0) (hp : p + 1 ≤ b.length) : Calls Try.prog 31 #[.pointer (some ⟨r, 0, none⟩)] w (NextC b r q p 1 .u8 w) :=
  (rbyte_any r q _ 0 w h).mono fun e w' ⟨h1, h2⟩ => nextC_of hp h1 h2
theorem ntwo (r q : Nat) (b : List UInt8) (p : Nat) (w : World) (h : Rd w r q (b.drop p) 0) (hp : p + 2 ≤ b.length) : Calls Try.prog 34 #[.pointer (some ⟨r, 0, none⟩)] w (NextC b r q p 2 .u16 w) :=
  (rtwo_any r q _ 0 w h).mono fun e w' ⟨h1, h2⟩ => nextC_of hp h1 h2
theorem nfour (r q : Nat) (b : List UInt8) (p : Nat) (w : World) (h : Rd w r q (b.drop p) 0) (hp : p + 4 ≤ b.length) : Calls Try.prog 33 #[.pointer (some ⟨r, 0, none⟩)] w (NextC b r q p 4 .u32 w) :=
  (rfour_any r q _ 0 w h).mono fun e w' ⟨h1, h2⟩ => nextC_of hp h1 h2
theorem neight (r q : Nat) (b : List UInt8) (p : Nat) (w : World) (h : Rd w r q (b.drop p) 0) (hp : p + 8 ≤ b.length) : Calls Try.prog 35 #[.pointer (some ⟨r, 0, none⟩)] w (NextC b r q p 8 .u64 w) :=
  (reight_any r q _ 0 w h).mono fun e w' ⟨h1, h2⟩ => nextC_of hp h1 h2
/-- what stands while it reads -/
def StC (w : World) (r q p g s : Nat) (D : List Value) (b : List UInt8) (pos : Nat) (x : Rc) (wx : World) : Prop :=
  Rd wx r q (b.drop pos) 0 ∧ Blk wx p 25 (cellsC x) ∧ Blk wx g 25 (cellsC cz) ∧ Blk wx s 45 D ∧ Mod [] w wx
def pos1 (f1 : Bool) : Nat := if f1 = true then 5 else 1
def pos2 (f1 f2 : Bool) : Nat := if f2 = true then 7 else pos1 f1
def pos3 (f1 f2 f3 : Bool) : Nat := if f3 = true then 15 else pos2 f1 f2
def pos4 (f1 f2 f3 f4 : Bool) : Nat := if f4 = true then 9 else pos3 f1 f2 f3
def opt (f : Bool) (n : Int) : Int := if f = true then n else 0
theorem flags_pos (k : Int) (h : okC k = true) : pos4 (cI k) (cS k) (cU k) (cC k) = sizeC k ∧ (cS k = true → cI k = true) ∧ (cU k = true → cS k = true) ∧ (cC k = true → cI k = false ∧ cS k = false ∧ cU k = false) ∧
    (cI k = true → 5 ≤ sizeC k) ∧ (cS k = true → 7 ≤ sizeC k) ∧ (cU k = true → 15 ≤ sizeC k) ∧ (cC k = true → 9 ≤ sizeC k) := by
  rcases kindsC _ h with e | e | e | e | e <;> subst e <;> decide
theorem endOf_drop (b : List UInt8) (n : Nat) (h : n ≤ b.length) : endOf (b.drop n) 0 = if n < b.length then 5 else 0 := by
  unfold endOf
  rw [if_pos rfl]
  by_cases h1 : n < b.length
  · rw [if_neg (fun h2 => by have := congrArg List.length h2; simp at this; omega), if_pos h1]
  · rw [if_pos (List.drop_eq_nil_of_le (by omega)), if_neg h1]

set_option maxRecDepth 1000000 in
set_option maxHeartbeats 8000000 in
theorem cget_any (b : List UInt8) (bv0 : Value) (w : World) (hb : Bs w bv0 b) (hl : b.length ≤ 140737488355328) : Calls Try.prog 11 #[bv0] w (GetC b w) := by
  obtain ⟨aob, capb, rfl, hc1, hc2⟩ := hb.form
  by_cases h0 : b = []
  · subst h0
    go_enter Try.func11, Try.ntmps11
    go_wp2_with (with_reducible refine st_alloc ?_)
    refine StopOp.go rfl fun K hK => ?_
    refine wp_alloc zero_rec ?_
    intro g w1 hg1 hg2 hm1 hB1
    simp only [put_some, List.set_cons_succ, List.set_cons_zero]
    refine hK _ _ ?_
    clear hK K
    go_wp2_with (with_reducible refine st_store ?_)
    refine StopOp.go rfl fun K hK => ?_
    refine wp_store (u := .agg #[.int .i64 0, .int .u32 0, .int .i64 0, .int .i64 0, .int .i64 0]) (by rfl) (by rfl) (by kernel_rfl) hB1 (by simp [Value.cells, cellsC]) (by simp [Value.cells, Value.oneCell']) ?_
    intro w90 hm90 hB90
    refine hK _ _ ?_
    clear hK K
    have z0 := hB90.cell' (i := 0) rfl
    have z1 := hB90.cell' (i := 1) rfl
    have z2 := hB90.cell' (i := 2) rfl
    have z3 := hB90.cell' (i := 3) rfl
    have z4 := hB90.cell' (i := 4) rfl
    go_wp2_with fail
    exact bodyPost_ret (v := .tuple #[.agg #[.int .i64 0, .int .u32 0, .int .i64 0, .int .i64 0, .int .i64 0], .int .i64 4]) (by simp [results, Try.results11, go_sem, z0, z1, z2, z3, z4]) rfl (gc_no rfl (by decide) rfl (hm1.fresh hm90 (by simpa using hg1)))
  have hlen : 1 ≤ b.length := List.length_pos_iff.2 h0
  have hlen' : ((b.length : Int) == 0) = false := by simpa using h0
  obtain ⟨n, hn⟩ : ∃ n, n = nb b 0 1 := ⟨_, rfl⟩
  have n255 : (n : Int) ≤ 255 := by have := nb_lt b 0 1; omega
  have n0 : (0 : Int) ≤ n := by omega
  have OF := fun w => ofC_any (n : Int) w
  unfold OfC at OF
  have B1 := fun r q w h => nbyte r q b 0 w h (by omega)
  unfold NextC at B1
  rw [← hn] at B1
  simp only [Nat.zero_add] at B1
  have NS := flags_pos (n : Int)
  obtain ⟨f1, hf1⟩ : ∃ b, b = cI (n : Int) := ⟨_, rfl⟩
  obtain ⟨f2, hf2⟩ : ∃ b, b = cS (n : Int) := ⟨_, rfl⟩
  obtain ⟨f3, hf3⟩ : ∃ b, b = cU (n : Int) := ⟨_, rfl⟩
  obtain ⟨f4, hf4⟩ : ∃ b, b = cC (n : Int) := ⟨_, rfl⟩
  obtain ⟨okb, hok⟩ : ∃ b, b = okC (n : Int) := ⟨_, rfl⟩
  have SZ := fun w => size_any f1 f2 f3 f4 w
  have ZS := szf_k (n : Int)
  rw [← hf1, ← hf2, ← hf3, ← hf4] at OF ZS NS
  rw [← hok] at OF ZS NS
  obtain ⟨S, hS⟩ : ∃ S, S = sizeC (n : Int) := ⟨_, rfl⟩
  rw [← hS] at ZS NS
  obtain ⟨Z, hZ⟩ : ∃ Z, Z = szf f1 f2 f3 f4 4 := ⟨_, rfl⟩
  rw [← hZ] at SZ ZS
  obtain ⟨T3, hT3⟩ : ∃ T, T = wrap64 (nb b 7 8) := ⟨_, rfl⟩
  obtain ⟨T4, hT4⟩ : ∃ T, T = wrap64 (nb b 1 8) := ⟨_, rfl⟩
  have hpar : parC b = ⟨n, opt f1 (nb b 1 4), opt f2 (nb b 5 2), opt f3 T3, opt f4 T4⟩ := by
    rw [hf1, hf2, hf3, hf4, hT3, hT4, hn]; rfl
  have hps := parC_ok b
  have herr : errC b = if okb = false then 160 else if b.length < S then 4 else if mayC (parC b) = false then 160 else if S < b.length then 5 else 0 := by
    unfold errC
    rw [if_neg h0, ← hn, ← hok, ← hS]
  have HERR := Lib.hid herr
  have HPAR := Lib.hid hpar
  have HT3 := Lib.hid hT3
  have HT4 := Lib.hid hT4
  have HNS := Lib.hid NS
  have HZS := Lib.hid ZS
  have HPS := Lib.hid hps
  clear hn hf1 hf2 hf3 hf4 hok hS hZ hT3 hT4 hpar herr NS ZS hps h0
  go_enter Try.func11, Try.ntmps11
  go_wp2_with (with_reducible refine st_alloc ?_)
  refine StopOp.go rfl fun K hK => ?_
  refine wp_alloc zero_rec ?_
  intro g w1 hg1 hg2 hm1 hB1
  simp only [put_some, List.set_cons_succ, List.set_cons_zero]
  refine hK _ _ ?_
  clear hK K
  go_wp2_with (first
                | (with_reducible refine st_alloc ?_)
                | (go_at_call 30; refine (of_any b _ _ (hb.ext hm1) hl).mono ?_; rintro e w2 ⟨r, q, rfl, hr, hq, hqr, hR2, hm2⟩)
                | (go_at_call 31; refine (B1 r q _ hR2).mono ?_; rintro e w3 ⟨rfl, hR3, hm3⟩))
  refine StopOp.go rfl fun K hK => ?_
  refine wp_alloc zero_rec ?_
  intro p w4 hp1 hp2 hm4 hB4
  simp only [put_some, List.set_cons_succ, List.set_cons_zero]
  refine hK _ _ ?_
  clear hK K
  go_wp2_with (with_reducible refine st_store ?_)
  refine StopOp.go rfl fun K hK => ?_
  refine wp_store (u := .agg #[.int .i64 n, .int .u32 0, .int .i64 0, .int .i64 0, .int .i64 0]) (by rfl) (by rfl) (by kernel_rfl) hB4 (by simp [Value.cells]) (by simp [Value.cells, Value.oneCell']) ?_
  intro w5 hm5 hB5
  refine hK _ _ ?_
  clear hK K
  have hP5 : Blk w5 p 25 (cellsC ⟨n, 0, 0, 0, 0⟩) := hB5
  have hqw : w.heap.size ≤ q := Nat.le_trans hm1.size hq
  have hgq : g ≠ q := by omega
  have hM3 : Mod [] w w3 := (hm1.ext hm2).fresh hm3 (by simpa using hqw)
  have hm35 : Mod [] w3 w5 := hm4.fresh hm5 (by simpa using hp1)
  have hpw : w.heap.size ≤ p := Nat.le_trans hM3.size hp1
  have hM5 := hM3.ext hm35
  have hG5 : Blk w5 g 25 (cellsC cz) := (Blk.mod (Blk.ext hB1 hm2) hm3 (by simpa using hgq)).ext hm35
  have hR5 : Rd w5 r q (b.drop 1) 0 := hR3.ext hm35
  have hgp : g ≠ p := by have := hM3.size; have := hm1.size; have := hm2.size; have := hm3.size; omega
  have k0 : w5.cell? ⟨p, 0, none⟩ = some (.int .i64 n) := hB5.cell' (i := 0) rfl
  clear hm4 hB4 hm5 hB5 hm3 hR3 hm2 hm1 hB1 hR2 B1 hM3 hm35 hb
  go_wp2_with (first
                | (with_reducible refine st_alloc ?_)
                | (go_at_call 23; (with_reducible refine (OF _).mono ?_); rintro e w6 ⟨rfl, hm6⟩))
  refine StopOp.go rfl fun K hK => ?_
  refine wp_alloc zero_shape ?_
  intro s w7 hs1 hs2 hm7 hB7
  simp only [put_some, List.set_cons_succ, List.set_cons_zero]
  refine hK _ _ ?_
  clear hK K
  go_wp2_with (with_reducible refine st_store ?_)
  refine StopOp.go rfl fun K hK => ?_
  refine wp_store (u := .agg #[.bool f1, .bool f2, .bool f3, .bool f4]) (by rfl) (by rfl) (by kernel_rfl) hB7 (by simp [Value.cells]) (by simp [Value.cells, Value.oneCell']) ?_
  intro w8 hm8 hB8
  refine hK _ _ ?_
  clear hK K
  have hS8 : Blk w8 s 45 [.bool f1, .bool f2, .bool f3, .bool f4] := hB8
  have hm58 : Mod [] w5 w8 := hm6.ext (hm7.fresh hm8 (by simpa using hs1))
  have hST : StC w r q p g s [.bool f1, .bool f2, .bool f3, .bool f4] b 1 ⟨n, 0, 0, 0, 0⟩ w8 := ⟨hR5.ext hm58, hP5.ext hm58, hG5.ext hm58, hS8, hM5.ext hm58⟩
  have s0 := hS8.cell' (i := 0) rfl
  have s1 := hS8.cell' (i := 1) rfl
  have s2 := hS8.cell' (i := 2) rfl
  have s3 := hS8.cell' (i := 3) rfl
  have hG8 : Blk w8 g 25 (cellsC cz) := hST.2.2.1
  have hM8 : Mod [] w w8 := hST.2.2.2.2
  have hgw : w.heap.size ≤ g := hg1
  clear hm6 hm7 hB7 hm8 hB8 hm58 hR5 hP5 hG5 hM5 k0 OF hS8
  cases okb with
  | false =>
    go_wp2_with (with_reducible refine st_store ?_)
    refine StopOp.go rfl fun K hK => ?_
    refine wp_store (u := .agg #[.int .i64 0, .int .u32 0, .int .i64 0, .int .i64 0, .int .i64 0]) (by rfl) (by rfl) (by kernel_rfl) hG8 (by simp [Value.cells, cellsC]) (by simp [Value.cells, Value.oneCell']) ?_
    intro w90 hm90 hB90
    refine hK _ _ ?_
    clear hK K
    have z0 := hB90.cell' (i := 0) rfl
    have z1 := hB90.cell' (i := 1) rfl
    have z2 := hB90.cell' (i := 2) rfl
    have z3 := hB90.cell' (i := 3) rfl
    have z4 := hB90.cell' (i := 4) rfl
    go_wp2_with fail
    exact bodyPost_ret (v := .tuple #[.agg #[.int .i64 0, .int .u32 0, .int .i64 0, .int .i64 0, .int .i64 0], .int .i64 160]) (by simp [results, Try.results11, go_sem, z0, z1, z2, z3, z4]) rfl (gc_no (by rw [HERR.out]; rfl) (by decide) rfl (hM8.fresh hm90 (by simpa using hgw)))
  | true =>
    have hZ2 : Z = (S : Int) := HZS.out rfl
    obtain ⟨hp4, h21, h32, h4n, l1, l2, l3, l4⟩ := HNS.out rfl
    subst hZ2
    by_cases hlt : b.length < S
    · have hd : decide (b.length < S) = true := decide_eq_true hlt
      clear hp4 h21 h32 h4n l1 l2 l3 l4
      go_wp2_with (first
                    | (with_reducible refine st_store ?_)
                    | (go_at_call 32; (with_reducible refine (SZ _).mono ?_); rintro e w9 ⟨rfl, hm9⟩))
      have hG9 := hG8.ext hm9
      refine StopOp.go rfl fun K hK => ?_
      refine wp_store (u := .agg #[.int .i64 0, .int .u32 0, .int .i64 0, .int .i64 0, .int .i64 0]) (by rfl) (by rfl) (by kernel_rfl) hG9 (by simp [Value.cells, cellsC]) (by simp [Value.cells, Value.oneCell']) ?_
      intro w90 hm90 hB90
      refine hK _ _ ?_
      clear hK K
      have z0 := hB90.cell' (i := 0) rfl
      have z1 := hB90.cell' (i := 1) rfl
      have z2 := hB90.cell' (i := 2) rfl
      have z3 := hB90.cell' (i := 3) rfl
      have z4 := hB90.cell' (i := 4) rfl
      go_wp2_with fail
      exact bodyPost_ret (v := .tuple #[.agg #[.int .i64 0, .int .u32 0, .int .i64 0, .int .i64 0, .int .i64 0], .int .i64 4]) (by simp [results, Try.results11, go_sem, z0, z1, z2, z3, z4]) rfl (gc_no (by rw [HERR.out, if_neg (by simp), if_pos hlt]) (by decide) rfl ((hM8.ext hm9).fresh hm90 (by simpa using hgw)))
    have hd : decide (b.length < S) = false := decide_eq_false hlt
    have H21 := Lib.hid h21
    have H32 := Lib.hid h32
    have H4N := Lib.hid h4n
    have HP4 := Lib.hid hp4
    have HL := Lib.hid (And.intro l1 (And.intro l2 (And.intro l3 l4)))
    clear h21 h32 h4n hp4 l1 l2 l3 l4 HZS HNS hG8 hM8
    go_upto_if 37 with (go_at_call 32; (with_reducible refine (SZ _).mono ?_); rintro e w9 ⟨rfl, hm9⟩; have s0 := (Blk.ext hST.2.2.2.1 hm9).cell' (i := 0) rfl)
    have hS1 : StC w r q p g s [.bool f1, .bool f2, .bool f3, .bool f4] b 1 ⟨n, 0, 0, 0, 0⟩ w9 := ⟨hST.1.ext hm9, hST.2.1.ext hm9, hST.2.2.1.ext hm9, hST.2.2.2.1.ext hm9, hST.2.2.2.2.ext hm9⟩
    clear hST hm9 s0 s1 s2 s3 SZ
    go_cut [] (fun wx => StC w r q p g s [.bool f1, .bool f2, .bool f3, .bool f4] b (pos1 f1) ⟨n, opt f1 (nb b 1 4), 0, 0, 0⟩ wx)
    case first =>
      cases f1 with
      | false =>
        go_wp2_with fail
        go_meet
        exact hS1
      | true =>
        have hlb := HL.out.1 rfl
        have z1 : (nb b 1 4 : Int) ≤ 4294967295 := by have := nb_lt b 1 4; omega
        have z2 : (0 : Int) ≤ (nb b 1 4 : Int) := by omega
        obtain ⟨hR, hP, hG, hS, hM⟩ := hS1
        have hpq : p ≠ q := by obtain ⟨_, hB⟩ := hR.qblk; exact hP.ne hB (by decide)
        have hsq : s ≠ q := by obtain ⟨_, hB⟩ := hR.qblk; exact hS.ne hB (by decide)
        have hsp : s ≠ p := hS.ne hP (by decide)
        go_wp2_with (first
                      | (with_reducible refine st_store ?_)
                      | (go_at_call 33; refine (nfour r q b 1 _ hR (by omega)).mono ?_; rintro e wa ⟨rfl, hRa, hma⟩))
        have hPa := hP.mod hma (by simpa using hpq)
        have hGa := hG.mod hma (by simpa using hgq)
        have hSa := hS.mod hma (by simpa using hsq)
        refine StopOp.go rfl fun K hK => ?_
        refine wp_store1 (by kernel_rfl) (by rfl) (u := (.int .u32 (nb b 1 4))) (by rfl) ⟨rfl, rfl⟩ hPa (by simp [cellsC]) ?_
        intro wb hmb hBb
        refine hK _ _ ?_
        clear hK K
        go_wp2_with fail
        go_meet
        exact ⟨hRa.keepC hPa hmb, hBb, hGa.mod hmb (by simpa using hgp), hSa.mod hmb (by simpa using hsp), (hM.fresh hma (by simpa using hqw)).fresh hmb (by simpa using hpw)⟩
    case rest =>
    clear hS1
    have hS2 := hcut
    clear hcut
    have y1 := hS2.2.2.2.1.cell' (i := 1) rfl
    go_upto_if 42 with fail
    clear y1
    go_cut [] (fun wx => StC w r q p g s [.bool f1, .bool f2, .bool f3, .bool f4] b (pos2 f1 f2) ⟨n, opt f1 (nb b 1 4), opt f2 (nb b 5 2), 0, 0⟩ wx)
    case first =>
      cases f2 with
      | false =>
        go_wp2_with fail
        go_meet
        exact hS2
      | true =>
        have hlb := HL.out.2.1 rfl
        have z1 : (nb b 5 2 : Int) ≤ 65535 := by have := nb_lt b 5 2; omega
        have z2 : (0 : Int) ≤ (nb b 5 2 : Int) := by omega
        obtain ⟨hR, hP, hG, hS, hM⟩ := hS2
        rw [show pos1 f1 = 5 by rw [H21.out rfl]; rfl] at hR
        have hpq : p ≠ q := by obtain ⟨_, hB⟩ := hR.qblk; exact hP.ne hB (by decide)
        have hsq : s ≠ q := by obtain ⟨_, hB⟩ := hR.qblk; exact hS.ne hB (by decide)
        have hsp : s ≠ p := hS.ne hP (by decide)
        go_wp2_with (first
                      | (with_reducible refine st_store ?_)
                      | (go_at_call 34; refine (ntwo r q b 5 _ hR (by omega)).mono ?_; rintro e wa ⟨rfl, hRa, hma⟩))
        have hPa := hP.mod hma (by simpa using hpq)
        have hGa := hG.mod hma (by simpa using hgq)
        have hSa := hS.mod hma (by simpa using hsq)
        refine StopOp.go rfl fun K hK => ?_
        refine wp_store1 (by kernel_rfl) (by rfl) (u := (.int .i64 (nb b 5 2))) (by rfl) ⟨rfl, rfl⟩ hPa (by simp [cellsC]) ?_
        intro wb hmb hBb
        refine hK _ _ ?_
        clear hK K
        go_wp2_with fail
        go_meet
        exact ⟨hRa.keepC hPa hmb, hBb, hGa.mod hmb (by simpa using hgp), hSa.mod hmb (by simpa using hsp), (hM.fresh hma (by simpa using hqw)).fresh hmb (by simpa using hpw)⟩
    case rest =>
    clear hS2
    have hS3 := hcut
    clear hcut
    have y2 := hS3.2.2.2.1.cell' (i := 2) rfl
    go_upto_if 48 with fail
    clear y2
    go_cut [] (fun wx => StC w r q p g s [.bool f1, .bool f2, .bool f3, .bool f4] b (pos3 f1 f2 f3) ⟨n, opt f1 (nb b 1 4), opt f2 (nb b 5 2), opt f3 T3, 0⟩ wx)
    case first =>
      cases f3 with
      | false =>
        go_wp2_with fail
        go_meet
        exact hS3
      | true =>
        have hlb := HL.out.2.2.1 rfl
        have z1 : (nb b 7 8 : Int) ≤ 18446744073709551615 := by have := nb_lt b 7 8; omega
        have z2 : (0 : Int) ≤ (nb b 7 8 : Int) := by omega
        obtain ⟨hR, hP, hG, hS, hM⟩ := hS3
        rw [show pos2 f1 f2 = 7 by rw [H32.out rfl]; rfl] at hR
        have hpq : p ≠ q := by obtain ⟨_, hB⟩ := hR.qblk; exact hP.ne hB (by decide)
        have hsq : s ≠ q := by obtain ⟨_, hB⟩ := hR.qblk; exact hS.ne hB (by decide)
        have hsp : s ≠ p := hS.ne hP (by decide)
        go_wp2_with (first
                      | (with_reducible refine st_store ?_)
                      | (go_at_call 35; refine (neight r q b 7 _ hR (by omega)).mono ?_; rintro e wa ⟨rfl, hRa, hma⟩))
        have hPa := hP.mod hma (by simpa using hpq)
        have hGa := hG.mod hma (by simpa using hgq)
        have hSa := hS.mod hma (by simpa using hsq)
        refine StopOp.go rfl fun K hK => ?_
        refine wp_store1 (by kernel_rfl) (by rfl) (u := (.int .i64 (wrap64 (nb b 7 8)))) (by rfl) ⟨rfl, rfl⟩ hPa (by simp [cellsC]) ?_
        intro wb hmb hBb
        refine hK _ _ ?_
        clear hK K
        go_wp2_with fail
        go_meet
        rw [← HT3.out] at hBb
        exact ⟨hRa.keepC hPa hmb, hBb, hGa.mod hmb (by simpa using hgp), hSa.mod hmb (by simpa using hsp), (hM.fresh hma (by simpa using hqw)).fresh hmb (by simpa using hpw)⟩
    case rest =>
    clear hS3
    have hS4 := hcut
    clear hcut
    have y3 := hS4.2.2.2.1.cell' (i := 3) rfl
    go_upto_if 54 with fail
    clear y3
    go_cut [] (fun wx => StC w r q p g s [.bool f1, .bool f2, .bool f3, .bool f4] b (pos4 f1 f2 f3 f4) ⟨n, opt f1 (nb b 1 4), opt f2 (nb b 5 2), opt f3 T3, opt f4 T4⟩ wx)
    case first =>
      cases f4 with
      | false =>
        go_wp2_with fail
        go_meet
        exact hS4
      | true =>
        have hlb := HL.out.2.2.2 rfl
        have z1 : (nb b 1 8 : Int) ≤ 18446744073709551615 := by have := nb_lt b 1 8; omega
        have z2 : (0 : Int) ≤ (nb b 1 8 : Int) := by omega
        obtain ⟨hR, hP, hG, hS, hM⟩ := hS4
        rw [show pos3 f1 f2 f3 = 1 by rw [(H4N.out rfl).1, (H4N.out rfl).2.1, (H4N.out rfl).2.2]; rfl] at hR
        have hpq : p ≠ q := by obtain ⟨_, hB⟩ := hR.qblk; exact hP.ne hB (by decide)
        have hsq : s ≠ q := by obtain ⟨_, hB⟩ := hR.qblk; exact hS.ne hB (by decide)
        have hsp : s ≠ p := hS.ne hP (by decide)
        go_wp2_with (first
                      | (with_reducible refine st_store ?_)
                      | (go_at_call 35; refine (neight r q b 1 _ hR (by omega)).mono ?_; rintro e wa ⟨rfl, hRa, hma⟩))
        have hPa := hP.mod hma (by simpa using hpq)
        have hGa := hG.mod hma (by simpa using hgq)
        have hSa := hS.mod hma (by simpa using hsq)
        refine StopOp.go rfl fun K hK => ?_
        refine wp_store1 (by kernel_rfl) (by rfl) (u := (.int .i64 (wrap64 (nb b 1 8)))) (by rfl) ⟨rfl, rfl⟩ hPa (by simp [cellsC]) ?_
        intro wb hmb hBb
        refine hK _ _ ?_
        clear hK K
        go_wp2_with fail
        go_meet
        rw [← HT4.out] at hBb
        exact ⟨hRa.keepC hPa hmb, hBb, hGa.mod hmb (by simpa using hgp), hSa.mod hmb (by simpa using hsp), (hM.fresh hma (by simpa using hqw)).fresh hmb (by simpa using hpw)⟩
    case rest =>
    clear hS4
    have hS5 := hcut
    clear hcut
    obtain ⟨hR, hP, hG, hSS, hM⟩ := hS5
    obtain ⟨I1, hI1⟩ : ∃ x, x = opt f1 (nb b 1 4) := ⟨_, rfl⟩
    obtain ⟨I2, hI2⟩ : ∃ x, x = opt f2 (nb b 5 2) := ⟨_, rfl⟩
    obtain ⟨I3, hI3⟩ : ∃ x, x = opt f3 T3 := ⟨_, rfl⟩
    obtain ⟨I4, hI4⟩ : ∃ x, x = opt f4 T4 := ⟨_, rfl⟩
    have hpar := HPAR.out
    rw [← hI1, ← hI2, ← hI3, ← hI4] at hP hpar
    rw [HP4.out] at hR
    have hok := HPS.out
    rw [hpar] at hok
    have CK := fun w => ccheck_any _ hok w
    dsimp only [Rc.v] at CK
    obtain ⟨M, hM0⟩ : ∃ M, M = mayC ⟨n, I1, I2, I3, I4⟩ := ⟨_, rfl⟩
    have hck : chkC ⟨n, I1, I2, I3, I4⟩ = if M = true then 0 else 160 := by unfold chkC; rw [← hM0]
    rw [hck] at CK
    have END := fun w h => end_any r q (b.drop S) 0 w h
    rw [endOf_drop b S (by omega)] at END
    have herr := HERR.out
    rw [if_neg (by simp), if_neg hlt, hpar, ← hM0] at herr
    have HE := Lib.hid herr
    have HP := Lib.hid hpar
    clear hpar herr hM0 hck hok hI1 hI2 hI3 hI4 HT3 HT4 HPAR HERR HPS hSS H21 H32 H4N HP4 HL hd
    have c0 := hP.cell' (i := 0) rfl
    have c1 := hP.cell' (i := 1) rfl
    have c2 := hP.cell' (i := 2) rfl
    have c3 := hP.cell' (i := 3) rfl
    have c4 := hP.cell' (i := 4) rfl
    cases M with
    | false =>
      simp only [reduceIte, Bool.false_eq_true] at CK
      go_wp2_with (first
                    | (with_reducible refine st_store ?_)
                    | (go_at_call 10; (with_reducible refine (CK _).mono ?_); rintro e w10 ⟨rfl, hm10⟩))
      have hG' := hG.ext hm10
      refine StopOp.go rfl fun K hK => ?_
      refine wp_store (u := .agg #[.int .i64 0, .int .u32 0, .int .i64 0, .int .i64 0, .int .i64 0]) (by rfl) (by rfl) (by kernel_rfl) hG' (by simp [Value.cells, cellsC]) (by simp [Value.cells, Value.oneCell']) ?_
      intro w90 hm90 hB90
      refine hK _ _ ?_
      clear hK K
      have z0 := hB90.cell' (i := 0) rfl
      have z1 := hB90.cell' (i := 1) rfl
      have z2 := hB90.cell' (i := 2) rfl
      have z3 := hB90.cell' (i := 3) rfl
      have z4 := hB90.cell' (i := 4) rfl
      go_wp2_with fail
      exact bodyPost_ret (v := .tuple #[.agg #[.int .i64 0, .int .u32 0, .int .i64 0, .int .i64 0, .int .i64 0], .int .i64 160]) (by simp [results, Try.results11, go_sem, z0, z1, z2, z3, z4]) rfl (gc_no (by rw [HE.out]; rfl) (by decide) rfl ((hM.ext hm10).fresh hm90 (by simpa using hgw)))
    | true =>
      simp only [reduceIte] at CK
      by_cases hgt : S < b.length
      · rw [if_pos hgt] at END
        go_wp2_with (first
                      | (with_reducible refine st_store ?_)
                      | (go_at_call 10; (with_reducible refine (CK _).mono ?_); rintro e w10 ⟨rfl, hm10⟩)
                      | (go_at_call 36; (with_reducible refine (END _ (hR.ext hm10)).mono ?_); rintro e w11 ⟨rfl, rfl⟩))
        have hG' := hG.ext hm10
        refine StopOp.go rfl fun K hK => ?_
        refine wp_store (u := .agg #[.int .i64 0, .int .u32 0, .int .i64 0, .int .i64 0, .int .i64 0]) (by rfl) (by rfl) (by kernel_rfl) hG' (by simp [Value.cells, cellsC]) (by simp [Value.cells, Value.oneCell']) ?_
        intro w90 hm90 hB90
        refine hK _ _ ?_
        clear hK K
        have z0 := hB90.cell' (i := 0) rfl
        have z1 := hB90.cell' (i := 1) rfl
        have z2 := hB90.cell' (i := 2) rfl
        have z3 := hB90.cell' (i := 3) rfl
        have z4 := hB90.cell' (i := 4) rfl
        go_wp2_with fail
        exact bodyPost_ret (v := .tuple #[.agg #[.int .i64 0, .int .u32 0, .int .i64 0, .int .i64 0, .int .i64 0], .int .i64 5]) (by simp [results, Try.results11, go_sem, z0, z1, z2, z3, z4]) rfl (gc_no (by rw [HE.out, if_neg (by simp), if_pos hgt]) (by decide) rfl ((hM.ext hm10).fresh hm90 (by simpa using hgw)))
      · rw [if_neg hgt] at END
        go_wp2_with (first
                      | (with_reducible refine st_store ?_)
                      | (go_at_call 10; (with_reducible refine (CK _).mono ?_); rintro e w10 ⟨rfl, hm10⟩; have hG' := hG.ext hm10; have hP' := hP.ext hm10; have v0 := hP'.cell' (i := 0) rfl; have v1 := hP'.cell' (i := 1) rfl; have v2 := hP'.cell' (i := 2) rfl; have v3 := hP'.cell' (i := 3) rfl; have v4 := hP'.cell' (i := 4) rfl)
                      | (go_at_call 36; (with_reducible refine (END _ (hR.ext hm10)).mono ?_); rintro e w11 ⟨rfl, rfl⟩))
        refine StopOp.go rfl fun K hK => ?_
        refine wp_store (u := .agg #[.int .i64 n, .int .u32 I1, .int .i64 I2, .int .i64 I3, .int .i64 I4]) (by rfl) (by rfl) (by kernel_rfl) hG' (by simp [Value.cells, cellsC]) (by simp [Value.cells, Value.oneCell']) ?_
        intro w90 hm90 hB90
        refine hK _ _ ?_
        clear hK K
        have z0 := hB90.cell' (i := 0) rfl
        have z1 := hB90.cell' (i := 1) rfl
        have z2 := hB90.cell' (i := 2) rfl
        have z3 := hB90.cell' (i := 3) rfl
        have z4 := hB90.cell' (i := 4) rfl
        go_wp2_with fail
        exact bodyPost_ret (v := .tuple #[.agg #[.int .i64 n, .int .u32 I1, .int .i64 I2, .int .i64 I3, .int .i64 I4], .int .i64 0]) (by simp [results, Try.results11, go_sem, z0, z1, z2, z3, z4]) rfl (gc_yes (by rw [HE.out, if_neg (by simp), if_neg hgt]) (by rw [HP.out]; rfl) ((hM.ext hm10).fresh hm90 (by simpa using hgw)))
end Go.Proofs.Ytkhnemnpadhgoaa
