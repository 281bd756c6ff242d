import Derived.Test.YtdmnogmhnhjdgaaRgA
/-! Regions: what they are; each. -/
set_option linter.unusedVariables false
set_option linter.unusedSimpArgs false
set_option maxRecDepth 100000
namespace Go.Proofs.Ytdmnogmhnhjdgaa
open Go.RowKit Gw

/-- where a chunk ends in its sector -/
def toC (z a e : Nat) : Nat := min z (a % z + (e - a))
/-- where the next one begins -/
def nxt (z a e : Nat) : Nat := a + (toC z a e - a % z)
theorem toC_gt {z a e : Nat} (h : a < e) (hz : 0 < z) : a % z < toC z a e := by
  have := Nat.mod_lt a hz
  unfold toC
  omega
theorem toC_le (z a e : Nat) : toC z a e ≤ z := by unfold toC; omega
theorem nxt_gt {z a e : Nat} (h : a < e) (hz : 0 < z) : a < nxt z a e := by
  have := toC_gt h hz
  unfold nxt
  omega
theorem nxt_le {z a e : Nat} (h : a ≤ e) : nxt z a e ≤ e := by
  unfold nxt toC
  omega
/-- Read: the device, the answer, what was read -/
def rdG (f z : Nat) (v : Pv) (a e : Nat) (acc : List UInt8) : Pv × Int × List UInt8 :=
  if h : a < e ∧ 0 < z then
    if v.go = true then rdG f z v.md (nxt z a e) e (acc ++ ((v.m.read (f + a / z)).drop (a % z)).take (toC z a e - a % z)) else (v.md, 60, [])
  else (v, 0, acc)
termination_by e - a
decreasing_by have := nxt_gt h.1 h.2; omega
/-- a chunk of a Write -/
def wrC (v : Pv) (S M T z : Nat) (full : List UInt8) : Pv × Int :=
  if T - M < z then
    if v.go = true then
      if v.md.go = true then (v.md.wr S ((v.m.read S).take M ++ full ++ (v.m.read S).drop T), 0) else (v.md.md, 60)
    else (v.md, 60)
  else if v.go = true then (v.wr S full, 0) else (v.md, 60)
/-- Write: the device, the answer -/
def wrG (f z : Nat) (v : Pv) (a e : Nat) (b : List UInt8) : Pv × Int :=
  if h : a < e ∧ 0 < z then
    if (wrC v (f + a / z) (a % z) (toC z a e) z (b.take (toC z a e - a % z))).2 = 0 then
      wrG f z (wrC v (f + a / z) (a % z) (toC z a e) z (b.take (toC z a e - a % z))).1 (nxt z a e) e (b.drop (toC z a e - a % z))
    else wrC v (f + a / z) (a % z) (toC z a e) z (b.take (toC z a e - a % z))
  else (v, 0)
termination_by e - a
decreasing_by have := nxt_gt h.1 h.2; omega
/-- a region in memory -/
def Rgn (w : World) (r p f c z : Nat) : Prop := Blk w r 79 [.pointer (some ⟨p, 0, none⟩), .int .i64 (f : Nat), .int .i64 (c : Nat), .int .i64 (z : Nat)]
theorem Rgn.mod {w w' : World} {r p f c z : Nat} {M : List Nat} (h : Rgn w r p f c z) (hm : Mod M w w') (hr : r ∉ M) : Rgn w' r p f c z := Blk.mod h hm hr
theorem Rgn.ext {w w' : World} {r p f c z : Nat} (h : Rgn w r p f c z) (hm : Mod [] w w') : Rgn w' r p f c z := Blk.ext h hm
/-- one that is none -/
def NoRg (w : World) (v : Value) : Prop := v = .pointer none ∨ ∃ r, v = .pointer (some ⟨r, 0, none⟩) ∧ Blk w r 79 [.pointer none, .int .i64 0, .int .i64 0, .int .i64 0]
set_option maxHeartbeats 4000000 in
theorem eachR_any (r p f c z : Nat) (c1 c2 : Option Addr) (at_ n : Nat) (J : Nat → World → Prop) (R : Int → World → Prop) (w : World) (hz : 0 < z) (hz2 : z ≤ 4096) (hf : f ≤ 65536) (hb : at_ + n ≤ 1099511627776) (h0 : J at_ w)
    (hB : ∀ a W, J a W → Rgn W r p f c z)
    (hS : ∀ a W, J a W → at_ ≤ a → a < at_ + n → Calls Try.prog 79 #[.int .i64 ((f + a / z : Nat) : Int), .int .i64 ((a % z : Nat) : Int), .int .i64 ((toC z a (at_ + n) : Nat) : Int), .pointer c1, .pointer c2] W fun e W' => ∃ E, e = .returned (.int .i64 E) ∧ (E = 0 → J (nxt z a (at_ + n)) W') ∧ (E ≠ 0 → R E W')) :
    Calls Try.prog 76 #[.pointer (some ⟨r, 0, none⟩), .int .i64 (at_ : Nat), .int .i64 (n : Nat), .func (.func 79) #[] #[.pointer c1, .pointer c2]] w fun e w' => ∃ E, e = .returned (.int .i64 E) ∧ (E = 0 → J (at_ + n) w') ∧ (E ≠ 0 → R E w') := by
  have y0 : (at_ : Int) + n ≤ 1099511627776 := by omega
  obtain ⟨e, he⟩ : ∃ e, e = at_ + n := ⟨_, rfl⟩
  have he' : (at_ : Int) + n = (e : Nat) := by omega
  rw [← he] at hS hb ⊢
  have hae : at_ ≤ e := by omega
  have y3 : (e : Int) ≤ 1099511627776 := by omega
  clear he y0
  go_enter Try.func76, Try.ntmps76
  go_wp2_with fail
  go_loopw [1, 10, 11, 12, 13] (fun av _ _ _ _ wr => ∃ a : Nat, av = .int .i64 a ∧ at_ ≤ a ∧ a ≤ e ∧ J a wr) (fun av _ _ _ _ _ => e - (intOf av).toNat)
  case atStart => exact ⟨at_, rfl, Nat.le_refl _, hae, h0⟩
  case round =>
    obtain ⟨a, rfl, ha1, ha2, hJ⟩ := hrel
    by_cases hlt : a < e
    · have y1 : (a : Int) < e := by omega
      have hr := hB a wr hJ
      have ST := hS a wr hJ ha1 hlt
      have h1 := toC_gt hlt hz
      have h2 := toC_le z a e
      have h3 : nxt z a e = a + (toC z a e - a % z) := rfl
      have h4 : toC z a e = min z (a % z + (e - a)) := rfl
      have h5 := nxt_le (z := z) ha2
      have h6 := nxt_gt hlt hz
      have hml := Nat.mod_lt a hz
      have hdl : a / z ≤ a := Nat.div_le_self a z
      obtain ⟨S, hS'⟩ : ∃ S, S = a / z := ⟨_, rfl⟩
      obtain ⟨M, hM'⟩ : ∃ M, M = a % z := ⟨_, rfl⟩
      obtain ⟨T, hT'⟩ : ∃ M, M = toC z a e := ⟨_, rfl⟩
      obtain ⟨X, hX'⟩ : ∃ M, M = nxt z a e := ⟨_, rfl⟩
      have q1 : (a : Int) / (z : Int) = (S : Nat) := by rw [hS']; exact (Int.natCast_ediv a z).symm
      have q2 : (a : Int) % (z : Int) = (M : Nat) := by rw [hM']; exact (Int.natCast_emod a z).symm
      rw [← hS', ← hM', ← hT', ← hX'] at ST
      rw [← hT', ← hM', ← hX'] at h3
      rw [← hT', ← hM'] at h1 h4
      rw [← hT'] at h2
      rw [← hX'] at h5 h6
      rw [← hM'] at hml
      rw [← hS'] at hdl
      clear hS' hM' hT' hX'
      have q0 : ((f + S : Nat) : Int) = (f : Int) + (S : Nat) := by omega
      rw [q0] at ST
      have z1 : (0 : Int) < z := by omega
      have z2 : (z : Int) ≠ 0 := by omega
      have z3 : (M : Int) < z := by omega
      have z4 : (S : Int) ≤ a := by omega
      have z5 : (z : Int) ≤ 4096 := by omega
      have z6 : (f : Int) ≤ 65536 := by omega
      have z7 : (a : Int) + ((T : Int) - M) = (X : Nat) := by omega
      have HX := Lib.hid (And.intro h3 (And.intro h5 (And.intro h6 (And.intro h1 h2))))
      have c3 := hr.cell' (i := 3) rfl
      have c1' := hr.cell' (i := 1) rfl
      have c0' := hr.cell' (i := 0) rfl
      clear hr h3 h5 h6 q0 hdl
      by_cases hc : z ≤ M + (e - a)
      · obtain rfl : T = z := by omega
        have z8 : (T : Int) ≤ M + e - a := by omega
        clear h4 h1 h2 hc
        go_upto_region 7 with (go_at_call 79; refine (ST).mono ?_; rintro e w1 ⟨E, rfl, hE0, hE1⟩)
        by_cases hE : E = 0
        · subst hE
          have hJ' := hE0 rfl
          have hx := HX.out
          clear hE0 hE1
          go_wp2_with fail
          go_roundw
          case rel => exact ⟨X, congrArg (Value.int IntKind.i64) (by omega), by omega, by omega, hJ'⟩
          case measure => simp [intOf]; omega
        · have hJ' := hE1 hE
          have hb : (E == 0) = false := by rw [beq_eq_false_iff_ne]; exact hE
          clear hE0 hE1
          go_wp2_with fail
          go_ret
          exact ⟨E, rfl, fun h => absurd h hE, fun _ => hJ'⟩
      · have z8 : (M : Int) + e - a < z := by omega
        have z9 : (M : Int) + e - a = (T : Nat) := by omega
        clear h4 h1 h2 hc
        go_upto_region 7 with (go_at_call 79; refine (ST).mono ?_; rintro e w1 ⟨E, rfl, hE0, hE1⟩)
        by_cases hE : E = 0
        · subst hE
          have hJ' := hE0 rfl
          have hx := HX.out
          clear hE0 hE1
          go_wp2_with fail
          go_roundw
          case rel => exact ⟨X, congrArg (Value.int IntKind.i64) (by omega), by omega, by omega, hJ'⟩
          case measure => simp [intOf]; omega
        · have hJ' := hE1 hE
          have hb : (E == 0) = false := by rw [beq_eq_false_iff_ne]; exact hE
          clear hE0 hE1
          go_wp2_with fail
          go_ret
          exact ⟨E, rfl, fun h => absurd h hE, fun _ => hJ'⟩
    · obtain rfl : a = e := by omega
      go_wp2_with fail
      go_ret
      exact ⟨0, rfl, fun _ => hJ, fun h => absurd rfl h⟩
set_option maxHeartbeats 4000000 in
theorem eachW_any (r p f c z : Nat) (c1 c2 : Option Addr) (at_ n : Nat) (J : Nat → World → Prop) (R : Int → World → Prop) (w : World) (hz : 0 < z) (hz2 : z ≤ 4096) (hf : f ≤ 65536) (hb : at_ + n ≤ 1099511627776) (h0 : J at_ w)
    (hB : ∀ a W, J a W → Rgn W r p f c z)
    (hS : ∀ a W, J a W → at_ ≤ a → a < at_ + n → Calls Try.prog 77 #[.int .i64 ((f + a / z : Nat) : Int), .int .i64 ((a % z : Nat) : Int), .int .i64 ((toC z a (at_ + n) : Nat) : Int), .pointer c1, .pointer c2] W fun e W' => ∃ E, e = .returned (.int .i64 E) ∧ (E = 0 → J (nxt z a (at_ + n)) W') ∧ (E ≠ 0 → R E W')) :
    Calls Try.prog 76 #[.pointer (some ⟨r, 0, none⟩), .int .i64 (at_ : Nat), .int .i64 (n : Nat), .func (.func 77) #[] #[.pointer c1, .pointer c2]] w fun e w' => ∃ E, e = .returned (.int .i64 E) ∧ (E = 0 → J (at_ + n) w') ∧ (E ≠ 0 → R E w') := by
  have y0 : (at_ : Int) + n ≤ 1099511627776 := by omega
  obtain ⟨e, he⟩ : ∃ e, e = at_ + n := ⟨_, rfl⟩
  have he' : (at_ : Int) + n = (e : Nat) := by omega
  rw [← he] at hS hb ⊢
  have hae : at_ ≤ e := by omega
  have y3 : (e : Int) ≤ 1099511627776 := by omega
  clear he y0
  go_enter Try.func76, Try.ntmps76
  go_wp2_with fail
  go_loopw [1, 10, 11, 12, 13] (fun av _ _ _ _ wr => ∃ a : Nat, av = .int .i64 a ∧ at_ ≤ a ∧ a ≤ e ∧ J a wr) (fun av _ _ _ _ _ => e - (intOf av).toNat)
  case atStart => exact ⟨at_, rfl, Nat.le_refl _, hae, h0⟩
  case round =>
    obtain ⟨a, rfl, ha1, ha2, hJ⟩ := hrel
    by_cases hlt : a < e
    · have y1 : (a : Int) < e := by omega
      have hr := hB a wr hJ
      have ST := hS a wr hJ ha1 hlt
      have h1 := toC_gt hlt hz
      have h2 := toC_le z a e
      have h3 : nxt z a e = a + (toC z a e - a % z) := rfl
      have h4 : toC z a e = min z (a % z + (e - a)) := rfl
      have h5 := nxt_le (z := z) ha2
      have h6 := nxt_gt hlt hz
      have hml := Nat.mod_lt a hz
      have hdl : a / z ≤ a := Nat.div_le_self a z
      obtain ⟨S, hS'⟩ : ∃ S, S = a / z := ⟨_, rfl⟩
      obtain ⟨M, hM'⟩ : ∃ M, M = a % z := ⟨_, rfl⟩
      obtain ⟨T, hT'⟩ : ∃ M, M = toC z a e := ⟨_, rfl⟩
      obtain ⟨X, hX'⟩ : ∃ M, M = nxt z a e := ⟨_, rfl⟩
      have q1 : (a : Int) / (z : Int) = (S : Nat) := by rw [hS']; exact (Int.natCast_ediv a z).symm
      have q2 : (a : Int) % (z : Int) = (M : Nat) := by rw [hM']; exact (Int.natCast_emod a z).symm
      rw [← hS', ← hM', ← hT', ← hX'] at ST
      rw [← hT', ← hM', ← hX'] at h3
      rw [← hT', ← hM'] at h1 h4
      rw [← hT'] at h2
      rw [← hX'] at h5 h6
      rw [← hM'] at hml
      rw [← hS'] at hdl
      clear hS' hM' hT' hX'
      have q0 : ((f + S : Nat) : Int) = (f : Int) + (S : Nat) := by omega
      rw [q0] at ST
      have z1 : (0 : Int) < z := by omega
      have z2 : (z : Int) ≠ 0 := by omega
      have z3 : (M : Int) < z := by omega
      have z4 : (S : Int) ≤ a := by omega
      have z5 : (z : Int) ≤ 4096 := by omega
      have z6 : (f : Int) ≤ 65536 := by omega
      have z7 : (a : Int) + ((T : Int) - M) = (X : Nat) := by omega
      have HX := Lib.hid (And.intro h3 (And.intro h5 (And.intro h6 (And.intro h1 h2))))
      have c3 := hr.cell' (i := 3) rfl
      have c1' := hr.cell' (i := 1) rfl
      have c0' := hr.cell' (i := 0) rfl
      clear hr h3 h5 h6 q0 hdl
      by_cases hc : z ≤ M + (e - a)
      · obtain rfl : T = z := by omega
        have z8 : (T : Int) ≤ M + e - a := by omega
        clear h4 h1 h2 hc
        go_upto_region 7 with (go_at_call 77; refine (ST).mono ?_; rintro e w1 ⟨E, rfl, hE0, hE1⟩)
        by_cases hE : E = 0
        · subst hE
          have hJ' := hE0 rfl
          have hx := HX.out
          clear hE0 hE1
          go_wp2_with fail
          go_roundw
          case rel => exact ⟨X, congrArg (Value.int IntKind.i64) (by omega), by omega, by omega, hJ'⟩
          case measure => simp [intOf]; omega
        · have hJ' := hE1 hE
          have hb : (E == 0) = false := by rw [beq_eq_false_iff_ne]; exact hE
          clear hE0 hE1
          go_wp2_with fail
          go_ret
          exact ⟨E, rfl, fun h => absurd h hE, fun _ => hJ'⟩
      · have z8 : (M : Int) + e - a < z := by omega
        have z9 : (M : Int) + e - a = (T : Nat) := by omega
        clear h4 h1 h2 hc
        go_upto_region 7 with (go_at_call 77; refine (ST).mono ?_; rintro e w1 ⟨E, rfl, hE0, hE1⟩)
        by_cases hE : E = 0
        · subst hE
          have hJ' := hE0 rfl
          have hx := HX.out
          clear hE0 hE1
          go_wp2_with fail
          go_roundw
          case rel => exact ⟨X, congrArg (Value.int IntKind.i64) (by omega), by omega, by omega, hJ'⟩
          case measure => simp [intOf]; omega
        · have hJ' := hE1 hE
          have hb : (E == 0) = false := by rw [beq_eq_false_iff_ne]; exact hE
          clear hE0 hE1
          go_wp2_with fail
          go_ret
          exact ⟨E, rfl, fun h => absurd h hE, fun _ => hJ'⟩
    · obtain rfl : a = e := by omega
      go_wp2_with fail
      go_ret
      exact ⟨0, rfl, fun _ => hJ, fun h => absurd rfl h⟩
end Go.Proofs.Ytdmnogmhnhjdgaa
