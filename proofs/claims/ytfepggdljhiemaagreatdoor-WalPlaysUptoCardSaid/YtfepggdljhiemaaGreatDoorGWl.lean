import Derived.Test.YtfepggdljhiemaaGreatDoorGFr
import Derived.Test.YtfepggdljhiemaaGreatDoorGSl
import Derived.Test.YtfepggdljhiemaaGreatDoorGRi
import Derived.Test.YtfepggdljhiemaaGreatDoorSwG
import Derived.Test.YtfepggdljhiemaaGreatDoorSwI
import Derived.Test.YtfepggdljhiemaaGreatDoorGRg
/-! Wal: the plain law: what a log holds, what lies in its region through crashes. -/
set_option linter.unusedVariables false
set_option linter.unusedSimpArgs false
set_option maxRecDepth 100000
namespace Go.Proofs.YtfepggdljhiemaaGreatDoor
open Go.RowKit Gw

/-- a log: the bytes that are not written yet, where they begin, up to which number all is durable, the last number, the epoch -/
structure Ls where
  b : List UInt8
  g : Nat
  d : Nat
  t : Nat
  e : Nat
def Ls.u (s : Ls) : Nat := s.g + s.b.length
def Ls.fits (s : Ls) (N : Nat) (n : Int) : Bool := decide ((0 ≤ n ∧ n ≤ 32) ∧ s.t ≠ 18446744073709551615 ∧ 22 + n ≤ (N : Int) - (s.u : Nat))
def Ls.appE (s : Ls) (N : Nat) (l : List UInt8) : Int := if 32 < l.length then 3 else if s.fits N l.length = true then 0 else 6
def Ls.put (s : Ls) (l : List UInt8) : Ls := ⟨s.b ++ frame s.e (s.t + 1) l, s.g, s.d, s.t + 1, s.e⟩
def Ls.app (s : Ls) (N : Nat) (l : List UInt8) : Ls := if s.appE N l = 0 then s.put l else s
def Ls.appN (s : Ls) (N : Nat) (l : List UInt8) : Nat := if s.appE N l = 0 then s.t + 1 else 0
def Ls.settle (s : Ls) : Ls := ⟨[], s.u, s.t, s.t, s.e⟩
def Ls.reset (s : Ls) (e : Nat) : Ls := ⟨[], 0, s.t, s.t, e⟩
/-- Flush: the device, the log, the answer -/
def flG (c : Nat) (v : Pv) (s : Ls) : Pv × Ls × Int :=
  if s.d = s.t then (v, s, 0) else ((putG 1 c 64 v (s.g : Nat) s.b).1, if (putG 1 c 64 v (s.g : Nat) s.b).2 = 0 then s.settle else s, (putG 1 c 64 v (s.g : Nat) s.b).2)
structure LsOk (s : Ls) (N : Nat) : Prop where
  e : s.e < 18446744073709551616
  t : s.t < 18446744073709551616
  d : s.d < 18446744073709551616
  n : s.u ≤ N
theorem appE_zero {s : Ls} {N : Nat} {l : List UInt8} (h : s.appE N l = 0) : l.length ≤ 32 ∧ s.t ≠ 18446744073709551615 ∧ s.u + (22 + l.length) ≤ N := by
  unfold Ls.appE at h
  split at h
  · exact absurd h (by decide)
  · split at h
    · rename_i h2
      have := of_decide_eq_true h2
      omega
    · exact absurd h (by decide)
theorem put_u (s : Ls) (l : List UInt8) : (s.put l).u = s.u + (22 + l.length) := by
  show s.g + (s.b ++ frame s.e (s.t + 1) l).length = s.g + s.b.length + _
  rw [List.length_append, frame_len]
  omega
theorem LsOk.app {s : Ls} {N : Nat} (h : LsOk s N) (l : List UInt8) : LsOk (s.app N l) N := by
  unfold Ls.app
  split
  · rename_i h0
    obtain ⟨h1, h2, h3⟩ := appE_zero h0
    have ht := h.t
    exact ⟨h.e, by show s.t + 1 < _; omega, h.d, by rw [put_u]; omega⟩
  · exact h
theorem LsOk.settle {s : Ls} {N : Nat} (h : LsOk s N) : LsOk s.settle N := ⟨h.e, h.t, h.t, by show s.u + 0 ≤ N; have := h.n; omega⟩
theorem LsOk.reset {s : Ls} {N : Nat} (h : LsOk s N) {e : Nat} (he : e < 18446744073709551616) : LsOk (s.reset e) N := ⟨he, h.t, h.t, by show 0 + 0 ≤ N; omega⟩
theorem LsOk.fl {s : Ls} {c : Nat} (h : LsOk s (c * 64)) (v : Pv) : LsOk (flG c v s).2.1 (c * 64) := by
  unfold flG
  split
  · exact h
  · dsimp only
    split
    · exact h.settle
    · exact h
/-- a log's numbers, told by the bodies since its last reset: k of them are durable -/
structure Rw (s : Ls) (f : Nat) (ls : List (List UInt8)) (j : Nat) : Prop where
  t : s.t = f + ls.length
  d : s.d = f + j
  k : j ≤ ls.length
  g : s.g = (catB s.e f (ls.take j)).length
  b : s.b = catB s.e (f + j) (ls.drop j)
  l : ∀ x ∈ ls, x.length ≤ 32
theorem catB_add (e : Nat) : ∀ (k s : Nat) (ls : List (List UInt8)), k ≤ ls.length → catB e s (ls.take k) ++ catB e (s + k) (ls.drop k) = catB e s ls
  | 0, s, ls, _ => rfl
  | k + 1, s, x :: ls, h => by
    rw [List.take_succ_cons, List.drop_succ_cons]
    show (frame e (s + 1) x ++ catB e (s + 1) (ls.take k)) ++ catB e (s + (k + 1)) (ls.drop k) = frame e (s + 1) x ++ catB e (s + 1) ls
    rw [List.append_assoc, show s + (k + 1) = s + 1 + k by omega, catB_add e k (s + 1) ls (by simpa using h)]
  | k + 1, s, [], h => absurd h (by simp)
theorem Rw.cat {s : Ls} {f k : Nat} {ls : List (List UInt8)} (h : Rw s f ls k) : catB s.e f (ls.take k) ++ s.b = catB s.e f ls := by rw [h.b]; exact catB_add _ _ _ _ h.k
theorem Rw.u {s : Ls} {f k : Nat} {ls : List (List UInt8)} (h : Rw s f ls k) : s.u = (catB s.e f ls).length := by
  rw [← h.cat, List.length_append, ← h.g]
  rfl
theorem Rw.new (f e : Nat) : Rw ⟨[], 0, f, f, e⟩ f [] 0 := ⟨rfl, rfl, Nat.le_refl _, rfl, rfl, fun _ h => nomatch h⟩
theorem Rw.put {s : Ls} {f k : Nat} {ls : List (List UInt8)} (h : Rw s f ls k) {l : List UInt8} (hl : l.length ≤ 32) : Rw (s.put l) f (ls ++ [l]) k := by
  have hk := h.k
  refine ⟨?_, h.d, by rw [List.length_append]; omega, ?_, ?_, fun x hx => (List.mem_append.1 hx).elim (h.l x) (fun e => by simp at e; rw [e]; exact hl)⟩
  · show s.t + 1 = _
    rw [h.t, List.length_append]
    rfl
  · show s.g = (catB s.e f ((ls ++ [l]).take k)).length
    rw [List.take_append_of_le_length hk]
    exact h.g
  · show s.b ++ frame s.e (s.t + 1) l = catB s.e (f + k) ((ls ++ [l]).drop k)
    rw [List.drop_append_of_le_length hk, catB_snoc, ← h.b, h.t, List.length_drop]
    congr 2
    omega
theorem Rw.app {s : Ls} {f k N : Nat} {ls : List (List UInt8)} (h : Rw s f ls k) (l : List UInt8) : Rw (s.app N l) f (if s.appE N l = 0 then ls ++ [l] else ls) k := by
  unfold Ls.app
  split
  · rename_i h0
    exact h.put (appE_zero h0).1
  · exact h
theorem Rw.settle {s : Ls} {f k : Nat} {ls : List (List UInt8)} (h : Rw s f ls k) : Rw s.settle f ls ls.length := by
  refine ⟨h.t, h.t, Nat.le_refl _, ?_, ?_, h.l⟩
  · show s.u = (catB s.e f (ls.take ls.length)).length
    rw [List.take_length]
    exact h.u
  · show [] = catB s.e (f + ls.length) (ls.drop ls.length)
    rw [List.drop_length]
    rfl
theorem Rw.reset {s : Ls} {f k : Nat} {ls : List (List UInt8)} (_ : Rw s f ls k) (e : Nat) : Rw (s.reset e) s.t [] 0 := Rw.new s.t e
/-- a sector's bytes that lie below a place are these -/
def PrQ (C : List UInt8) (s : Nat) (b : List UInt8) : Prop := b.length = 64 ∧ ∀ j, j < 64 → s * 64 + j < C.length → b.getD j 0 = C.getD (s * 64 + j) 0
theorem PrQ.tear {C : List UInt8} {s : Nat} (k : Nat) (a b : List UInt8) (ha : PrQ C s a) (hb : PrQ C s b) : PrQ C s (tear k a b) := by
  refine ⟨tear_len ha.1 hb.1, fun j h1 h2 => ?_⟩
  rcases tear_get k a b j ha.1 hb.1 with h | h
  · rw [h]; exact ha.2 j h1 h2
  · rw [h]; exact hb.2 j h1 h2
/-- a region's first bytes are these, and stay so through crashes -/
def Pre (C : List UInt8) (c : Nat) (m : Dm) : Prop := ∀ s, s < c → InvS (PrQ C s) m (1 + s)
theorem Pre.re {C : List UInt8} {c : Nat} {v : Pv} (h : Pre C c v.m) (F : List (Int × Int)) : Pre C c (v.re F).m := fun s hs => inv_re (h s hs) PrQ.tear F
theorem pre_wrC {C : List UInt8} {s a T : Nat} {v : Pv} {x : List UInt8} (h : InvS (PrQ C s) v.m (1 + s)) (hC : C.length ≤ a) (hM : a % 64 < T) (hT : T ≤ 64) (hx : x.length = T - a % 64) : InvS (PrQ C s) (wrC v (1 + a / 64) (a % 64) T 64 x).1.m (1 + s) := by
  unfold wrC
  split
  · split
    · split
      · refine inv_wr (by rw [v.md_m]; exact h) fun e => ?_
        have hr : PrQ C s (v.m.read (1 + a / 64)) := by rw [e]; exact h.read
        have hl := hr.1
        refine ⟨by rw [List.length_append, List.length_append, List.length_take, List.length_drop]; omega, fun j h1 h2 => ?_⟩
        have hj : j < a % 64 := by omega
        have e2 := hr.2 j h1 h2
        rw [List.getD_eq_getElem?_getD] at e2 ⊢
        rw [List.append_assoc, List.getElem?_append_left (by rw [List.length_take]; omega), List.getElem?_take_of_lt hj]
        exact e2
      · rw [v.md.md_m, v.md_m]
        exact h
    · rw [v.md_m]
      exact h
  · split
    · exact inv_wr h fun e => ⟨by omega, fun j h1 h2 => by omega⟩
    · rw [v.md_m]
      exact h
theorem pre_wrG {C : List UInt8} {s e : Nat} : ∀ (k a : Nat) (v : Pv) (b : List UInt8), k = e - a → C.length ≤ a → b.length = e - a → InvS (PrQ C s) v.m (1 + s) → InvS (PrQ C s) (wrG 1 64 v a e b).1.m (1 + s) := by
  intro k
  induction k using Nat.strongRecOn with
  | ind k ih =>
    intro a v b hk hC hb h
    by_cases hh : a < e
    · have h1 := toC_gt (z := 64) hh (by omega)
      have h2 := toC_le 64 a e
      have h3 := nxt_gt (z := 64) hh (by omega)
      have h4 := nxt_le (z := 64) (Nat.le_of_lt hh)
      have h5 : nxt 64 a e = a + (toC 64 a e - a % 64) := rfl
      have hW : InvS (PrQ C s) (wrC v (1 + a / 64) (a % 64) (toC 64 a e) 64 (b.take (toC 64 a e - a % 64))).1.m (1 + s) := pre_wrC h hC h1 h2 (by rw [List.length_take]; omega)
      by_cases h0 : (wrC v (1 + a / 64) (a % 64) (toC 64 a e) 64 (b.take (toC 64 a e - a % 64))).2 = 0
      · rw [wrG_ok hh (by omega) h0]
        exact ih (e - nxt 64 a e) (by omega) (nxt 64 a e) _ _ rfl (by omega) (by rw [List.length_drop]; omega) hW
      · rw [wrG_no hh (by omega) h0]
        exact hW
    · rw [wrG, dif_neg (by omega)]
      exact h
theorem Pre.put {C : List UInt8} {c a : Nat} {v : Pv} {b : List UInt8} (h : Pre C c v.m) (hC : C.length ≤ a) : Pre C c (putG 1 c 64 v (a : Nat) b).1.m := fun s hs => by
  have hw : InvS (PrQ C s) (wrA 1 c 64 v (a : Nat) b).1.m (1 + s) := by
    unfold wrA
    split
    · rw [Int.toNat_natCast]
      exact pre_wrG _ a v b rfl hC (by omega) (h s hs)
    · exact h s hs
  unfold putG
  split
  · exact inv_sy hw PrQ.tear
  · exact hw
theorem Pre.read {C : List UInt8} {c : Nat} {m : Dm} (h : Pre C c m) {i : Nat} (hi : i < c * 64) (hC : i < C.length) : ab m 64 (64 + i) = C.getD i 0 := by
  have h1 := ((h (i / 64) (by omega)).read).2 (i % 64) (by omega) (by omega)
  unfold ab
  rw [show (64 + i) / 64 = 1 + i / 64 by omega, show (64 + i) % 64 = i % 64 by omega, h1]
  congr 1
  omega
theorem Pre.abs2 {C : List UInt8} {c : Nat} {m : Dm} (h : Pre C c m) (hC : C.length ≤ c * 64) : abs m 64 64 (c * 64) = C ++ abs m 64 (64 + C.length) (c * 64 - C.length) := by
  have e : abs m 64 64 C.length = C := by
    refine List.ext_getElem (by rw [abs_len]) fun j j1 j2 => ?_
    rw [abs_get, h.read (by omega) j2, List.getD_eq_getElem?_getD, List.getElem?_eq_getElem j2, Option.getD_some]
  have e2 := abs_add m 64 64 C.length (c * 64 - C.length)
  rw [e, show C.length + (c * 64 - C.length) = c * 64 by omega] at e2
  exact e2
theorem Pre.abs {C : List UInt8} {c : Nat} {m : Dm} (h : Pre C c m) (hC : C.length ≤ c * 64) : ∃ T, abs m 64 64 (c * 64) = C ++ T := ⟨_, h.abs2 hC⟩
/-- behind a Flush that told OK the bytes are there -/
theorem Pre.done {C : List UInt8} {c n n2 : Nat} {m m2 : Dm} {b : List UInt8} (h : Pre C c m) (hP : PutL 1 m n C.length b m2 n2) (hd : m.dur.length = c + 1) (hb : C.length + b.length ≤ c * 64) : Pre (C ++ b) c m2 := fun s hs => by
  have hr : m2.row = [] := hP.row
  refine ⟨?_, fun x hx => by rw [hr] at hx; cases hx⟩
  have hl : 1 + s < m2.dur.length := by rw [hP.dur, hd]; omega
  have hlen : (m2.dur.getD (1 + s) []).length = 64 := by
    rw [List.getD_eq_getElem?_getD, List.getElem?_eq_getElem hl, Option.getD_some, hP.ok.d _ (List.getElem_mem hl), hP.sz]
  refine ⟨hlen, fun j h1 h2 => ?_⟩
  rw [List.length_append] at h2
  have hread : m2.read (1 + s) = m2.dur.getD (1 + s) [] := by
    unfold Dm.read
    rw [hr]
    rfl
  have e := hP.ab ((1 + s) * 64 + j) (by rw [hd]; omega)
  unfold ab at e
  rw [show ((1 + s) * 64 + j) / 64 = 1 + s by omega, show ((1 + s) * 64 + j) % 64 = j by omega, hread] at e
  rw [e]
  split
  · rename_i hh
    rw [List.getD_eq_getElem?_getD, List.getD_eq_getElem?_getD, List.getElem?_append_right (by omega)]
    congr 2
    omega
  · rename_i hh
    have e3 := h.read (i := s * 64 + j) (by omega) (by omega)
    unfold ab at e3
    rw [show (64 + (s * 64 + j)) / 64 = 1 + s by omega, show (64 + (s * 64 + j)) % 64 = j by omega] at e3
    rw [e3, List.getD_eq_getElem?_getD, List.getD_eq_getElem?_getD, List.getElem?_append_left (by omega)]
theorem Pre.nil {c : Nat} {m : Dm} (hok : m.ok) (hz : m.sz = 64) (hd : m.dur.length = c + 1) : Pre [] c m := fun s hs => by
  have hl : 1 + s < m.dur.length := by omega
  refine ⟨⟨?_, fun j _ h => by simp at h⟩, fun x hx _ => ⟨by rw [(hok.r x hx).2, hz], fun j _ h => by simp at h⟩⟩
  rw [List.getD_eq_getElem?_getD, List.getElem?_eq_getElem hl, Option.getD_some, hok.d _ (List.getElem_mem hl), hz]
theorem rowB_at (e : Nat) : ∀ (ls : List (List UInt8)) (s p i : Nat) (h : i < ls.length), ∃ q, (rowB e s p ls)[i]? = some (q, ⟨e, s + i + 1, ls[i]⟩)
  | x :: ls, s, p, 0, _ => ⟨p, rfl⟩
  | x :: ls, s, p, i + 1, h => by
    obtain ⟨q, hq⟩ := rowB_at e ls (s + 1) (p + (22 + x.length)) i (by simpa using h)
    refine ⟨q, ?_⟩
    show (rowB e (s + 1) (p + (22 + x.length)) ls)[i]? = _
    rw [hq, show s + 1 + i + 1 = s + (i + 1) + 1 by omega]
    rfl
theorem val_zeros : ∀ k, val (List.replicate k 0) = 0
  | 0 => rfl
  | k + 1 => by
    rw [List.replicate_succ, val_cons, val_zeros k]
    rfl
/-- behind the frames nothing but zeros: no more is found -/
theorem step_zero {A : List UInt8} {k e s : Nat} (he : e ≠ 0) : stepF (A ++ List.replicate k 0) e s A.length = false := by
  have hz : (parF (List.replicate k 0)).e = 0 := by
    show nb (List.replicate k 0) 2 8 = 0
    unfold nb
    rw [List.drop_replicate, List.take_replicate]
    exact val_zeros _
  unfold stepF
  rw [List.drop_left, hz]
  simp [Ne.symm he]
theorem found_all {e f k : Nat} {ls : List (List UInt8)} (he : e < 18446744073709551616) (he0 : e ≠ 0) (hl : ∀ l ∈ ls, l.length ≤ 32) (hs : f + ls.length < 18446744073709551616) : rowS (catB e f ls ++ List.replicate k 0) e f 0 = rowB e f 0 ls := by
  have := rowS_cat he (List.replicate k 0) ls [] f hl hs (by
    have := step_zero (A := catB e f ls) (k := k) (s := f + ls.length) he0
    simpa using this)
  simpa using this
end Go.Proofs.YtfepggdljhiemaaGreatDoor

/-! Wal: a log in memory; its small methods. -/
namespace Go.Proofs.YtfepggdljhiemaaGreatDoor
open Go.RowKit Gw

def lgC (bw : Value) (s : Ls) (r : Nat) : List Value := [bw, .int .i64 (s.g : Nat), .int .u64 (s.d : Nat), .int .u64 (s.t : Nat), .pointer (some ⟨r, 0, none⟩), .int .u64 (s.e : Nat)]
/-- a log in memory -/
structure Lg (w : World) (l r : Nat) (bw : Value) (s : Ls) : Prop where
  b : Blk w l 89 (lgC bw s r)
  o : Ob w bw s.b
theorem Lg.ext {w w' : World} {l r : Nat} {bw : Value} {s : Ls} (h : Lg w l r bw s) (hm : Mod [] w w') : Lg w' l r bw s := ⟨h.b.ext hm, h.o.ext hm⟩
theorem Lg.mod {w w' : World} {l r : Nat} {bw : Value} {s : Ls} {G : List Nat} (h : Lg w l r bw s) (hm : Mod G w w') (h1 : l ∉ G) (h2 : ∀ k ∈ blks bw, k ∉ G) : Lg w' l r bw s := ⟨h.b.mod hm h1, h.o.mod hm h2⟩
/-- no log -/
def NoLg (w : World) (v : Value) : Prop := v = .pointer none ∨ ∃ l c0 c1 c2 c3 c5, v = .pointer (some ⟨l, 0, none⟩) ∧ Blk w l 89 [c0, c1, c2, c3, .pointer none, c5]
theorem lused_any (l r : Nat) (bw : Value) (s : Ls) (w : World) (h : Lg w l r bw s) (hn : s.u ≤ 1000000) : Calls Tryz.prog 122 #[.pointer (some ⟨l, 0, none⟩)] w fun e w' => e = .returned (.int .i64 (s.u : Nat)) ∧ Mod [] w w' := by
  obtain ⟨b, g, d, t, ep⟩ := s
  obtain ⟨hb, ho⟩ := h
  unfold Ls.u lgC at *
  dsimp only at *
  obtain ⟨ao, cap, rfl, hc1, hc2⟩ := Ob.nxR ho rfl
  go_enter Tryz.func122, Tryz.ntmps122
  go_wp2_with fail
  refine wp_region_T [⟨0, true, []⟩, ⟨1, true, []⟩, ⟨2, true, []⟩, ⟨3, true, []⟩, ⟨4, true, []⟩, ⟨5, true, []⟩, ⟨6, true, []⟩, ⟨7, true, []⟩, ⟨8, true, []⟩, ⟨9, true, []⟩, ⟨10, true, []⟩] (by kernel_rfl) (by kernel_rfl) ?_
  have hm0 := Mod.drew [] w
  obtain ⟨x, hx⟩ : ∃ x, x = w.drew := ⟨_, rfl⟩
  rw [← hx] at hm0 ⊢
  clear hx
  have hb0 := hb.ext hm0
  have c0 := Blk.cell' hb0 (i := 0) rfl
  have c1 := Blk.cell' hb0 (i := 1) rfl
  iterate 11 (refine wpT_n rfl rfl (fun K hK => ?_); go_wp2_with fail)
  refine wpT_nil ?_
  go_wp2_with fail
  go_ret
  exact ⟨by simp, hm0⟩
theorem lnext_yes (l r : Nat) (bw : Value) (s : Ls) (w : World) (h : Lg w l r bw s) (ht : s.t < 18446744073709551616) (hn : s.t ≠ 18446744073709551615) : Calls Tryz.prog 37 #[.pointer (some ⟨l, 0, none⟩)] w fun e w' => e = .returned (.tuple #[.int .u64 (s.t + 1 : Nat), .bool true]) ∧ w = w' := by
  obtain ⟨b, g, d, t, ep⟩ := s
  obtain ⟨hb, ho⟩ := h
  unfold lgC at *
  dsimp only at *
  have c3 := Blk.cell' hb (i := 3) rfl
  have d1 : decide ((t : Int) = 18446744073709551615) = false := decide_eq_false (by omega)
  go_enter Tryz.func37, Tryz.ntmps37
  go_wp2_with fail
  refine bodyPost_ret (v := .tuple #[.int .u64 ((t : Int) + 1), .bool true]) (by simp [results, Tryz.results37, go_sem]) rfl ?_
  exact ⟨by simp, rfl⟩
theorem lnext_no (l r : Nat) (bw : Value) (s : Ls) (w : World) (h : Lg w l r bw s) (hn : s.t = 18446744073709551615) : Calls Tryz.prog 37 #[.pointer (some ⟨l, 0, none⟩)] w fun e w' => e = .returned (.tuple #[.int .u64 0, .bool false]) ∧ w = w' := by
  obtain ⟨b, g, d, t, ep⟩ := s
  obtain ⟨hb, ho⟩ := h
  unfold lgC at *
  dsimp only at *
  subst hn
  have c3 := Blk.cell' hb (i := 3) rfl
  go_enter Tryz.func37, Tryz.ntmps37
  go_wp2_with fail
  refine bodyPost_ret (v := .tuple #[.int .u64 0, .bool false]) (by simp [results, Tryz.results37, go_sem]) rfl ?_
  exact ⟨rfl, rfl⟩
theorem lsettle_any (l r : Nat) (bw : Value) (s : Ls) (w : World) (h : Lg w l r bw s) (hn : s.u ≤ 1000000) : Calls Tryz.prog 41 #[.pointer (some ⟨l, 0, none⟩)] w fun e w' => e = .returned (.tuple #[]) ∧ Lg w' l r (.slice none 0 0) s.settle ∧ Mod [l] w w' := by
  obtain ⟨b, g, d, t, ep⟩ := s
  obtain ⟨hb, ho⟩ := h
  unfold Ls.settle
  unfold Ls.u lgC at *
  dsimp only at *
  obtain ⟨ao, cap, rfl, hc1, hc2⟩ := Ob.nxR ho rfl
  have c0 := Blk.cell' hb (i := 0) rfl
  have c1 := Blk.cell' hb (i := 1) rfl
  go_enter Tryz.func41, Tryz.ntmps41
  go_wp2_with fail
  refine wp_region_T [⟨0, true, []⟩, ⟨1, true, []⟩, ⟨2, true, []⟩, ⟨3, true, []⟩, ⟨4, true, []⟩, ⟨5, true, []⟩, ⟨6, true, []⟩, ⟨7, true, []⟩, ⟨8, true, []⟩, ⟨9, true, []⟩, ⟨10, true, []⟩, ⟨11, true, []⟩, ⟨12, false, []⟩] (by kernel_rfl) (by kernel_rfl) ?_
  have hm0 := Mod.drew [] w
  obtain ⟨x, hx⟩ : ∃ x, x = w.drew := ⟨_, rfl⟩
  rw [← hx] at hm0 ⊢
  clear hx
  have hb0 := hb.ext hm0
  have c0 := Blk.cell' hb0 (i := 0) rfl
  have c1 := Blk.cell' hb0 (i := 1) rfl
  iterate 12 (refine wpT_n rfl rfl (fun K hK => ?_); go_wp2_with fail)
  refine wpT_e0 rfl rfl (fun K hK => ?_)
  refine wp_store1 (by kernel_rfl) (by rfl) (u := .int .i64 ((g : Int) + (b.length : Int))) (by rfl) ⟨rfl, rfl⟩ hb0 (by simp) ?_
  intro w1 hm1 hB1
  refine hK _ _ ?_
  clear hK K
  go_wp2_with fail
  refine wpT_nil ?_
  go_wp2_with (with_reducible refine st_store ?_)
  refine StopOp.go rfl fun K hK => ?_
  refine wp_store1 (by kernel_rfl) (by rfl) (u := .slice none 0 0) (by rfl) ⟨rfl, rfl⟩ hB1 (by simp) ?_
  intro w2 hm2 hB2
  refine hK _ _ ?_
  clear hK K
  have hB2' : Blk w2 l 89 [.slice none 0 0, .int .i64 ((g : Int) + (b.length : Int)), .int .u64 (d : Nat), .int .u64 (t : Nat), .pointer (some ⟨r, 0, none⟩), .int .u64 (ep : Nat)] := hB2
  have c3 := Blk.cell' hB2' (i := 3) rfl
  go_wp2_with (with_reducible refine st_store ?_)
  refine StopOp.go rfl fun K hK => ?_
  refine wp_store1 (by kernel_rfl) (by rfl) (u := .int .u64 (t : Nat)) (by rfl) ⟨rfl, rfl⟩ hB2' (by simp) ?_
  intro w3 hm3 hB3
  refine hK _ _ ?_
  clear hK K
  go_wp2_with fail
  go_end0
  refine ⟨rfl, ⟨?_, Ow.nil _ _ _⟩, (((hm0.weak (by simp)).trans hm1).trans hm2).trans hm3⟩
  have hB3' : Blk w3 l 89 [.slice none 0 0, .int .i64 ((g : Int) + (b.length : Int)), .int .u64 (t : Nat), .int .u64 (t : Nat), .pointer (some ⟨r, 0, none⟩), .int .u64 (ep : Nat)] := hB3
  unfold lgC
  rw [show (((⟨[], g + b.length, t, t, ep⟩ : Ls).g : Nat) : Int) = (g : Int) + (b.length : Int) from Int.natCast_add _ _]
  exact hB3'
theorem lmade_yes (l r : Nat) (bw : Value) (s : Ls) (w : World) (h : Lg w l r bw s) : Calls Tryz.prog 35 #[.pointer (some ⟨l, 0, none⟩)] w fun e w' => e = .returned (.bool true) ∧ w = w' := by
  have hb := h.b
  unfold lgC at hb
  have c4 := Blk.cell' hb (i := 4) rfl
  go_enter Tryz.func35, Tryz.ntmps35
  go_wp2_with fail
  go_ret
  exact ⟨rfl, rfl⟩
theorem lnew_yes (r p c e f : Nat) (w : World) (h : Rgn w r p 1 c 64) (hc : 1 ≤ c) (hc2 : c ≤ 1000) : Calls Tryz.prog 6 #[.pointer (some ⟨r, 0, none⟩), .int .u64 (e : Nat), .int .u64 (f : Nat)] w fun en w' => ∃ l, en = .returned (.tuple #[.pointer (some ⟨l, 0, none⟩), .int .i64 0]) ∧ Lg w' l r (.slice none 0 0) ⟨[], 0, f, f, e⟩ ∧ w.heap.size ≤ l ∧ Mod [] w w' := by
  have BY := fun w h => gBytes_any r p 1 c 64 w h (by omega)
  have d1 : decide (((c * 64 : Nat) : Int) = 0) = false := decide_eq_false (by omega)
  go_enter Tryz.func6, Tryz.ntmps6
  go_wp2_with (first
                | (with_reducible refine st_box ?_)
                | (go_at_call 33; (with_reducible refine (BY _ h).mono ?_); rintro e w1 ⟨rfl, hm1⟩))
  refine StopOp.go rfl fun K hK => ?_
  refine wp_box (v := .agg #[.slice none 0 0, .int .i64 0, .int .u64 (f : Nat), .int .u64 (f : Nat), .pointer (some ⟨r, 0, none⟩), .int .u64 (e : Nat)]) (by rfl) ?_
  intro l w2 hl1 hl2 hm2 hB2
  simp only [put_some, List.set_cons_succ, List.set_cons_zero]
  refine hK _ _ ?_
  clear hK K
  go_wp2_with fail
  refine bodyPost_ret (v := .tuple #[.pointer (some ⟨l, 0, none⟩), .int .i64 0]) (by simp [results, Tryz.results6, go_sem]) rfl ?_
  exact ⟨l, rfl, ⟨hB2, Ow.nil _ _ _⟩, by have := hm1.size; omega, hm1.ext hm2⟩
theorem lEpoch_any (l r : Nat) (bw : Value) (s : Ls) (w : World) (h : Lg w l r bw s) : Calls Tryz.prog 58 #[.pointer (some ⟨l, 0, none⟩)] w fun e w' => e = .returned (.int .u64 (s.e : Nat)) ∧ w = w' := by
  have MA := fun w h => lmade_yes l r bw s w h
  have hb := h.b
  unfold lgC at hb
  have c0 := Blk.cell' hb (i := 5) rfl
  go_enter Tryz.func58, Tryz.ntmps58
  go_wp2_with (go_at_call 35; (with_reducible refine (MA _ h).mono ?_); rintro e w1 ⟨rfl, rfl⟩)
  go_ret
  exact ⟨rfl, rfl⟩
theorem lLast_any (l r : Nat) (bw : Value) (s : Ls) (w : World) (h : Lg w l r bw s) : Calls Tryz.prog 59 #[.pointer (some ⟨l, 0, none⟩)] w fun e w' => e = .returned (.int .u64 (s.t : Nat)) ∧ w = w' := by
  have MA := fun w h => lmade_yes l r bw s w h
  have hb := h.b
  unfold lgC at hb
  have c0 := Blk.cell' hb (i := 3) rfl
  go_enter Tryz.func59, Tryz.ntmps59
  go_wp2_with (go_at_call 35; (with_reducible refine (MA _ h).mono ?_); rintro e w1 ⟨rfl, rfl⟩)
  go_ret
  exact ⟨rfl, rfl⟩
theorem lDurable_any (l r : Nat) (bw : Value) (s : Ls) (w : World) (h : Lg w l r bw s) : Calls Tryz.prog 49 #[.pointer (some ⟨l, 0, none⟩)] w fun e w' => e = .returned (.int .u64 (s.d : Nat)) ∧ w = w' := by
  have MA := fun w h => lmade_yes l r bw s w h
  have hb := h.b
  unfold lgC at hb
  have c0 := Blk.cell' hb (i := 2) rfl
  go_enter Tryz.func49, Tryz.ntmps49
  go_wp2_with (go_at_call 35; (with_reducible refine (MA _ h).mono ?_); rintro e w1 ⟨rfl, rfl⟩)
  go_ret
  exact ⟨rfl, rfl⟩
theorem lUsed_any (l r : Nat) (bw : Value) (s : Ls) (w : World) (h : Lg w l r bw s) (hn : s.u ≤ 1000000) : Calls Tryz.prog 48 #[.pointer (some ⟨l, 0, none⟩)] w fun e w' => e = .returned (.int .i64 (s.u : Nat)) ∧ Mod [] w w' := by
  have MA := fun w h => lmade_yes l r bw s w h
  have US := fun w h => lused_any l r bw s w h hn
  go_enter Tryz.func48, Tryz.ntmps48
  go_wp2_with (first
                | (go_at_call 35; (with_reducible refine (MA _ h).mono ?_); rintro e w1 ⟨rfl, rfl⟩)
                | (go_at_call 122; (with_reducible refine (US _ h).mono ?_); rintro e w1 ⟨rfl, hm1⟩))
  go_ret
  exact ⟨rfl, hm1⟩
theorem lRoom_any (l r p c : Nat) (bw : Value) (s : Ls) (w : World) (h : Lg w l r bw s) (hR : Rgn w r p 1 c 64) (hn : s.u ≤ c * 64) (hc : c ≤ 1000) : Calls Tryz.prog 63 #[.pointer (some ⟨l, 0, none⟩)] w fun e w' => e = .returned (.int .i64 (((c * 64 : Nat) : Int) - (s.u : Nat))) ∧ Mod [] w w' := by
  have MA := fun w h => lmade_yes l r bw s w h
  have US := fun w h => lused_any l r bw s w h (by omega)
  have BY := fun w h => gBytes_any r p 1 c 64 w h (by omega)
  obtain ⟨N, hN⟩ : ∃ N, N = c * 64 := ⟨_, rfl⟩
  obtain ⟨U, hU⟩ : ∃ U, U = s.u := ⟨_, rfl⟩
  rw [← hN] at BY hn ⊢
  rw [← hU] at US hn ⊢
  have hNs : N ≤ 64000 := by omega
  clear hN hU
  go_enter Tryz.func63, Tryz.ntmps63
  go_wp2_with (go_at_call 35; (with_reducible refine (MA _ h).mono ?_); rintro e w1 ⟨rfl, rfl⟩)
  refine wp_region_T [⟨0, true, []⟩, ⟨1, true, []⟩, ⟨2, true, []⟩, ⟨3, true, []⟩, ⟨5, true, []⟩, ⟨6, true, []⟩, ⟨7, true, []⟩, ⟨4, false, [6]⟩, ⟨8, false, []⟩, ⟨9, true, []⟩, ⟨10, true, []⟩] (by kernel_rfl) (by kernel_rfl) ?_
  have hm0 := Mod.drew [] w
  obtain ⟨x, hx⟩ : ∃ x, x = w.drew := ⟨_, rfl⟩
  rw [← hx] at hm0 ⊢
  clear hx
  have h0 := h.ext hm0
  have hR0 := Rgn.ext hR hm0
  have hb0 := h0.b
  unfold lgC at hb0
  have c4 := Blk.cell' hb0 (i := 4) rfl
  iterate 7 (refine wpT_n rfl rfl (fun K hK => ?_); go_wp2_with fail)
  refine wpT_callh rfl rfl (fun K hK => ?_)
  go_wp2_with (go_at_call 33; (with_reducible refine (BY _ hR0).mono ?_); rintro e w1 ⟨rfl, hm1⟩)
  refine ⟨(agains_cons rfl (again_const (fun _ => rfl)) agains_nil), ?_⟩
  have h1 := h0.ext hm1
  refine wpT_call rfl rfl (fun K hK => ?_)
  go_wp2_with (go_at_call 122; (with_reducible refine (US _ h1).mono ?_); rintro e w2 ⟨rfl, hm2⟩)
  iterate 2 (refine wpT_n rfl rfl (fun K hK => ?_); go_wp2_with fail)
  refine wpT_nil ?_
  go_wp2_with fail
  go_ret
  exact ⟨rfl, (hm0.ext hm1).ext hm2⟩
theorem lFits_any (l r p c : Nat) (bw : Value) (s : Ls) (n : Int) (w : World) (wn : i64 n) (h : Lg w l r bw s) (hR : Rgn w r p 1 c 64) (hn : s.u ≤ c * 64) (hc : c ≤ 1000) (ht : s.t < 18446744073709551616) : Calls Tryz.prog 36 #[.pointer (some ⟨l, 0, none⟩), .int .i64 n] w fun e w' => e = .returned (.bool (s.fits (c * 64) n)) ∧ Mod [] w w' := by
  have MA := fun w h => lmade_yes l r bw s w h
  have RO := fun w h hR => lRoom_any l r p c bw s w h hR hn hc
  have SZ := fun w => size_any n w
  obtain ⟨x1, x2⟩ := wn
  by_cases g1 : 0 ≤ n ∧ n ≤ 32
  · have e1 : decide (n < 0) = false := decide_eq_false (by omega)
    have e2 : decide (32 < n) = false := decide_eq_false (by omega)
    have e3 : decide (n > 32) = false := decide_eq_false (by omega)
    have f1 : sizeF n = 22 + n := if_neg (by omega)
    rw [f1] at SZ
    by_cases g2 : s.t = 18446744073709551615
    · have NX := fun w h => lnext_no l r bw s w h g2
      have hf : s.fits (c * 64) n = false := decide_eq_false (by omega)
      rw [hf]
      go_enter Tryz.func36, Tryz.ntmps36
      go_wp2_with (first
                    | (go_at_call 35; (with_reducible refine (MA _ h).mono ?_); rintro e w1 ⟨rfl, rfl⟩)
                    | (go_at_call 37; (with_reducible refine (NX _ h).mono ?_); rintro e w1 ⟨rfl, rfl⟩))
      go_ret
      exact ⟨rfl, Mod.refl _ _⟩
    · have NX := fun w h => lnext_yes l r bw s w h ht g2
      have hf : s.fits (c * 64) n = decide (22 + n ≤ ((c * 64 : Nat) : Int) - (s.u : Nat)) := by
        unfold Ls.fits
        rw [decide_eq_decide]
        exact ⟨fun h => h.2.2, fun h => ⟨g1, g2, h⟩⟩
      rw [hf]
      obtain ⟨U, hU⟩ : ∃ U, U = s.u := ⟨_, rfl⟩
      obtain ⟨N, hN⟩ : ∃ N, N = c * 64 := ⟨_, rfl⟩
      rw [← hN, ← hU] at RO ⊢
      clear hf f1 hU hN hn
      go_enter Tryz.func36, Tryz.ntmps36
      go_wp2_with (first
                    | (go_at_call 35; (with_reducible refine (MA _ h).mono ?_); rintro e w1 ⟨rfl, rfl⟩)
                    | (go_at_call 37; (with_reducible refine (NX _ h).mono ?_); rintro e w1 ⟨rfl, rfl⟩)
                    | (go_at_call 86; (with_reducible refine (SZ _).mono ?_); rintro e w1 ⟨rfl, rfl⟩)
                    | (go_at_call 63; (with_reducible refine (RO _ h hR).mono ?_); rintro e w1 ⟨rfl, hm1⟩))
      go_ret
      exact ⟨rfl, hm1⟩
  · have hf : s.fits (c * 64) n = false := decide_eq_false (fun h => g1 h.1)
    rw [hf]
    by_cases g2 : n < 0
    · have e1 : decide (n < 0) = true := decide_eq_true g2
      go_enter Tryz.func36, Tryz.ntmps36
      go_wp2_with (go_at_call 35; (with_reducible refine (MA _ h).mono ?_); rintro e w1 ⟨rfl, rfl⟩)
      go_ret
      exact ⟨rfl, Mod.refl _ _⟩
    · have e1 : decide (n < 0) = false := decide_eq_false g2
      have e2 : decide (32 < n) = true := decide_eq_true (by omega)
      go_enter Tryz.func36, Tryz.ntmps36
      go_wp2_with (go_at_call 35; (with_reducible refine (MA _ h).mono ?_); rintro e w1 ⟨rfl, rfl⟩)
      go_ret
      exact ⟨rfl, Mod.refl _ _⟩
theorem lReset_any (l r : Nat) (bw : Value) (s : Ls) (e' : Nat) (w : World) (h : Lg w l r bw s) (hn : s.u ≤ 1000000) : Calls Tryz.prog 53 #[.pointer (some ⟨l, 0, none⟩), .int .u64 (e' : Nat)] w fun e w' => e = .returned (.int .i64 0) ∧ Lg w' l r (.slice none 0 0) (s.reset e') ∧ Mod [l] w w' := by
  have MA := fun w h => lmade_yes l r bw s w h
  have SE := fun w h => lsettle_any l r bw s w h hn
  go_enter Tryz.func53, Tryz.ntmps53
  go_wp2_with (first
                | (with_reducible refine st_store ?_)
                | (go_at_call 35; (with_reducible refine (MA _ h).mono ?_); rintro e w1 ⟨rfl, rfl⟩)
                | (go_at_call 41; (with_reducible refine (SE _ h).mono ?_); rintro e w1 ⟨rfl, h1, hm1⟩; have hb1 := h1.b; unfold lgC Ls.settle at hb1; dsimp only at hb1))
  refine StopOp.go rfl fun K hK => ?_
  refine wp_store1 (by kernel_rfl) (by rfl) (u := .int .i64 0) (by rfl) ⟨rfl, rfl⟩ hb1 (by simp) ?_
  intro w2 hm2 hB2
  refine hK _ _ ?_
  clear hK K
  go_wp2_with (with_reducible refine st_store ?_)
  refine StopOp.go rfl fun K hK => ?_
  refine wp_store1 (by kernel_rfl) (by rfl) (u := .int .u64 (e' : Nat)) (by rfl) ⟨rfl, rfl⟩ hB2 (by simp) ?_
  intro w3 hm3 hB3
  refine hK _ _ ?_
  clear hK K
  go_wp2_with fail
  go_ret
  exact ⟨rfl, ⟨hB3, Ow.nil _ _ _⟩, (hm1.trans hm2).trans hm3⟩
end Go.Proofs.YtfepggdljhiemaaGreatDoor

/-! Wal: Append, Flush, Scan. -/
namespace Go.Proofs.YtfepggdljhiemaaGreatDoor
open Go.RowKit Gw

theorem Frs.le {w : World} {base b0 : Nat} {v : Value} {L : List Fi} (h : Frs w base v L) (hb : b0 ≤ base) : Frs w b0 v L := ⟨h.ow, ⟨fun p hp => ⟨(h.fam.ob p hp).1, fun k hk => Nat.le_trans hb ((h.fam.ob p hp).2 k hk)⟩, h.fam.dj⟩, fun k hk => Nat.le_trans hb (h.nw k hk)⟩
def AppP (w : World) (l r : Nat) (bw : Value) (s : Ls) (N : Nat) (body : List UInt8) (e : Ending) (w' : World) : Prop :=
  ∃ bw', e = .returned (.tuple #[.int .u64 (s.appN N body : Nat), .int .i64 (s.appE N body)]) ∧ Lg w' l r bw' (s.app N body) ∧ Mod (l :: blks bw) w w' ∧ ∀ k ∈ blks bw', k ∈ blks bw ∨ w.heap.size ≤ k
set_option maxHeartbeats 8000000 in
theorem append_any (l r p c : Nat) (bw : Value) (s : Ls) (body : List UInt8) (v : Value) (w : World) (h : Lg w l r bw s) (hR : Rgn w r p 1 c 64) (hT : TabC w) (hv : Bs w v body) (hok : LsOk s (c * 64)) (hc : c ≤ 1000) (hl : body.length ≤ 140737488355328) :
    Calls Tryz.prog 8 #[.pointer (some ⟨l, 0, none⟩), v] w (AppP w l r bw s (c * 64) body) := by
  obtain ⟨ao, cap, rfl, hc1, hc2⟩ := hv.form
  have MA := fun w h => lmade_yes l r bw s w h
  have hu := hok.n
  have het := hok.t
  have FI := fun w h hR => lFits_any l r p c bw s (body.length : Nat) w ⟨by omega, by omega⟩ h hR hu hc het
  unfold AppP
  by_cases g1 : 32 < body.length
  · have e0 : s.appE (c * 64) body = 3 := if_pos g1
    have e1 : s.app (c * 64) body = s := if_neg (by rw [e0]; decide)
    have e2 : s.appN (c * 64) body = 0 := if_neg (by rw [e0]; decide)
    have d1 : decide ((32 : Int) < (body.length : Int)) = true := decide_eq_true (by omega)
    have d2 : decide ((body.length : Int) > 32) = true := decide_eq_true (by omega)
    rw [e0, e1, e2]
    clear FI
    go_enter Tryz.func8, Tryz.ntmps8
    go_wp2_with (go_at_call 35; (with_reducible refine (MA _ h).mono ?_); rintro e w1 ⟨rfl, rfl⟩)
    refine bodyPost_ret (v := .tuple #[.int .u64 0, .int .i64 3]) (by simp [results, Tryz.results8, go_sem]) rfl ?_
    exact ⟨bw, rfl, h, Mod.refl _ _, fun k hk => .inl hk⟩
  · have d1 : decide ((32 : Int) < (body.length : Int)) = false := decide_eq_false (by omega)
    have d2 : decide ((body.length : Int) > 32) = false := decide_eq_false (by omega)
    cases g2 : s.fits (c * 64) (body.length : Nat) with
    | false =>
      have e0 : s.appE (c * 64) body = 6 := by unfold Ls.appE; rw [if_neg g1, g2]; rfl
      have e1 : s.app (c * 64) body = s := if_neg (by rw [e0]; decide)
      have e2 : s.appN (c * 64) body = 0 := if_neg (by rw [e0]; decide)
      rw [e0, e1, e2]
      rw [g2] at FI
      go_enter Tryz.func8, Tryz.ntmps8
      go_wp2_with (first
                    | (go_at_call 35; (with_reducible refine (MA _ h).mono ?_); rintro e w1 ⟨rfl, rfl⟩)
                    | (go_at_call 36; (with_reducible refine (FI _ h hR).mono ?_); rintro e w1 ⟨rfl, hm1⟩))
      refine bodyPost_ret (v := .tuple #[.int .u64 0, .int .i64 6]) (by simp [results, Tryz.results8, go_sem]) rfl ?_
      exact ⟨bw, rfl, h.ext hm1, hm1.weak (by simp), fun k hk => .inl hk⟩
    | true =>
      have e0 : s.appE (c * 64) body = 0 := by unfold Ls.appE; rw [if_neg g1, g2]; rfl
      have e1 : s.app (c * 64) body = s.put body := if_pos e0
      have e2 : s.appN (c * 64) body = s.t + 1 := if_pos e0
      obtain ⟨k1, k2, k3⟩ := appE_zero e0
      rw [e0, e1, e2]
      rw [g2] at FI
      have NX := fun w h => lnext_yes l r bw s w h het k2
      have PU := fun w hv hT => fput_any s.e (s.t + 1) body (.slice ao body.length cap) w hv hok.e (by omega) hT
      unfold PutF at PU
      rw [if_neg g1, if_neg g1] at PU
      have hfl := frame_len s.e (s.t + 1) body
      obtain ⟨fr, hfr⟩ : ∃ fr, fr = frame s.e (s.t + 1) body := ⟨_, rfl⟩
      have hput : s.put body = ⟨s.b ++ fr, s.g, s.d, s.t + 1, s.e⟩ := by rw [hfr]; rfl
      rw [← hfr] at PU hfl
      rw [hput]
      have hub : s.b.length ≤ 64000 := by
        have : s.u = s.g + s.b.length := rfl
        omega
      obtain ⟨t1, ht1⟩ : ∃ n, n = s.t + 1 := ⟨_, rfl⟩
      rw [← ht1] at NX PU ⊢
      clear hfr hput e0 e1 e2 g2 k2 k3 hu ht1
      go_enter Tryz.func8, Tryz.ntmps8
      go_wp2_with (first
                    | (with_reducible refine st_append ?_)
                    | (go_at_call 35; (with_reducible refine (MA _ h).mono ?_); rintro e w1 ⟨rfl, rfl⟩)
                    | (go_at_call 36; (with_reducible refine (FI _ h hR).mono ?_); rintro e w1 ⟨rfl, hm1⟩; have h1 := h.ext hm1; have hT1 := hT.ext hm1; have hv1 := hv.ext hm1; have hb1 := h1.b; unfold lgC at hb1; have c5 := Blk.cell' hb1 (i := 5) rfl; have c0 := Blk.cell' hb1 (i := 0) rfl)
                    | (go_at_call 37; (with_reducible refine (NX _ h1).mono ?_); rintro e w2 ⟨rfl, rfl⟩)
                    | (go_at_call 38; (with_reducible refine (PU _ hv1 hT1).mono ?_); rintro e w2 ⟨fv, rfl, ho2, hn2, hm2⟩; have h2 := h1.ext hm2; have hb2 := h2.b; unfold lgC at hb2; have c0' := Blk.cell' hb2 (i := 0) rfl))
      have hos2 : Sl w2 1 fv fr.length (bv fr) := ho2.bs
      have hob2 : Ow w2 5 1 bw s.b.length (bv s.b) := h2.o
      refine StopOp.go rfl fun K hK => ?_
      refine wp_append_kp stB (by rfl) (by rfl) hob2 hos2 (bv_one _) (by omega) (by omega) (by omega) ?_
      intro v3 w3 ho3 hm3 hn3 hkp
      simp only [put_some, List.set_cons_succ, List.set_cons_zero]
      refine hK _ _ ?_
      clear hK K
      have hlb : l ∉ blks bw := Ow.ne hob2 hb2 (by decide)
      have hb3 := Blk.mod hb2 hm3 hlb
      obtain ⟨ao3, cap3, rfl, _, _⟩ := Sl.form (Ow.sl ho3)
      go_wp2_with (with_reducible refine st_store ?_)
      refine StopOp.go rfl fun K hK => ?_
      refine wp_store1 (by kernel_rfl) (by rfl) (u := .slice ao3 (s.b.length + fr.length) cap3) (by rfl) ⟨rfl, rfl⟩ hb3 (by simp) ?_
      intro w4 hm4 hB4
      refine hK _ _ ?_
      clear hK K
      go_wp2_with (with_reducible refine st_store ?_)
      refine StopOp.go rfl fun K hK => ?_
      refine wp_store1 (by kernel_rfl) (by rfl) (u := .int .u64 (t1 : Nat)) (by rfl) ⟨rfl, rfl⟩ hB4 (by simp) ?_
      intro w5 hm5 hB5
      refine hK _ _ ?_
      clear hK K
      go_wp2_with fail
      refine bodyPost_ret (v := .tuple #[.int .u64 (t1 : Nat), .int .i64 0]) (by simp [results, Tryz.results8, go_sem]) rfl ?_
      have hlb3 : l ∉ blks (.slice ao3 (s.b.length + fr.length) cap3) := Ow.ne ho3 hb3 (by decide)
      have hm12 : Mod [] w w2 := hm1.ext hm2
      have z2 := hm12.size
      refine ⟨_, rfl, ⟨hB5, ?_⟩, ?_, fun k hk => (hn3 k hk).imp id (fun h => by omega)⟩
      · have := (Ow.mod ho3 hm4 (fun k hk hh => hlb3 (by simp at hh; exact hh ▸ hk))).mod hm5 (fun k hk hh => hlb3 (by simp at hh; exact hh ▸ hk))
        show Ow w5 5 1 _ (s.b ++ fr).length (bv (s.b ++ fr))
        rw [List.length_append, bv_append]
        exact this
      · exact ((((hm12.weak (by simp) : Mod (l :: blks bw) w w2).then hm3 (fun g hg => .inl (by simp [hg]))).then hm4 (fun g hg => .inl (by simp at hg; simp [hg]))).then hm5 (fun g hg => .inl (by simp at hg; simp [hg])))
def FluP (w : World) (l r p q : Nat) (bw : Value) (L : List Nat) (R : Pv × Ls × Int) (e : Ending) (w' : World) : Prop :=
  ∃ bw' L', e = .returned (.int .i64 R.2.2) ∧ Lg w' l r bw' R.2.1 ∧ Pd w' p q R.1 L' ∧ Mod (l :: p :: L) w w' ∧ (∀ k ∈ L', k ∈ L ∨ w.heap.size ≤ k) ∧ (bw' = bw ∨ bw' = .slice none 0 0)
set_option maxHeartbeats 8000000 in
theorem flush_any (l r p q c : Nat) (bw : Value) (s : Ls) (v : Pv) (L : List Nat) (w : World) (h : Lg w l r bw s) (hR : Rgn w r p 1 c 64) (hP : Pd w p q v L) (hrp : r ∉ p :: L) (hlp : l ∉ p :: L) (hbp : ∀ k ∈ blks bw, k ∉ p :: L) (hok : LsOk s (c * 64)) (hc : c ≤ 1000) (hz : v.m.sz = 64) (hd : 1 + c ≤ v.m.dur.length) (hn : v.n ≤ 500000) (hr : v.m.row.length ≤ 500000) :
    Calls Tryz.prog 11 #[.pointer (some ⟨l, 0, none⟩)] w (FluP w l r p q bw L (flG c v s)) := by
  have MA := fun w h => lmade_yes l r bw s w h
  have hu := hok.n
  have hus : s.u = s.g + s.b.length := rfl
  have SE := fun w h => lsettle_any l r bw s w h (by omega)
  unfold FluP flG
  by_cases g1 : s.d = s.t
  · rw [if_pos g1]
    have d1 : decide (((s.d : Nat) : Int) = ((s.t : Nat) : Int)) = true := decide_eq_true (by omega)
    go_enter Tryz.func11, Tryz.ntmps11
    go_wp2_with (go_at_call 35; (with_reducible refine (MA _ h).mono ?_); rintro e w1 ⟨rfl, rfl⟩)
    refine wp_region_T [⟨0, true, []⟩, ⟨1, true, []⟩, ⟨2, true, []⟩, ⟨3, true, []⟩, ⟨4, true, []⟩, ⟨5, true, []⟩, ⟨6, true, []⟩, ⟨7, true, []⟩, ⟨8, true, []⟩, ⟨9, true, []⟩, ⟨10, true, []⟩, ⟨11, true, []⟩] (by kernel_rfl) (by kernel_rfl) ?_
    have hm0 := Mod.drew [] w
    obtain ⟨x, hxx⟩ : ∃ x, x = w.drew := ⟨_, rfl⟩
    rw [← hxx] at hm0 ⊢
    clear hxx
    have h0 := h.ext hm0
    have hb0 := h0.b
    unfold lgC at hb0
    have c2 := Blk.cell' hb0 (i := 2) rfl
    have c3 := Blk.cell' hb0 (i := 3) rfl
    iterate 12 (refine wpT_n rfl rfl (fun K hK => ?_); go_wp2_with fail)
    refine wpT_nil ?_
    go_wp2_with fail
    go_ret
    exact ⟨bw, L, rfl, h0, hP.ext hm0, hm0.weak (by simp), fun k hk => .inl hk, .inl rfl⟩
  · rw [if_neg g1]
    have d1 : decide (((s.d : Nat) : Int) = ((s.t : Nat) : Int)) = false := decide_eq_false (by omega)
    have WR := fun w hP hR hb hrp hbp => gWrite_any r p q 1 c 64 v L (s.g : Nat) s.b bw w hP hR hb hz hd (by omega) (by omega) ⟨by omega, by omega⟩ hrp hbp
    unfold GWrP PdP at WR
    have hsz := wrA_sz 1 c 64 v (s.g : Nat) s.b
    unfold putG
    obtain ⟨X, hX⟩ : ∃ X, X = wrA 1 c 64 v (s.g : Nat) s.b := ⟨_, rfl⟩
    rw [← hX] at WR hsz ⊢
    obtain ⟨v1, e1⟩ := X
    dsimp only at WR hsz ⊢
    have HS := Lib.hid (And.intro hsz (And.intro hc (And.intro hn hr)))
    clear hsz hX hus
    by_cases g2 : e1 = 0
    · subst g2
      rw [if_pos rfl]
      dsimp only
      have SY := fun w h L hP => gSync_any r p q 1 c 64 v1 L w h hP (by have := HS.out; omega) (by have := HS.out; omega)
      unfold PdP at SY
      obtain ⟨e2, he2⟩ : ∃ e2, e2 = v1.e 0 := ⟨_, rfl⟩
      rw [← he2] at SY ⊢
      clear he2
      by_cases g3 : e2 = 0
      · subst g3
        rw [if_pos rfl]
        go_enter Tryz.func11, Tryz.ntmps11
        go_wp2_with (go_at_call 35; (with_reducible refine (MA _ h).mono ?_); rintro e w1 ⟨rfl, rfl⟩)
        refine wp_region_T [⟨0, true, []⟩, ⟨1, true, []⟩, ⟨2, true, []⟩, ⟨3, true, []⟩, ⟨4, true, []⟩, ⟨5, true, []⟩, ⟨6, true, []⟩, ⟨7, true, []⟩, ⟨8, true, []⟩, ⟨9, true, []⟩, ⟨10, true, []⟩, ⟨11, true, []⟩] (by kernel_rfl) (by kernel_rfl) ?_
        have hm0 := Mod.drew [] w
        obtain ⟨x, hxx⟩ : ∃ x, x = w.drew := ⟨_, rfl⟩
        rw [← hxx] at hm0 ⊢
        clear hxx
        have h0 := h.ext hm0
        have hb0 := h0.b
        unfold lgC at hb0
        have c2 := Blk.cell' hb0 (i := 2) rfl
        have c3 := Blk.cell' hb0 (i := 3) rfl
        iterate 12 (refine wpT_n rfl rfl (fun K hK => ?_); go_wp2_with fail)
        refine wpT_nil ?_
        go_wp2_with fail
        refine wp_region_T [⟨0, true, []⟩, ⟨1, true, []⟩, ⟨2, true, []⟩, ⟨3, true, []⟩, ⟨4, true, []⟩, ⟨5, true, []⟩, ⟨6, true, []⟩, ⟨7, true, []⟩, ⟨8, true, []⟩, ⟨9, true, []⟩, ⟨10, true, []⟩, ⟨11, true, []⟩, ⟨12, true, []⟩, ⟨13, true, []⟩, ⟨14, false, []⟩, ⟨15, true, []⟩] (by kernel_rfl) (by kernel_rfl) ?_
        have hm00 := Mod.drew [] x
        obtain ⟨y, hxy⟩ : ∃ z, z = x.drew := ⟨_, rfl⟩
        rw [← hxy] at hm00 ⊢
        clear hxy
        have hm01 := hm0.ext hm00
        have h1 := h0.ext hm00
        have hP1 := hP.ext hm01
        have hR1 := Rgn.ext hR hm01
        have hb1 := h1.b
        unfold lgC at hb1
        have c0 := Blk.cell' hb1 (i := 0) rfl
        have c1 := Blk.cell' hb1 (i := 1) rfl
        have c4 := Blk.cell' hb1 (i := 4) rfl
        have hbs := h1.o.bs
        have hbB : ∀ k ∈ blks bw, k < y.heap.size ∧ k ∉ p :: L := fun k hk => ⟨Ow.lt h1.o k hk, hbp k hk⟩
        have z0 := hm01.size
        iterate 14 (refine wpT_n rfl rfl (fun K hK => ?_); go_wp2_with fail)
        refine wpT_call rfl rfl (fun K hK => ?_)
        go_wp2_with (go_at_call 39; (with_reducible refine (WR _ hP1 hR1 hbs hrp hbB).mono ?_); rintro e w1 ⟨rfl, L1, hP2, hm1, hL1⟩)
        have hR2 := Rgn.mod hR1 hm1 hrp
        have h2 := h1.mod hm1 hlp hbp
        have hb2 := h2.b
        unfold lgC at hb2
        have c4' := Blk.cell' hb2 (i := 4) rfl
        have hL1' : ∀ k ∈ L1, k ∈ L ∨ w.heap.size ≤ k := fun k hk => (hL1 k hk).imp id (fun h => by omega)
        have z1 := hm1.size
        refine wpT_n rfl rfl (fun K hK => ?_)
        go_wp2_with fail
        refine wpT_nil ?_
        go_wp2_with (go_at_call 40; (with_reducible refine (SY _ hR2 _ hP2).mono ?_); rintro e w2 ⟨rfl, L2, hP3, hm2, hL2⟩)
        have hm12 : Mod (p :: L) y w2 := hm1.then hm2 (fun g hg => (List.mem_cons.1 hg).elim (fun e => .inl (by simp [e])) (fun hg => (hL1 g hg).imp (fun h => by simp [h]) id))
        have h3 := h1.mod hm12 hlp hbp
        have z2 := hm2.size
        go_wp2_with (go_at_call 41; (with_reducible refine (SE _ h3).mono ?_); rintro e w3 ⟨rfl, h4, hm3⟩)
        go_ret
        have hL2' : ∀ k ∈ L2, k ∈ L ∨ w.heap.size ≤ k := fun k hk => (hL2 k hk).elim (fun hk => hL1' k hk) (fun hk => .inr (by omega))
        have hl2 : l ∉ p :: L2 := fun hh => (List.mem_cons.1 hh).elim (fun e => hlp (by simp [e])) (fun hh => (hL2' l hh).elim (fun hh => hlp (by simp [hh])) (fun hh => by have := h.b.lt; omega))
        exact ⟨.slice none 0 0, L2, rfl, h4, hP3.keep0 hm3 (fun k hk hh => by simp at hh; exact hl2 (hh ▸ hk)), ((hm01.weak (by simp) : Mod (l :: p :: L) w y).then hm12 (fun g hg => .inl (by simp at hg; simp [hg]))).then hm3 (fun g hg => .inl (by simp at hg; simp [hg])), hL2', .inr rfl⟩
      · rw [if_neg g3]
        have d3 : decide (e2 = 0) = false := decide_eq_false g3
        go_enter Tryz.func11, Tryz.ntmps11
        go_wp2_with (go_at_call 35; (with_reducible refine (MA _ h).mono ?_); rintro e w1 ⟨rfl, rfl⟩)
        refine wp_region_T [⟨0, true, []⟩, ⟨1, true, []⟩, ⟨2, true, []⟩, ⟨3, true, []⟩, ⟨4, true, []⟩, ⟨5, true, []⟩, ⟨6, true, []⟩, ⟨7, true, []⟩, ⟨8, true, []⟩, ⟨9, true, []⟩, ⟨10, true, []⟩, ⟨11, true, []⟩] (by kernel_rfl) (by kernel_rfl) ?_
        have hm0 := Mod.drew [] w
        obtain ⟨x, hxx⟩ : ∃ x, x = w.drew := ⟨_, rfl⟩
        rw [← hxx] at hm0 ⊢
        clear hxx
        have h0 := h.ext hm0
        have hb0 := h0.b
        unfold lgC at hb0
        have c2 := Blk.cell' hb0 (i := 2) rfl
        have c3 := Blk.cell' hb0 (i := 3) rfl
        iterate 12 (refine wpT_n rfl rfl (fun K hK => ?_); go_wp2_with fail)
        refine wpT_nil ?_
        go_wp2_with fail
        refine wp_region_T [⟨0, true, []⟩, ⟨1, true, []⟩, ⟨2, true, []⟩, ⟨3, true, []⟩, ⟨4, true, []⟩, ⟨5, true, []⟩, ⟨6, true, []⟩, ⟨7, true, []⟩, ⟨8, true, []⟩, ⟨9, true, []⟩, ⟨10, true, []⟩, ⟨11, true, []⟩, ⟨12, true, []⟩, ⟨13, true, []⟩, ⟨14, false, []⟩, ⟨15, true, []⟩] (by kernel_rfl) (by kernel_rfl) ?_
        have hm00 := Mod.drew [] x
        obtain ⟨y, hxy⟩ : ∃ z, z = x.drew := ⟨_, rfl⟩
        rw [← hxy] at hm00 ⊢
        clear hxy
        have hm01 := hm0.ext hm00
        have h1 := h0.ext hm00
        have hP1 := hP.ext hm01
        have hR1 := Rgn.ext hR hm01
        have hb1 := h1.b
        unfold lgC at hb1
        have c0 := Blk.cell' hb1 (i := 0) rfl
        have c1 := Blk.cell' hb1 (i := 1) rfl
        have c4 := Blk.cell' hb1 (i := 4) rfl
        have hbs := h1.o.bs
        have hbB : ∀ k ∈ blks bw, k < y.heap.size ∧ k ∉ p :: L := fun k hk => ⟨Ow.lt h1.o k hk, hbp k hk⟩
        have z0 := hm01.size
        iterate 14 (refine wpT_n rfl rfl (fun K hK => ?_); go_wp2_with fail)
        refine wpT_call rfl rfl (fun K hK => ?_)
        go_wp2_with (go_at_call 39; (with_reducible refine (WR _ hP1 hR1 hbs hrp hbB).mono ?_); rintro e w1 ⟨rfl, L1, hP2, hm1, hL1⟩)
        have hR2 := Rgn.mod hR1 hm1 hrp
        have h2 := h1.mod hm1 hlp hbp
        have hb2 := h2.b
        unfold lgC at hb2
        have c4' := Blk.cell' hb2 (i := 4) rfl
        have hL1' : ∀ k ∈ L1, k ∈ L ∨ w.heap.size ≤ k := fun k hk => (hL1 k hk).imp id (fun h => by omega)
        have z1 := hm1.size
        refine wpT_n rfl rfl (fun K hK => ?_)
        go_wp2_with fail
        refine wpT_nil ?_
        go_wp2_with (go_at_call 40; (with_reducible refine (SY _ hR2 _ hP2).mono ?_); rintro e w2 ⟨rfl, L2, hP3, hm2, hL2⟩)
        have hm12 : Mod (p :: L) y w2 := hm1.then hm2 (fun g hg => (List.mem_cons.1 hg).elim (fun e => .inl (by simp [e])) (fun hg => (hL1 g hg).imp (fun h => by simp [h]) id))
        go_ret
        exact ⟨bw, L2, rfl, h1.mod hm12 hlp hbp, hP3, (hm01.weak (by simp) : Mod (l :: p :: L) w y).then hm12 (fun g hg => .inl (by simp at hg; simp [hg])), fun k hk => (hL2 k hk).elim (fun hk => hL1' k hk) (fun hk => .inr (by omega)), .inl rfl⟩
    · rw [if_neg g2]
      dsimp only
      rw [if_neg g2]
      have d2 : decide (e1 = 0) = false := decide_eq_false g2
      go_enter Tryz.func11, Tryz.ntmps11
      go_wp2_with (go_at_call 35; (with_reducible refine (MA _ h).mono ?_); rintro e w1 ⟨rfl, rfl⟩)
      refine wp_region_T [⟨0, true, []⟩, ⟨1, true, []⟩, ⟨2, true, []⟩, ⟨3, true, []⟩, ⟨4, true, []⟩, ⟨5, true, []⟩, ⟨6, true, []⟩, ⟨7, true, []⟩, ⟨8, true, []⟩, ⟨9, true, []⟩, ⟨10, true, []⟩, ⟨11, true, []⟩] (by kernel_rfl) (by kernel_rfl) ?_
      have hm0 := Mod.drew [] w
      obtain ⟨x, hxx⟩ : ∃ x, x = w.drew := ⟨_, rfl⟩
      rw [← hxx] at hm0 ⊢
      clear hxx
      have h0 := h.ext hm0
      have hb0 := h0.b
      unfold lgC at hb0
      have c2 := Blk.cell' hb0 (i := 2) rfl
      have c3 := Blk.cell' hb0 (i := 3) rfl
      iterate 12 (refine wpT_n rfl rfl (fun K hK => ?_); go_wp2_with fail)
      refine wpT_nil ?_
      go_wp2_with fail
      refine wp_region_T [⟨0, true, []⟩, ⟨1, true, []⟩, ⟨2, true, []⟩, ⟨3, true, []⟩, ⟨4, true, []⟩, ⟨5, true, []⟩, ⟨6, true, []⟩, ⟨7, true, []⟩, ⟨8, true, []⟩, ⟨9, true, []⟩, ⟨10, true, []⟩, ⟨11, true, []⟩, ⟨12, true, []⟩, ⟨13, true, []⟩, ⟨14, false, []⟩, ⟨15, true, []⟩] (by kernel_rfl) (by kernel_rfl) ?_
      have hm00 := Mod.drew [] x
      obtain ⟨y, hxy⟩ : ∃ z, z = x.drew := ⟨_, rfl⟩
      rw [← hxy] at hm00 ⊢
      clear hxy
      have hm01 := hm0.ext hm00
      have h1 := h0.ext hm00
      have hP1 := hP.ext hm01
      have hR1 := Rgn.ext hR hm01
      have hb1 := h1.b
      unfold lgC at hb1
      have c0 := Blk.cell' hb1 (i := 0) rfl
      have c1 := Blk.cell' hb1 (i := 1) rfl
      have c4 := Blk.cell' hb1 (i := 4) rfl
      have hbs := h1.o.bs
      have hbB : ∀ k ∈ blks bw, k < y.heap.size ∧ k ∉ p :: L := fun k hk => ⟨Ow.lt h1.o k hk, hbp k hk⟩
      have z0 := hm01.size
      iterate 14 (refine wpT_n rfl rfl (fun K hK => ?_); go_wp2_with fail)
      refine wpT_call rfl rfl (fun K hK => ?_)
      go_wp2_with (go_at_call 39; (with_reducible refine (WR _ hP1 hR1 hbs hrp hbB).mono ?_); rintro e w1 ⟨rfl, L1, hP2, hm1, hL1⟩)
      have hR2 := Rgn.mod hR1 hm1 hrp
      have h2 := h1.mod hm1 hlp hbp
      have hb2 := h2.b
      unfold lgC at hb2
      have c4' := Blk.cell' hb2 (i := 4) rfl
      have hL1' : ∀ k ∈ L1, k ∈ L ∨ w.heap.size ≤ k := fun k hk => (hL1 k hk).imp id (fun h => by omega)
      have z1 := hm1.size
      refine wpT_n rfl rfl (fun K hK => ?_)
      go_wp2_with fail
      refine wpT_nil ?_
      go_wp2_with fail
      go_ret
      exact ⟨bw, L1, rfl, h2, hP2, (hm01.weak (by simp) : Mod (l :: p :: L) w y).then hm1 (fun g hg => .inl (by simp at hg; simp [hg])), hL1', .inl rfl⟩
/-- what Scan tells of a device: the device, the error, the bytes read -/
def WScP (w : World) (p q c : Nat) (L : List Nat) (R : Pv × Int × List UInt8) (e s : Nat) (en : Ending) (w' : World) : Prop :=
  (R.2.1 ≠ 0 ∧ en = .returned (.tuple #[.slice none 0 0, .int .i64 0, .int .i64 R.2.1]) ∧ Pd w' p q R.1 L ∧ Mod [p] w w') ∨
  (R.2.1 = 0 ∧ ∃ v K, en = .returned (.tuple #[v, .int .i64 (endF (rowS R.2.2 e s 0) 0 : Nat), .int .i64 0]) ∧ K.map Fi.d = rowS R.2.2 e s 0 ∧ Frs w' w.heap.size v K ∧ Pd w' p q R.1 L ∧ Mod [p] w w')
set_option maxHeartbeats 8000000 in
theorem wscan_any (r p q c e s : Nat) (v : Pv) (L : List Nat) (w : World) (hR : Rgn w r p 1 c 64) (hP : Pd w p q v L) (hT : ∀ w', Mod [p] w w' → TabC w') (hrp : r ∉ p :: L) (hc : c ≤ 1000) (hc1 : 1 ≤ c) (hz : v.m.sz = 64) (hd : 1 + c ≤ v.m.dur.length) (hn : v.n ≤ 500000) (he : e < 18446744073709551616) (hs : s < 18446744073709551616) :
    Calls Tryz.prog 12 #[.pointer (some ⟨r, 0, none⟩), .int .u64 (e : Nat), .int .u64 (s : Nat)] w (WScP w p q c L (rdA 1 c 64 v (0 : Nat) (c * 64 : Nat)) e s) := by
  have BY := fun w h => gBytes_any r p 1 c 64 w h (by omega)
  have d1 : (((c * 64 : Nat) : Int) == 0) = false := beq_false_of_ne (by omega)
  have RD := fun w hP hR => gRead_any r p q 1 c 64 v L (0 : Nat) (c * 64 : Nat) w hP hR hz hd (by omega) ⟨by omega, by omega⟩ ⟨by omega, by omega⟩
  have hlen : (rdA 1 c 64 v (0 : Nat) (c * 64 : Nat)).2.2.length ≤ 1099511627776 := by
    have := rdA_len 1 c 64 v (0 : Nat) ((c * 64 : Nat) : Int)
    omega
  unfold GRdP at RD
  unfold WScP
  have h00 : ((0 : Nat) : Int) = 0 := rfl
  rw [h00] at RD hlen ⊢
  obtain ⟨R, hRR⟩ : ∃ R, R = rdA 1 c 64 v 0 (c * 64 : Nat) := ⟨_, rfl⟩
  rw [← hRR] at RD hlen ⊢
  obtain ⟨v1, e1, b⟩ := R
  dsimp only at RD hlen ⊢
  obtain ⟨N, hN⟩ : ∃ N, N = c * 64 := ⟨_, rfl⟩
  rw [← hN] at BY RD d1
  clear hRR hN
  by_cases g1 : e1 = 0
  · subst g1
    have SC := fun w v hb hT => scan_any b e s v w hb hlen hs he hT
    unfold ScanP at SC
    go_enter Tryz.func12, Tryz.ntmps12
    go_wp2_with (first
                  | (go_at_call 33; (with_reducible refine (BY _ hR).mono ?_); rintro e w1 ⟨rfl, hm1⟩; have hR1 := Rgn.ext hR hm1; have hP1 := hP.ext hm1)
                  | (go_at_call 33; (with_reducible refine (BY _ hR1).mono ?_); rintro e w2 ⟨rfl, hm2⟩; have hR2 := Rgn.ext hR1 hm2; have hP2 := hP1.ext hm2)
                  | (go_at_call 42; (with_reducible refine (RD _ hP2 hR2).mono ?_); rintro e w3 ⟨rv, rfl, ho3, hn3, hP3, hm3⟩; have hT3 := hT _ (((hm1.ext hm2).weak (by simp)).trans hm3); have hs3 := ho3.bs)
                  | (go_at_call 43; (with_reducible refine (SC _ _ hs3 hT3).mono ?_); rintro e w4 ⟨fv, K, rfl, hK, hF4, hm4⟩))
    refine bodyPost_ret (v := .tuple #[fv, .int .i64 (endF (rowS b e s 0) 0 : Nat), .int .i64 0]) (by simp [results, Tryz.results12, go_sem]) rfl ?_
    have hm13 : Mod [p] w w3 := ((hm1.ext hm2).weak (by simp)).trans hm3
    exact .inr ⟨by trivial, fv, K, rfl, hK, hF4.le (by have := hm13.size; omega), hP3.ext hm4, hm13.ext hm4⟩
  · have d2 : decide (e1 = 0) = false := decide_eq_false g1
    go_enter Tryz.func12, Tryz.ntmps12
    go_wp2_with (first
                  | (go_at_call 33; (with_reducible refine (BY _ hR).mono ?_); rintro e w1 ⟨rfl, hm1⟩; have hR1 := Rgn.ext hR hm1; have hP1 := hP.ext hm1)
                  | (go_at_call 33; (with_reducible refine (BY _ hR1).mono ?_); rintro e w2 ⟨rfl, hm2⟩; have hR2 := Rgn.ext hR1 hm2; have hP2 := hP1.ext hm2)
                  | (go_at_call 42; (with_reducible refine (RD _ hP2 hR2).mono ?_); rintro e w3 ⟨rv, rfl, ho3, hn3, hP3, hm3⟩))
    refine bodyPost_ret (v := .tuple #[.slice none 0 0, .int .i64 0, .int .i64 e1]) (by simp [results, Tryz.results12, go_sem]) rfl ?_
    exact .inl ⟨g1, rfl, hP3, ((hm1.ext hm2).weak (by simp)).trans hm3⟩
end Go.Proofs.YtfepggdljhiemaaGreatDoor

/-! Wal: a log over a region of one of two devices, all in place. -/
namespace Go.Proofs.YtfepggdljhiemaaGreatDoor
open Go.RowKit Gw

def rgC (p c : Nat) : List Value := [.pointer (some ⟨p, 0, none⟩), .int .i64 (1 : Nat), .int .i64 (c : Nat), .int .i64 (64 : Nat)]
def rhC (P c : Nat) : List Value := [.pointer (some ⟨P, 0, none⟩), .int .i64 (1 : Nat), .int .i64 (c : Nat)]
def wO (l r h p P c : Nat) (bw : Value) (s : Ls) : List (Nat × TypeId × List Value) := [(l, 89, lgC bw s r), (r, 142, rgC p c), (h, 64, rhC P c)]
structure Wg (W w : World) (p q P Q : Nat) (v u : Pv) (L M : List Nat) (l r h c : Nat) (bw : Value) (s : Ls) (O : List (Nat × TypeId × List Value)) : Prop where
  B : Bw W w p q P Q v u L M (wO l r h p P c bw s ++ O)
  o : Ob w bw s.b
  a : ∀ k ∈ blks bw, W.heap.size ≤ k ∧ k ∉ p :: L ∧ k ∉ P :: M
  nl : ∀ y ∈ O, y.1 ≠ l ∧ y.2.1 ≠ 5
section
variable {W w w' : World} {p q P Q : Nat} {v u v' u' : Pv} {L M L' M' G : List Nat} {l r h c : Nat} {bw bw' : Value} {s s' : Ls} {O : List (Nat × TypeId × List Value)}
theorem Bw.dt1 (h : Bw W w p q P Q v u L M O) (h1 : Pd w' p q v' L') (h2 : Mod (p :: L) w w') (h3 : ∀ k ∈ L', k ∈ L ∨ w.heap.size ≤ k) : Bw W w' p q P Q v' u L' M O := by
  have hL2 : ∀ k ∈ p :: L', k ∈ p :: L ∨ w.heap.size ≤ k := fun k hk => (List.mem_cons.1 hk).elim (fun e => .inl (by simp [e])) (fun h1 => (h3 k h1).imp (fun h2 => List.mem_cons_of_mem _ h2) id)
  refine ⟨h1, h.E.keep1 h2 (fun k hk hh => h.ap k hh hk), fun k hk hh => ?_, fun x hx => ⟨(h.O x hx).1, fun hh => ?_, (h.O x hx).2.2.1, (h.O x hx).2.2.2.mod h2 (h.O x hx).2.1⟩, h.m.fresh h2 h.dn, fun k hk => (hL2 k hk).elim (h.dn k) (fun h1 => by have := h.m.size; omega), h.rn⟩
  · rcases hL2 k hk with h1 | h1
    · exact h.ap k h1 hh
    · have := h.E.lt1 k hh; omega
  · rcases hL2 _ hh with h4 | h4
    · exact (h.O x hx).2.1 h4
    · have := (h.O x hx).2.2.2.lt; omega
theorem Bw.rt1 (h : Bw W w p q P Q v u L M O) (h1 : Pr w' P Q u' M') (h2 : Mod (P :: M) w w') (h3 : ∀ k ∈ M', k ∈ M ∨ w.heap.size ≤ k) : Bw W w' p q P Q v u' L M' O := by
  have hM2 : ∀ k ∈ P :: M', k ∈ P :: M ∨ w.heap.size ≤ k := fun k hk => (List.mem_cons.1 hk).elim (fun e => .inl (by simp [e])) (fun h1 => (h3 k h1).imp (fun h2 => List.mem_cons_of_mem _ h2) id)
  refine ⟨h.D.keep0 h2 h.ap, h1, fun k hk hh => ?_, fun x hx => ⟨(h.O x hx).1, (h.O x hx).2.1, fun hh => ?_, (h.O x hx).2.2.2.mod h2 (h.O x hx).2.2.1⟩, h.m.fresh h2 h.rn, h.dn, fun k hk => (hM2 k hk).elim (h.rn k) (fun h1 => by have := h.m.size; omega)⟩
  · rcases hM2 k hh with h1 | h1
    · exact h.ap k hk h1
    · have := h.D.lt0 k hk; omega
  · rcases hM2 _ hh with h4 | h4
    · exact (h.O x hx).2.2.1 h4
    · have := (h.O x hx).2.2.2.lt; omega
theorem Wg.lg (H : Wg W w p q P Q v u L M l r h c bw s O) : Lg w l r bw s := ⟨H.B.blk 0 rfl, H.o⟩
theorem Wg.rg (H : Wg W w p q P Q v u L M l r h c bw s O) : Rgn w r p 1 c 64 := H.B.blk 1 rfl
theorem Wg.rh (H : Wg W w p q P Q v u L M l r h c bw s O) : Rgr w h P 1 c := H.B.blk 2 rfl
theorem Wg.rd0 (H : Wg W w p q P Q v u L M l r h c bw s O) : r ∉ p :: L := H.B.outD (t := 142) (cs := rgC p c) 1 rfl
theorem Wg.ld0 (H : Wg W w p q P Q v u L M l r h c bw s O) : l ∉ p :: L := H.B.outD (t := 89) (cs := lgC bw s r) 0 rfl
theorem Wg.keep (H : Wg W w p q P Q v u L M l r h c bw s O) (hm : Mod G w w') (hG : ∀ k ∈ G, w.heap.size ≤ k) : Wg W w' p q P Q v u L M l r h c bw s O :=
  ⟨H.B.keep hm hG, H.o.mod hm (fun k hk hh => by have := Ow.lt H.o k hk; have := hG k hh; omega), H.a, H.nl⟩
theorem Wg.ext (H : Wg W w p q P Q v u L M l r h c bw s O) (hm : Mod [] w w') : Wg W w' p q P Q v u L M l r h c bw s O := H.keep hm (by simp)
theorem Wg.new {g : Nat} {t : TypeId} {cs : List Value} (H : Wg W w p q P Q v u L M l r h c bw s O) (hm : Mod [] w w') (h1 : w.heap.size ≤ g) (hB : Blk w' g t cs) (ht : t ≠ 5) : Wg W w' p q P Q v u L M l r h c bw s ((g, t, cs) :: O) := by
  have h2 := H.B.new hm h1 hB
  refine ⟨⟨h2.D, h2.E, h2.ap, fun x hx => h2.O x ?_, h2.m, h2.dn, h2.rn⟩, H.o.ext hm, H.a, fun y hy => ?_⟩
  · rcases List.mem_append.1 hx with hx | hx
    · exact List.mem_cons_of_mem _ (List.mem_append_left _ hx)
    · rcases List.mem_cons.1 hx with e | e
      · rw [e]; exact List.mem_cons_self
      · exact List.mem_cons_of_mem _ (List.mem_append_right _ e)
  · rcases List.mem_cons.1 hy with e | e
    · subst e
      exact ⟨fun e2 => by have := H.lg.b.lt; dsimp only at e2; omega, ht⟩
    · exact H.nl y e
/-- the log has turned -/
theorem Wg.lgT (H : Wg W w p q P Q v u L M l r h c bw s O) (hm : Mod (l :: blks bw) w w') (hG : Lg w' l r bw' s') (hn : ∀ k ∈ blks bw', k ∈ blks bw ∨ w.heap.size ≤ k) : Wg W w' p q P Q v u L M l r h c bw' s' O := by
  have hl := H.B.O (l, 89, lgC bw s r) (by simp [wO])
  have hD : ∀ k ∈ p :: L, k ∉ l :: blks bw := fun k hk hh => (List.mem_cons.1 hh).elim (fun e => hl.2.1 (e ▸ hk)) (fun hh => (H.a k hh).2.1 hk)
  have hE : ∀ k ∈ P :: M, k ∉ l :: blks bw := fun k hk hh => (List.mem_cons.1 hh).elim (fun e => hl.2.2.1 (e ▸ hk)) (fun hh => (H.a k hh).2.2 hk)
  have hW : ∀ k ∈ l :: blks bw, W.heap.size ≤ k := fun k hk => (List.mem_cons.1 hk).elim (fun e => e ▸ hl.1) (fun hk => (H.a k hk).1)
  have key : ∀ x ∈ (r, 142, rgC p c) :: (h, 64, rhC P c) :: O, x.1 ∉ l :: blks bw := fun x hx hh => by
    have hx2 : x ∈ wO l r h p P c bw s ++ O := List.mem_cons_of_mem _ hx
    have hb := (H.B.O x hx2).2.2.2
    have hne : x.1 ≠ l ∧ 5 ≠ x.2.1 := by
      rcases List.mem_cons.1 hx with e | hx
      · subst e; exact ⟨Blk.ne hb hl.2.2.2 (show (142 : TypeId) ≠ 89 by decide), (show (5 : TypeId) ≠ 142 by decide)⟩
      · rcases List.mem_cons.1 hx with e | hx
        · subst e; exact ⟨Blk.ne hb hl.2.2.2 (show (64 : TypeId) ≠ 89 by decide), (show (5 : TypeId) ≠ 64 by decide)⟩
        · exact ⟨(H.nl x hx).1, Ne.symm (H.nl x hx).2⟩
    rcases List.mem_cons.1 hh with e | e
    · exact hne.1 e
    · exact Ow.ne H.o hb hne.2 e
  refine ⟨⟨H.B.D.keep0 hm hD, H.B.E.keep1 hm hE, H.B.ap, fun x hx => ?_, H.B.m.fresh hm hW, H.B.dn, H.B.rn⟩, hG.o, fun k hk => ?_, H.nl⟩
  · rcases List.mem_cons.1 hx with e | hx
    · subst e
      exact ⟨hl.1, hl.2.1, hl.2.2.1, hG.b⟩
    · have hx2 := H.B.O x (List.mem_cons_of_mem _ hx)
      exact ⟨hx2.1, hx2.2.1, hx2.2.2.1, hx2.2.2.2.mod hm (key x hx)⟩
  · rcases hn k hk with hk | hk
    · exact H.a k hk
    · exact ⟨Nat.le_trans H.B.m.size hk, fun hh => by have := H.B.D.lt0 k hh; omega, fun hh => by have := H.B.E.lt1 k hh; omega⟩
/-- the program's device has turned -/
theorem Wg.dt (H : Wg W w p q P Q v u L M l r h c bw s O) (hq : PdP w p q v' L w') : ∃ L2, Wg W w' p q P Q v' u L2 M l r h c bw s O ∧ Mod (p :: L) w w' := by
  obtain ⟨L2, h1, h2, h3⟩ := hq
  refine ⟨L2, ⟨H.B.dt1 h1 h2 h3, H.o.mod h2 (fun k hk => (H.a k hk).2.1), fun k hk => ⟨(H.a k hk).1, fun hh => ?_, (H.a k hk).2.2⟩, H.nl⟩, h2⟩
  rcases List.mem_cons.1 hh with e | hh
  · exact (H.a k hk).2.1 (by simp [e])
  · rcases h3 k hh with h4 | h4
    · exact (H.a k hk).2.1 (by simp [h4])
    · have := Ow.lt H.o k hk; omega
theorem Wg.rd (H : Wg W w p q P Q v u L M l r h c bw s O) (hP : Pd w' p q v' L) (hm : Mod [p] w w') : Wg W w' p q P Q v' u L M l r h c bw s O :=
  ⟨H.B.rd hP hm, H.o.mod hm (fun k hk hh => (H.a k hk).2.1 (by simp at hh; simp [hh])), H.a, H.nl⟩
/-- the document's device has turned -/
theorem Wg.rt (H : Wg W w p q P Q v u L M l r h c bw s O) (hq : PrP w P Q u' M w') : ∃ M2, Wg W w' p q P Q v u' L M2 l r h c bw s O ∧ Mod (P :: M) w w' := by
  obtain ⟨M2, h1, h2, h3⟩ := hq
  refine ⟨M2, ⟨H.B.rt1 h1 h2 h3, H.o.mod h2 (fun k hk => (H.a k hk).2.2), fun k hk => ⟨(H.a k hk).1, (H.a k hk).2.1, fun hh => ?_⟩, H.nl⟩, h2⟩
  rcases List.mem_cons.1 hh with e | hh
  · exact (H.a k hk).2.2 (by simp [e])
  · rcases h3 k hh with h4 | h4
    · exact (H.a k hk).2.2 (by simp [h4])
    · have := Ow.lt H.o k hk; omega
theorem Wg.rr (H : Wg W w p q P Q v u L M l r h c bw s O) (hP : Pr w' P Q u' M) (hm : Mod [P] w w') : Wg W w' p q P Q v u' L M l r h c bw s O :=
  ⟨H.B.rr hP hm, H.o.mod hm (fun k hk hh => (H.a k hk).2.2 (by simp at hh; simp [hh])), H.a, H.nl⟩
/-- Append -/
def WAppP (W w : World) (p q P Q : Nat) (v u : Pv) (L M : List Nat) (l r h c : Nat) (bw : Value) (s : Ls) (O : List (Nat × TypeId × List Value)) (body : List UInt8) (e : Ending) (w' : World) : Prop :=
  e = .returned (.tuple #[.int .u64 (s.appN (c * 64) body : Nat), .int .i64 (s.appE (c * 64) body)]) ∧ ∃ bw', Wg W w' p q P Q v u L M l r h c bw' (s.app (c * 64) body) O ∧ Mod (l :: blks bw) w w' ∧ ∀ k ∈ blks bw', k ∈ blks bw ∨ w.heap.size ≤ k
theorem Wg.append (H : Wg W w p q P Q v u L M l r h c bw s O) (hT : TabC W) {body : List UInt8} {xv : Value} (hv : Bs w xv body) (hok : LsOk s (c * 64)) (hc : c ≤ 1000) (hl : body.length ≤ 140737488355328) :
    Calls Tryz.prog 8 #[.pointer (some ⟨l, 0, none⟩), xv] w (WAppP W w p q P Q v u L M l r h c bw s O body) := by
  refine (append_any l r p c bw s body xv w H.lg H.rg (hT.ext H.B.m) hv hok hc hl).mono fun e w' hh => ?_
  obtain ⟨bw', e1, e2, e3, e4⟩ := hh
  exact ⟨e1, bw', H.lgT e3 e2 e4, e3, e4⟩
theorem Wg.reset (H : Wg W w p q P Q v u L M l r h c bw s O) (e' : Nat) (hok : LsOk s (c * 64)) (hc : c ≤ 1000) :
    Calls Tryz.prog 53 #[.pointer (some ⟨l, 0, none⟩), .int .u64 (e' : Nat)] w fun e w' => e = .returned (.int .i64 0) ∧ Wg W w' p q P Q v u L M l r h c (.slice none 0 0) (s.reset e') O ∧ Mod [l] w w' := by
  refine (lReset_any l r bw s e' w H.lg (by have := hok.n; omega)).mono fun e w' hh => ?_
  obtain ⟨e1, e2, e3⟩ := hh
  exact ⟨e1, H.lgT (e3.weak (fun g hg => .inl (by simp at hg; simp [hg]))) e2 (fun k hk => by simp [blks] at hk), e3⟩
/-- Flush -/
def WFluP (W w : World) (p q P Q : Nat) (u : Pv) (L M : List Nat) (l r h c : Nat) (bw : Value) (O : List (Nat × TypeId × List Value)) (R : Pv × Ls × Int) (e : Ending) (w' : World) : Prop :=
  e = .returned (.int .i64 R.2.2) ∧ ∃ bw' L', Wg W w' p q P Q R.1 u L' M l r h c bw' R.2.1 O ∧ Mod (l :: p :: L) w w' ∧ (bw' = bw ∨ bw' = .slice none 0 0)
theorem Wg.flush (H : Wg W w p q P Q v u L M l r h c bw s O) (hok : LsOk s (c * 64)) (hc : c ≤ 1000) (hz : v.m.sz = 64) (hd : v.m.dur.length = c + 1) (hn : v.n ≤ 500000) (hr : v.m.row.length ≤ 500000) :
    Calls Tryz.prog 11 #[.pointer (some ⟨l, 0, none⟩)] w (WFluP W w p q P Q u L M l r h c bw O (flG c v s)) := by
  refine (flush_any l r p q c bw s v L w H.lg H.rg H.B.D H.rd0 H.ld0 (fun k hk => (H.a k hk).2.1) hok hc hz (by omega) hn hr).mono fun e w' hh => ?_
  obtain ⟨bw', L', e1, e2, e3, e4, e5, e6⟩ := hh
  have hl := H.B.O (l, 89, lgC bw s r) (by simp [wO])
  have hL2 : ∀ k ∈ p :: L', k ∈ p :: L ∨ w.heap.size ≤ k := fun k hk => (List.mem_cons.1 hk).elim (fun e => .inl (by simp [e])) (fun h1 => (e5 k h1).imp (fun h2 => List.mem_cons_of_mem _ h2) id)
  have hbw : ∀ k ∈ blks bw', k ∈ blks bw := fun k hk => by
    rcases e6 with e | e
    · exact e ▸ hk
    · subst e; simp [blks] at hk
  refine ⟨e1, bw', L', ⟨⟨e3, H.B.E.keep1 e4 (fun k hk hh => ?_), fun k hk hh => ?_, fun x hx => ?_, H.B.m.fresh e4 (fun k hk => (List.mem_cons.1 hk).elim (fun e => e ▸ hl.1) (fun hk => H.B.dn k hk)), fun k hk => (hL2 k hk).elim (H.B.dn k) (fun h1 => by have := H.B.m.size; omega), H.B.rn⟩, e2.o, fun k hk => ⟨(H.a k (hbw k hk)).1, fun hh => ?_, (H.a k (hbw k hk)).2.2⟩, H.nl⟩, e4, e6⟩
  · rcases List.mem_cons.1 hh with e | hh
    · exact hl.2.2.1 (e ▸ hk)
    · exact H.B.ap k hh hk
  · rcases hL2 k hk with h1 | h1
    · exact H.B.ap k h1 hh
    · have := H.B.E.lt1 k hh; omega
  · have out : ∀ y ∈ wO l r h p P c bw s ++ O, y.1 ∉ p :: L' := fun y hy hh => by
      rcases hL2 _ hh with h4 | h4
      · exact (H.B.O y hy).2.1 h4
      · have := (H.B.O y hy).2.2.2.lt; omega
    rcases List.mem_cons.1 hx with e | hx
    · subst e
      exact ⟨hl.1, out (l, 89, lgC bw s r) (by simp [wO]), hl.2.2.1, e2.b⟩
    · have hx2 := H.B.O x (List.mem_cons_of_mem _ hx)
      have hne : x.1 ≠ l := by
        rcases List.mem_cons.1 hx with e | hx
        · subst e; exact Blk.ne hx2.2.2.2 hl.2.2.2 (show (142 : TypeId) ≠ 89 by decide)
        · rcases List.mem_cons.1 hx with e | hx
          · subst e; exact Blk.ne hx2.2.2.2 hl.2.2.2 (show (64 : TypeId) ≠ 89 by decide)
          · exact (H.nl x hx).1
      exact ⟨hx2.1, out x (List.mem_cons_of_mem _ hx), hx2.2.2.1, hx2.2.2.2.mod e4 (fun hh => (List.mem_cons.1 hh).elim hne hx2.2.1)⟩
  · rcases hL2 k hh with h1 | h1
    · exact (H.a k (hbw k hk)).2.1 h1
    · have := Ow.lt H.o k (hbw k hk); omega
/-- Scan -/
def WSc (W w : World) (p q P Q : Nat) (u : Pv) (L M : List Nat) (l r h c : Nat) (bw : Value) (s : Ls) (O : List (Nat × TypeId × List Value)) (R : Pv × Int × List UInt8) (e f : Nat) (en : Ending) (w' : World) : Prop :=
  Wg W w' p q P Q R.1 u L M l r h c bw s O ∧ Mod [p] w w' ∧ ((R.2.1 ≠ 0 ∧ en = .returned (.tuple #[.slice none 0 0, .int .i64 0, .int .i64 R.2.1])) ∨
    (R.2.1 = 0 ∧ ∃ v K, en = .returned (.tuple #[v, .int .i64 (endF (rowS R.2.2 e f 0) 0 : Nat), .int .i64 0]) ∧ K.map Fi.d = rowS R.2.2 e f 0 ∧ Frs w' w.heap.size v K))
theorem Wg.scan (H : Wg W w p q P Q v u L M l r h c bw s O) (e f : Nat) (hT : TabC W) (hc : c ≤ 1000) (hc1 : 1 ≤ c) (hz : v.m.sz = 64) (hd : v.m.dur.length = c + 1) (hn : v.n ≤ 500000) (he : e < 18446744073709551616) (hf : f < 18446744073709551616) :
    Calls Tryz.prog 12 #[.pointer (some ⟨r, 0, none⟩), .int .u64 (e : Nat), .int .u64 (f : Nat)] w (WSc W w p q P Q u L M l r h c bw s O (rdA 1 c 64 v (0 : Nat) (c * 64 : Nat)) e f) := by
  refine (wscan_any r p q c e f v L w H.rg H.B.D (fun w' hm => hT.ext (H.B.m.fresh hm (fun k hk => by simp at hk; exact hk ▸ H.B.dn p List.mem_cons_self))) H.rd0 hc hc1 hz (by omega) hn he hf).mono fun en w' hh => ?_
  rcases hh with ⟨e1, e2, e3, e4⟩ | ⟨e1, v2, K, e2, e3, e4, e5, e6⟩
  · exact ⟨H.rd e3 e4, e4, .inl ⟨e1, e2⟩⟩
  · exact ⟨H.rd e5 e6, e6, .inr ⟨e1, v2, K, e2, e3, e4⟩⟩
/-- Scan, where it tells OK -/
def WScY (W w : World) (p q P Q : Nat) (v' u : Pv) (L M : List Nat) (l r h c : Nat) (bw : Value) (s : Ls) (O : List (Nat × TypeId × List Value)) (B : List UInt8) (e f : Nat) (en : Ending) (w' : World) : Prop :=
  ∃ xv K, en = .returned (.tuple #[xv, .int .i64 (endF (rowS B e f 0) 0 : Nat), .int .i64 0]) ∧ K.map Fi.d = rowS B e f 0 ∧ Frs w' w.heap.size xv K ∧ Wg W w' p q P Q v' u L M l r h c bw s O ∧ Mod [p] w w'
theorem Wg.scanY {B : List UInt8} (H : Wg W w p q P Q v u L M l r h c bw s O) (e f : Nat) (hT : TabC W) (hc : c ≤ 1000) (hc1 : 1 ≤ c) (hz : v.m.sz = 64) (hd : v.m.dur.length = c + 1) (hn : v.n ≤ 500000) (he : e < 18446744073709551616) (hf : f < 18446744073709551616) (hr : rdA 1 c 64 v (0 : Nat) (c * 64 : Nat) = (v', 0, B)) :
    Calls Tryz.prog 12 #[.pointer (some ⟨r, 0, none⟩), .int .u64 (e : Nat), .int .u64 (f : Nat)] w (WScY W w p q P Q v' u L M l r h c bw s O B e f) := by
  refine (H.scan e f hT hc hc1 hz hd hn he hf).mono fun en w' hh => ?_
  rw [hr] at hh
  obtain ⟨h1, h2, ⟨h3, _⟩ | ⟨_, xv, K, h4, h5, h6⟩⟩ := hh
  · exact absurd rfl h3
  · exact ⟨xv, K, h4, h5, h6, h1, h2⟩
end
end Go.Proofs.YtfepggdljhiemaaGreatDoor

/-! Wal: place; a log that is made. -/
namespace Go.Proofs.YtfepggdljhiemaaGreatDoor
open Go.RowKit Gw

def cP (s : Int) : Nat := 1 + (pick s 8).toNat
theorem cP_le (s : Int) : 1 ≤ cP s ∧ cP s ≤ 8 := by have := pick_lt s 8 (by omega); unfold cP; omega
def dvW (c : Nat) : Pv := ⟨dev0 (c + 1) 64, false, -1, 0⟩
def wO0 (r h p P c : Nat) : List (Nat × TypeId × List Value) := [(r, 142, rgC p c), (h, 64, rhC P c)]
def PlaceP (c : Nat) (W : World) (e : Ending) (w' : World) : Prop :=
  ∃ r p q L h P Q M, e = .returned (.tuple #[.pointer (some ⟨r, 0, none⟩), .pointer (some ⟨p, 0, none⟩), .pointer (some ⟨h, 0, none⟩), .bool true]) ∧ Bw W w' p q P Q (dvW c) (dvW c) L M (wO0 r h p P c)
theorem hnew_okW (p q : Nat) (v : Pv) (L : List Nat) (F C : Nat) (w : World) (hP : Pr w p q v L) (hFs : F ≤ 65536) (hcs : C ≤ 65536) (h : nErr v.m.dur.length F C = 0) :
    Calls Tryz.prog 31 #[.pointer (some ⟨p, 0, none⟩), .agg #[.int .i64 (F : Nat), .int .i64 (C : Nat)]] w fun e w' => ∃ r, e = .returned (.tuple #[.pointer (some ⟨r, 0, none⟩), .int .i64 0]) ∧ Rgr w' r p F C ∧ w.heap.size ≤ r ∧ Mod [] w w' := by
  refine (hnew_any p q v L F C w hP ⟨by omega, by omega⟩ ⟨by omega, by omega⟩).mono fun e w' hh => ?_
  rcases hh with ⟨_, r, h1, h2, h3, h4⟩ | ⟨h1, _⟩
  · exact ⟨r, h1, h2, h3, h4⟩
  · exact absurd h h1
set_option maxRecDepth 1000000 in
set_option maxHeartbeats 8000000 in
theorem place_any (s : Int) (W : World) (ws : i64 s) : Calls Tryz.prog 5 #[.int .i64 s] W (PlaceP (cP s) W) := by
  have P8 := fun w => pick_any s 8 w ws.1 ws.2 (by omega) (by omega)
  have g8 := pick_ge s 8
  have l8 := pick_lt s 8 (by omega)
  have hc := cP_le s
  obtain ⟨c, hcc⟩ : ∃ c, c = cP s := ⟨_, rfl⟩
  have hNN : (c : Int) = 1 + pick s 8 := by rw [hcc]; unfold cP; omega
  rw [← hcc] at hc ⊢
  obtain ⟨K8, hK8⟩ : ∃ Z, Z = pick s 8 := ⟨_, rfl⟩
  rw [← hK8] at P8 g8 l8 hNN
  clear hK8 hcc
  have hN1 : ((c + 1 : Nat) : Int) = 1 + K8 + 1 := by omega
  have hmay := may_s (c + 1) (by omega) (by omega) 64 (.inl rfl)
  have N0 := fun w => dnew_yes (c + 1) 64 w hmay
  have R0 := fun w => rnew_yes (c + 1) 64 w hmay
  unfold NewD at N0
  unfold NewR OwnR at R0
  have hok0 := dev0_ok (c + 1) 64 (by omega) (by omega) (.inl rfl)
  have hd : dev0 (c + 1) 64 = ⟨64, List.replicate (c + 1) (zeros 64), []⟩ := rfl
  rw [← hd] at N0 R0
  have hdv : dvW c = ⟨dev0 (c + 1) 64, false, -1, 0⟩ := rfl
  have hl0 : (dvW c).m.dur.length = c + 1 := by show (List.replicate (c + 1) (zeros 64)).length = _; rw [List.length_replicate]
  have hz0 : (dvW c).m.sz = 64 := rfl
  have hE : nErr (dvW c).m.dur.length (1 : Int) (1 + K8) = 0 := by rw [hl0]; unfold nErr; rw [if_neg (by omega)]
  have hE2 : nErr (dvW c).m.dur.length ((1 : Nat) : Int) (c : Nat) = 0 := by rw [hl0]; unfold nErr; rw [if_neg (by omega)]
  have PN := fun w q L h => pnew_yes q (dev0 (c + 1) 64) L w h hok0
  have QN := fun w q L h => qnew_any q (dev0 (c + 1) 64) L w h hok0
  rw [← hdv] at PN QN
  have G0 := fun p q L w h => gnew_ok p q (dvW c) L 1 (1 + K8) 1 c 64 w h rfl hNN.symm hz0 (by omega) hE
  have H0 := fun p q L w h => hnew_okW p q (dvW c) L 1 c w h (by omega) (by omega) hE2
  rw [hN1] at N0 R0
  rw [hNN, show ((1 : Nat) : Int) = 1 from rfl] at H0
  unfold PlaceP
  obtain ⟨dv, hdv2⟩ : ∃ d, d = dvW c := ⟨_, rfl⟩
  rw [← hdv2] at PN QN G0 H0 ⊢
  obtain ⟨m0, hm0⟩ : ∃ d, d = dev0 (c + 1) 64 := ⟨_, rfl⟩
  rw [← hm0] at N0 R0 PN QN
  clear hd hdv hdv2 hm0 hl0 hz0 hE hE2 hmay hok0 hN1 hNN hc
  go_enter Tryz.func5, Tryz.ntmps5
  go_wp2_with (first
                | (go_at_call 26; (with_reducible refine (P8 _).mono ?_); rintro e w1 ⟨rfl, rfl⟩)
                | (go_at_call 27; refine (N0 _).mono ?_; rintro e w1 ⟨q, L, rfl, hD1, hL1, hm1⟩)
                | (go_at_call 28; refine (PN _ _ _ hD1).mono ?_; rintro e w2 ⟨p, rfl, hP2, hp2, hm2⟩)
                | (go_at_call 29; refine (G0 _ _ _ _ hP2).mono ?_; rintro e w3 ⟨r, rfl, hR3, hr3, hm3⟩)
                | (go_at_call 30; refine (R0 _).mono ?_; rintro e w4 ⟨Q, M, rfl, ⟨hR4, hL4⟩, hm4⟩)
                | (go_at_call 32; refine (QN _ _ _ hR4).mono ?_; rintro e w5 ⟨P, rfl, hE5, hp5, hm5⟩)
                | (go_at_call 31; refine (H0 _ _ _ _ hE5).mono ?_; rintro e w6 ⟨h, rfl, hh6, hr6, hm6⟩))
  refine bodyPost_ret (v := .tuple #[.pointer (some ⟨r, 0, none⟩), .pointer (some ⟨p, 0, none⟩), .pointer (some ⟨h, 0, none⟩), .bool true]) (by simp [results, Tryz.results5, go_sem]) rfl ?_
  have z1 := hm1.size
  have z2 := hm2.size
  have z3 := hm3.size
  have z4 := hm4.size
  have z5 := hm5.size
  have z6 := hm6.size
  have hLt : ∀ k ∈ p :: L, W.heap.size ≤ k ∧ k < w2.heap.size := fun k hk => ⟨(List.mem_cons.1 hk).elim (fun e => by omega) (fun h => hL1 k h), hP2.lt0 k hk⟩
  have hMt : ∀ k ∈ P :: M, w3.heap.size ≤ k ∧ k < w5.heap.size := fun k hk => ⟨(List.mem_cons.1 hk).elim (fun e => by omega) (fun h => hL4 k h), hE5.lt1 k hk⟩
  have hr3t := Rgn.lt hR3
  refine ⟨r, p, q, L, h, P, Q, M, rfl, ⟨(((hP2.ext hm3).ext hm4).ext hm5).ext hm6, hE5.ext hm6, fun k hk hh => ?_, fun x hx => ?_, ((((hm1.ext hm2).ext hm3).ext hm4).ext hm5).ext hm6, fun k hk => (hLt k hk).1, fun k hk => ?_⟩⟩
  · have := hLt k hk; have := hMt k hh; omega
  · rcases List.mem_cons.1 hx with e | hx
    · subst e
      exact ⟨by dsimp only; omega, fun hh => by have := hLt r hh; omega, fun hh => by have := hMt r hh; omega, ((hR3.ext hm4).ext hm5).ext hm6⟩
    · obtain rfl : x = (h, 64, rhC P c) := by simpa using hx
      exact ⟨by dsimp only; omega, fun hh => by have := hLt h hh; omega, fun hh => by have := hMt h hh; omega, hh6⟩
  · have := hMt k hk; omega
/-- a log that was made -/
theorem Wg.make {W w w' : World} {p q P Q : Nat} {v u : Pv} {L M : List Nat} {l r h c : Nat} {s : Ls} (B : Bw W w p q P Q v u L M (wO0 r h p P c)) (hm : Mod [] w w') (hl : w.heap.size ≤ l) (hG : Lg w' l r (.slice none 0 0) s) : Wg W w' p q P Q v u L M l r h c (.slice none 0 0) s [] :=
  ⟨B.new hm hl hG.b, hG.o, fun k hk => by simp [blks] at hk, fun y hy => nomatch hy⟩
theorem Wg.newAny {W w : World} {p q P Q : Nat} {v u : Pv} {L M : List Nat} {r h c : Nat} (B : Bw W w p q P Q v u L M (wO0 r h p P c)) (e f : Nat) (hc : 1 ≤ c) (hc2 : c ≤ 1000) :
    Calls Tryz.prog 6 #[.pointer (some ⟨r, 0, none⟩), .int .u64 (e : Nat), .int .u64 (f : Nat)] w fun en w' => ∃ l, en = .returned (.tuple #[.pointer (some ⟨l, 0, none⟩), .int .i64 0]) ∧ Wg W w' p q P Q v u L M l r h c (.slice none 0 0) ⟨[], 0, f, f, e⟩ [] ∧ Mod [] w w' ∧ w.heap.size ≤ l := by
  refine (lnew_yes r p c e f w (B.blk 0 rfl) hc hc2).mono fun en w' hh => ?_
  obtain ⟨l, e1, e2, e3, e4⟩ := hh
  exact ⟨l, e1, Wg.make B e4 e3 e2, e4, e3⟩
end Go.Proofs.YtfepggdljhiemaaGreatDoor

/-! Wal: a list of bodies beside a log. -/
namespace Go.Proofs.YtfepggdljhiemaaGreatDoor
open Go.RowKit Gw

/-- the block of a list of slices of one's own -/
def InsO (iv : Value) (xs : List Value) (O : List (Nat × TypeId × List Value)) : Prop :=
  (iv = .slice none 0 0 ∧ xs = [] ∧ O = []) ∨ ∃ g cap rest, iv = .slice (some ⟨g, 0, none⟩) xs.length cap ∧ O = [(g, 33, xs ++ rest)] ∧ xs.length ≤ cap ∧ cap ≤ 9223372036854775807 ∧ (xs ++ rest).length = cap * 1
theorem InsO.nil : InsO (.slice none 0 0) [] [] := .inl ⟨rfl, rfl, rfl⟩
theorem InsO.blks {iv : Value} {xs : List Value} {O : List (Nat × TypeId × List Value)} (h : InsO iv xs O) : blks iv = O.map (·.1) := by
  rcases h with ⟨rfl, rfl, rfl⟩ | ⟨g, cap, rest, rfl, rfl, _⟩ <;> simp [Gw.blks]
section
variable {W w w' : World} {p q P Q : Nat} {v u v' u' : Pv} {L M L' M' G : List Nat} {l r h c : Nat} {bw bw' : Value} {s s' : Ls} {O : List (Nat × TypeId × List Value)} {iv iv' : Value} {xs xs' : List Value}
theorem Wg.ins (H : Wg W w p q P Q v u L M l r h c bw s O) (hO : InsO iv xs O) : Ow w 33 1 iv xs.length xs := by
  rcases hO with ⟨rfl, rfl, rfl⟩ | ⟨g, cap, rest, rfl, rfl, h1, h2, h3⟩
  · exact Ow.nil _ _ _
  · exact Ow.of_blk (rest := rest) (H.B.O (g, 33, xs ++ rest) (by simp)).2.2.2 h1 h2 h3 (by simp)
end
end Go.Proofs.YtfepggdljhiemaaGreatDoor

/-! Wal: the plain law: a log and its device through flushes and crashes. -/
namespace Go.Proofs.YtfepggdljhiemaaGreatDoor
open Go.RowKit Gw

/-- a log over the region of a device: so many of the bodies are durable -/
structure Kp (c : Nat) (v : Pv) (s : Ls) (ep f : Nat) (ls : List (List UInt8)) (k : Nat) : Prop where
  ok : v.ok
  sz : v.m.sz = 64
  dur : v.m.dur.length = c + 1
  pre : Pre (catB ep f (ls.take k)) c v.m
  rw : Rw s f ls k
  e : s.e = ep
  lo : LsOk s (c * 64)
section
variable {c : Nat} {v : Pv} {s : Ls} {e f k : Nat} {ls : List (List UInt8)}
theorem Kp.app (h : Kp c v s e f ls k) (l : List UInt8) : Kp c v (s.app (c * 64) l) e f (if s.appE (c * 64) l = 0 then ls ++ [l] else ls) k := by
  refine ⟨h.ok, h.sz, h.dur, ?_, h.rw.app l, ?_, h.lo.app l⟩
  · split
    · rw [List.take_append_of_le_length h.rw.k]
      exact h.pre
    · exact h.pre
  · unfold Ls.app
    split
    · exact h.e
    · exact h.e
theorem Kp.cl (h : Kp c v s e f ls k) : (catB e f (ls.take k)).length = s.g ∧ s.g + s.b.length ≤ c * 64 := by
  have h1 := h.rw.g
  have h2 := h.lo.n
  rw [h.e] at h1
  exact ⟨h1.symm, h2⟩
theorem Kp.all (h : Kp c v s e f ls k) : catB e f (ls.take k) ++ s.b = catB e f ls := by
  have := h.rw.cat
  rw [h.e] at this
  exact this
theorem Kp.fl (h : Kp c v s e f ls k) : ∃ k', Kp c (flG c v s).1 (flG c v s).2.1 e f ls k' ∧ ((flG c v s).2.2 = 0 ∨ (flG c v s).2.2 = 60) ∧ ((flG c v s).2.2 = 0 ↔ k' = ls.length) ∧ k ≤ k' := by
  have hk := h.rw.k
  have hd := h.rw.d
  have ht := h.rw.t
  obtain ⟨hc1, hc2⟩ := h.cl
  unfold flG
  by_cases g : s.d = s.t
  · rw [if_pos g]
    exact ⟨k, h, .inl rfl, ⟨fun _ => by omega, fun _ => rfl⟩, Nat.le_refl _⟩
  · rw [if_neg g]
    have hs := putG_st 1 c 64 v (s.g : Nat) s.b h.ok (hold_in hc2)
    have hz := putG_sz 1 c 64 v (s.g : Nat) s.b
    dsimp only
    by_cases g2 : (putG 1 c 64 v (s.g : Nat) s.b).2 = 0
    · rw [if_pos g2]
      obtain ⟨n, n2, hP⟩ := putG_ok 1 c v s.g s.b h.ok h.sz (by have := h.dur; omega) hc2 g2
      refine ⟨ls.length, ⟨hs.1, hz.sz.trans h.sz, hz.dur.trans h.dur, ?_, h.rw.settle, h.e, h.lo.settle⟩, .inl g2, ⟨fun _ => rfl, fun _ => g2⟩, hk⟩
      rw [List.take_length, ← h.all]
      exact h.pre.done (by rw [hc1]; exact hP) h.dur (by omega)
    · rw [if_neg g2]
      exact ⟨k, ⟨hs.1, hz.sz.trans h.sz, hz.dur.trans h.dur, h.pre.put (by omega), h.rw, h.e, h.lo⟩, hs.2, ⟨fun h0 => absurd h0 g2, fun e => by omega⟩, Nat.le_refl _⟩
theorem Kp.live {m : Dm} {n : Nat} (h : Kp c (Lv m n) s e f ls k) : ∃ m2 n2, Kp c (Lv m2 n2) (flG c (Lv m n) s).2.1 e f ls ls.length ∧ flG c (Lv m n) s = (Lv m2 n2, (flG c (Lv m n) s).2.1, 0) ∧ n ≤ n2 ∧ n2 ≤ n + (2 * (c * 64) + 1) ∧ (flG c (Lv m n) s).2.1.d = (flG c (Lv m n) s).2.1.t ∧
    (∀ p j, c + 1 = m.dur.length → 64 + (catB e f ls).length ≤ p → p + j ≤ (c + 1) * 64 → abs m2 64 p j = abs m 64 p j) ∧ m2.row.length ≤ m.row.length + c * 64 := by
  obtain ⟨k', h1, h2, h3, h4⟩ := h.fl
  obtain ⟨hc1, hc2⟩ := h.cl
  have hall := h.all
  by_cases g : s.d = s.t
  · have e0 : flG c (Lv m n) s = (Lv m n, s, 0) := if_pos g
    rw [e0] at h1 h3 ⊢
    have hk := h3.1 rfl
    subst hk
    exact ⟨m, n, h1, rfl, Nat.le_refl _, by omega, g, fun _ _ _ _ _ => rfl, by omega⟩
  · obtain ⟨m2, n2, e1, hP⟩ := putG_lv 1 c m n s.g s.b h.ok.m h.sz (by have : m.dur.length = c + 1 := h.dur; omega) hc2
    have hz := putG_sz 1 c 64 (Lv m n) (s.g : Nat) s.b
    have e0 : flG c (Lv m n) s = (Lv m2 n2, s.settle, 0) := by
      unfold flG
      rw [if_neg g, e1]
      rfl
    rw [e1] at hz
    rw [e0] at h1 h3 ⊢
    have hk := h3.1 rfl
    subst hk
    refine ⟨m2, n2, h1, rfl, hP.n1, by have := hz.n; show n2 ≤ _; have h5 : n2 ≤ n + 1 * (2 * (c * 64) + 1) := this; omega, rfl, fun p j hm hp hj => hP.abs_out (by rw [← hm]; exact hj) (.inr ?_), by have := hz.row; have h5 : m2.row.length ≤ m.row.length + 1 * (c * 64) := this; omega⟩
    have : (catB e f ls).length = s.g + s.b.length := by rw [← hall, List.length_append, hc1]
    omega
theorem Kp.arm (h : Kp c v s e f ls k) (n : Int) (hok : (v.arm n).ok) : Kp c (v.arm n) s e f ls k := by
  have e1 : (v.arm n).m = v.m := by unfold Pv.arm; split <;> rfl
  exact ⟨hok, by rw [e1]; exact h.sz, by rw [e1]; exact h.dur, by rw [e1]; exact h.pre, h.rw, h.e, h.lo⟩
theorem Kp.re (h : Kp c v s e f ls k) (F : List (Int × Int)) (hok : (v.re F).ok) : Kp c (v.re F) s e f ls k :=
  ⟨hok, h.sz, (keep_len v.m F).trans h.dur, h.pre.re F, h.rw, h.e, h.lo⟩
/-- what a Scan reads -/
theorem Kp.scan {m : Dm} {n : Nat} (h : Kp c (Lv m n) s e f ls k) : rdA 1 c 64 (Lv m n) (0 : Nat) (c * 64 : Nat) = (Lv m (n + chK 64 0 (0 + c * 64)), 0, abs m 64 64 (c * 64)) ∧ chK 64 0 (0 + c * 64) ≤ c * 64 + 2 ∧ ∃ T, abs m 64 64 (c * 64) = catB e f (ls.take k) ++ T := by
  obtain ⟨hc1, hc2⟩ := h.cl
  exact ⟨rdA_lv 1 c 64 m n 0 (c * 64) 64 h.ok.m h.sz (by have : m.dur.length = c + 1 := h.dur; omega) (by omega) rfl, by have := @chK_le 0 (0 + c * 64); omega, h.pre.abs (by omega)⟩
theorem Kp.reset (h : Kp c v s e f ls k) {e' : Nat} (he : e' < 18446744073709551616) : Kp c v (s.reset e') e' s.t [] 0 :=
  ⟨h.ok, h.sz, h.dur, Pre.nil h.ok.m h.sz h.dur, h.rw.reset e', rfl, h.lo.reset he⟩
end
theorem dvW0 (c e f : Nat) (hc : 1 ≤ c) (hc8 : c ≤ 8) (he : e < 18446744073709551616) (hf : f < 18446744073709551616) : Kp c (Lv (dev0 (c + 1) 64) 0) ⟨[], 0, f, f, e⟩ e f [] 0 := by
  have hl : (dev0 (c + 1) 64).dur.length = c + 1 := by show (List.replicate (c + 1) (zeros 64)).length = _; rw [List.length_replicate]
  have hok := dev0_ok (c + 1) 64 (by omega) (by omega) (.inl rfl)
  exact ⟨⟨hok, by show (-1 : Int) ≤ -1; omega, by show (-1 : Int) ≤ _; omega⟩, rfl, hl, Pre.nil hok rfl hl, Rw.new f e, rfl, ⟨he, hf, hf, Nat.zero_le _⟩⟩
/-- over a fresh device: what is flushed, and no more, is found -/
theorem fresh_scan {c : Nat} {s : Ls} {e f : Nat} {ls : List (List UInt8)} (h : Kp c (Lv (dev0 (c + 1) 64) 0) s e f ls 0) (he0 : e ≠ 0) : ∃ m2 n2 s2 B, flG c (Lv (dev0 (c + 1) 64) 0) s = (Lv m2 n2, s2, 0) ∧ Kp c (Lv m2 n2) s2 e f ls ls.length ∧ n2 ≤ 2 * (c * 64) + 1 ∧ m2.row.length ≤ c * 64 ∧
    s2.d = s2.t ∧ rdA 1 c 64 (Lv m2 n2) (0 : Nat) (c * 64 : Nat) = (Lv m2 (n2 + chK 64 0 (0 + c * 64)), 0, B) ∧ rowS B e f 0 = rowB e f 0 ls := by
  obtain ⟨m2, n2, k1, k2, k3, k4, k5, k6, k7⟩ := h.live
  obtain ⟨r1, r2, _⟩ := k1.scan
  obtain ⟨hc1, hc2⟩ := k1.cl
  rw [List.take_length] at hc1
  have hl : (dev0 (c + 1) 64).dur.length = c + 1 := by show (List.replicate (c + 1) (zeros 64)).length = _; rw [List.length_replicate]
  have hp : Pre (catB e f (ls.take ls.length)) c m2 := k1.pre
  rw [List.take_length] at hp
  have e1 := hp.abs2 (by omega)
  rw [k6 _ _ hl.symm (Nat.le_refl _) (by omega), abs_zero (fun i _ => ab_dev0 (c + 1) 64 i)] at e1
  have hf := k1.rw.t
  have ht := k1.lo.t
  refine ⟨m2, n2, _, _, k2, k1, by omega, ?_, k5, r1, ?_⟩
  · have : (dev0 (c + 1) 64).row.length = 0 := rfl
    omega
  · rw [e1]
    exact found_all (by have := k1.lo.e; rw [k1.e] at this; exact this) he0 k1.rw.l (by omega)
theorem map_d {K : List Fi} {e f : Nat} {ls : List (List UInt8)} (h : K.map Fi.d = rowB e f 0 ls) : K.length = ls.length ∧ ∀ i (hi : i < ls.length), ∃ x, K[i]? = some x ∧ x.f = ⟨e, f + i + 1, ls[i]⟩ := by
  have hl : K.length = ls.length := by
    have := congrArg List.length h
    rw [List.length_map, rowB_len] at this
    exact this
  refine ⟨hl, fun i hi => ?_⟩
  obtain ⟨q, hq⟩ := rowB_at e ls f 0 i hi
  rw [← h, List.getElem?_map] at hq
  obtain ⟨x, hx1, hx2⟩ := Option.map_eq_some_iff.1 hq
  exact ⟨x, hx1, congrArg Prod.snd hx2⟩
end Go.Proofs.YtfepggdljhiemaaGreatDoor

/-! Wal: first. -/
namespace Go.Proofs.YtfepggdljhiemaaGreatDoor
open Go.RowKit Gw

end Go.Proofs.YtfepggdljhiemaaGreatDoor

/-! Wal: awake. -/
namespace Go.Proofs.YtfepggdljhiemaaGreatDoor
open Go.RowKit Gw

theorem one_frame {w : World} {base e f : Nat} {v : Value} {K : List Fi} {X : List UInt8} (hK : K.map Fi.d = rowB e f 0 [X]) (hF : Frs w base v K) : ∃ g cap rest u, v = .slice (some ⟨g, 0, none⟩) 1 cap ∧ Blk w g 97 (.int .u64 (e : Nat) :: .int .u64 (f + 1 : Nat) :: u :: rest) ∧ Bs w u X := by
  obtain ⟨x, rfl⟩ : ∃ x, K = [x] := List.length_eq_one_iff.1 (map_d hK).1
  obtain ⟨y, hy, hyf⟩ := (map_d hK).2 0 (by simp)
  obtain rfl : x = y := by simpa using hy
  have hb := (hF.ob (List.mem_singleton.2 rfl)).1.bs
  rcases Ow.blk hF.ow with ⟨_, h0, _⟩ | ⟨g, cap, rest, rfl, hB, _⟩
  · simp at h0
  · refine ⟨g, cap, rest, x.v, rfl, ?_, ?_⟩
    · have e1 : [x].flatMap Fi.cells ++ rest = .int .u64 (x.f.e : Nat) :: .int .u64 (x.f.s : Nat) :: x.v :: rest := by simp [Fi.cells]
      rw [e1, hyf] at hB
      exact hB
    · rw [hyf] at hb
      exact hb
set_option maxRecDepth 1000000 in
set_option maxHeartbeats 8000000 in
theorem walake_any (W : World) (hT : TabC W) : Calls Tryz.prog 16 #[] W fun e w' => e = .returned (.bool true) ∧ Mod [] W w' := by
  obtain ⟨c, hc⟩ : ∃ c, c = 2 := ⟨_, rfl⟩
  have PL : ∀ w, Calls Tryz.prog 5 #[.int .i64 1] w (PlaceP c w) := fun w => by
    have e : cP 1 = c := by rw [hc]; decide
    have := place_any 1 w ⟨by omega, by omega⟩
    rw [e] at this
    exact this
  unfold PlaceP at PL
  have hdv : dvW c = Lv (dev0 (c + 1) 64) 0 := rfl
  rw [hdv] at PL
  obtain ⟨X, hX⟩ : ∃ X : List UInt8, X = [1, 2, 3] := ⟨_, rfl⟩
  have hXl : X.length = 3 := by rw [hX]; rfl
  have hXb : bv X = [.int .u8 1, .int .u8 2, .int .u8 3] := by rw [hX]; rfl
  have K0 := dvW0 c 3 7 (by omega) (by omega) (by omega) (by omega)
  have a0 : (⟨[], 0, 7, 7, 3⟩ : Ls).appE (c * 64) X = 0 := by rw [hc, hX]; decide
  have a1 : (⟨[], 0, 7, 7, 3⟩ : Ls).appN (c * 64) X = 8 := if_pos a0
  have K1 := K0.app X
  rw [if_pos a0] at K1
  obtain ⟨m2, n2, s2, B, f1, f2, f3, f4, f5, f6, f7⟩ := fresh_scan K1 (by decide)
  have e1 : s2.t = 8 := f2.rw.t
  have e2 : s2.u = 25 := by
    rw [f2.rw.u, f2.e]
    show (frame 3 8 X ++ []).length = 25
    rw [List.append_nil, frame_len, hXl]
  have e3 : endF (rowB 3 7 0 ([] ++ [X])) 0 = 25 := by
    rw [rowB_end]
    show 0 + (frame 3 8 X ++ []).length = 25
    rw [List.append_nil, frame_len, hXl]
  have NW := fun {w p q P Q v u L M r h} (B : Bw W w p q P Q v u L M (wO0 r h p P c)) => Wg.newAny B 3 7 (by omega) (by omega)
  have AP := fun {w p q P Q v u L M l r h bw O} (H : Wg W w p q P Q v u L M l r h c bw ⟨[], 0, 7, 7, 3⟩ O) {xv} (hv : Bs w xv X) => H.append hT hv K0.lo (by omega) (by omega)
  unfold WAppP at AP
  rw [a0, a1] at AP
  obtain ⟨s1, hs1⟩ : ∃ s, s = (⟨[], 0, 7, 7, 3⟩ : Ls).app (c * 64) X := ⟨_, rfl⟩
  rw [← hs1] at AP K1 f1
  have hdl := K1.dur
  have FL := fun {w p q P Q u L M l r h bw O} (H : Wg W w p q P Q (Lv (dev0 (c + 1) 64) 0) u L M l r h c bw s1 O) => H.flush K1.lo (by omega) rfl hdl (by show 0 ≤ _; omega) (by show 0 ≤ _; omega)
  unfold WFluP at FL
  rw [f1] at FL
  dsimp only at FL
  have SC := fun {w p q P Q u L M l r h bw O} (H : Wg W w p q P Q (Lv m2 n2) u L M l r h c bw s2 O) => H.scanY 3 7 hT (by omega) (by omega) f2.sz f2.dur (by show n2 ≤ _; omega) (by omega) (by omega) f6
  unfold WScY at SC
  rw [f7, e3] at SC
  obtain ⟨n3, hn3⟩ : ∃ n, n = n2 + chK 64 0 (0 + c * 64) := ⟨_, rfl⟩
  rw [← hn3] at SC
  have US := fun {w l r bw} (h : Lg w l r bw s2) => lUsed_any l r bw s2 w h (by omega)
  have DU := fun {w l r bw} (h : Lg w l r bw s2) => lDurable_any l r bw s2 w h
  rw [f5, e1] at DU
  rw [e2] at US
  have HX := Lib.hid (And.intro hXl hXb)
  clear hn3 hc hdv hX hXl hXb K0 a0 a1 K1 f1 f2 f3 f4 f5 f6 f7 e1 e2 e3 hs1 hdl
  obtain ⟨V0, hV0⟩ : ∃ V, V = Lv (dev0 (c + 1) 64) 0 := ⟨_, rfl⟩
  rw [← hV0] at PL FL
  clear hV0
  go_enter Tryz.func16, Tryz.ntmps16
  go_wp2_with (first
                | (with_reducible refine st_bslice ?_)
                | (go_at_call 5; refine (PL _).mono ?_; rintro e w1 ⟨r, p, q, L, h, P, Q, M, rfl, B1⟩)
                | (go_at_call 6; refine (NW B1).mono ?_; rintro e w2 ⟨l, rfl, H2, hm2, _⟩))
  refine StopOp.gw rfl fun K hK => ?_
  refine wp_bslice stB [.int .u8 1, .int .u8 2, .int .u8 3] rfl (by decide) (by rfl) (by simp [Value.cells]) ?_
  intro g w3 hg1 hg2 hm3 hB3
  simp only [put_some, List.set_cons_succ, List.set_cons_zero]
  refine hK _ _ ?_
  clear hK K
  have hx3 : Ob w3 (.slice (some ⟨g, 0, none⟩) 3 3) X := Ob.new4 (by rw [HX.out.2]; exact hB3) HX.out.1.symm (by omega)
  have hs3 := hx3.bs
  have H3 := H2.ext hm3
  go_wp2_with (first
                | (with_reducible refine st_bslice ?_)
                | (go_at_call 8; refine (AP H3 hs3).mono ?_; rintro e w4 ⟨rfl, bw4, H4, hm4, _⟩)
                | (go_at_call 11; refine (FL H4).mono ?_; rintro e w5 ⟨rfl, bw5, L5, H5, hm5, _⟩)
                | (go_at_call 12; refine (SC H5).mono ?_; rintro e w6 ⟨xv, K, rfl, hK, hF, H6, hm6⟩; obtain ⟨gf, capf, rest, uf, rfl, hBf, hsf⟩ := one_frame hK hF; have c1 := Blk.cell' hBf (i := 1) rfl; have c2 := Blk.cell' hBf (i := 2) rfl))
  refine StopOp.gw rfl fun K hK => ?_
  refine wp_bslice stB [.int .u8 1, .int .u8 2, .int .u8 3] rfl (by decide) (by rfl) (by simp [Value.cells]) ?_
  intro g7 w7 hg7 hg7' hm7 hB7
  simp only [put_some, List.set_cons_succ, List.set_cons_zero]
  refine hK _ _ ?_
  clear hK K
  have hx7 : Ob w7 (.slice (some ⟨g7, 0, none⟩) 3 3) X := Ob.new4 (by rw [HX.out.2]; exact hB7) HX.out.1.symm (by omega)
  have hs7 := hx7.bs
  have hsf7 := hsf.ext hm7
  have H7 := H6.ext hm7
  go_wp2_with (first
                | (go_at_call 44; refine (same_yes X X _ _ _ hsf7 hs7 rfl).mono ?_; rintro e w8 ⟨rfl, hm8⟩; have G8 := (H7.ext hm8).lg)
                | (go_at_call 48; refine (US G8).mono ?_; rintro e w9 ⟨rfl, hm9⟩; have G9 := G8.ext hm9)
                | (go_at_call 49; refine (DU G9).mono ?_; rintro e wa ⟨rfl, rfl⟩))
  go_ret
  exact ⟨rfl, (H7.B.m.ext hm8).ext hm9⟩
end Go.Proofs.YtfepggdljhiemaaGreatDoor
