import Derived.Test.YtdmnogmhnhjdgaaRhB
import Derived.Test.YtdmnogmhnhjdgaaRgI
/-! RegionPlays: a step; the law's world: two devices, two regions of each. -/
set_option linter.unusedVariables false
set_option linter.unusedSimpArgs false
set_option maxRecDepth 100000
namespace Go.Proofs.Ytdmnogmhnhjdgaa
open Go.RowKit Gw

/-- a step -/
structure Gop where
  k : Int
  ot : Bool
  a : Int
  n : Int
  bw : Value
  l : List UInt8
  sf : Int
  sc : Int
  fv : Value
  F : List (Int × Int)
def Gop.cells (o : Gop) : List Value := [.int .i64 o.k, .bool o.ot, .int .i64 o.a, .int .i64 o.n, o.bw, .int .i64 o.sf, .int .i64 o.sc, o.fv]
def Gop.val (o : Gop) : Value := .agg #[.int .i64 o.k, .bool o.ot, .int .i64 o.a, .int .i64 o.n, o.bw, .int .i64 o.sf, .int .i64 o.sc, o.fv]
structure OkGop (w : World) (o : Gop) : Prop where
  b : Bs w o.bw o.l
  fs : Fs w o.fv o.F
  old : o.F ≠ [] → ∀ b ∈ blks o.fv, b < w.heap.size
  k : i64 o.k
  a : i64 o.a
  n : i64 o.n
  sf : i64 o.sf
  sc : i64 o.sc
  l : o.l.length ≤ 1048576
  f : o.F.length ≤ 1048576
theorem OkGop.ext {w w' : World} {o : Gop} (h : OkGop w o) (hm : Mod [] w w') : OkGop w' o :=
  ⟨Sl.ext h.b hm, h.fs.far hm (by simp), fun h0 b hb => Nat.lt_of_lt_of_le (h.old h0 b hb) hm.size, h.k, h.a, h.n, h.sf, h.sc, h.l, h.f⟩
/-- a script -/
def Gops (w : World) (v : Value) (os : List Gop) : Prop := Sl w 8 v os.length (os.flatMap Gop.cells) ∧ ∀ o ∈ os, OkGop w o
theorem glen8 : ∀ os : List Gop, (os.flatMap Gop.cells).length = os.length * 8
  | [] => rfl
  | o :: os => by
    rw [List.flatMap_cons, List.length_append, glen8 os, List.length_cons]
    show 8 + os.length * 8 = _
    omega
theorem gflat_at8 : ∀ (os : List Gop) (i j : Nat) (hi : i < os.length) (hj : j < 8), (os.flatMap Gop.cells)[i * 8 + j]? = (os[i].cells)[j]?
  | o :: os, 0, j, _, hj => by
    rw [List.flatMap_cons, Nat.zero_mul, Nat.zero_add, List.getElem?_append_left (show j < o.cells.length from hj)]
    rfl
  | o :: os, i + 1, j, hi, hj => by
    have := gflat_at8 os i j (by simpa using hi) hj
    rw [List.flatMap_cons, List.getElem?_append_right (by show 8 ≤ _; omega)]
    simp only [List.getElem_cons_succ]
    rw [← this]
    congr 1
    show (i + 1) * 8 + j - 8 = _
    omega
theorem Gops.elem {w : World} {ao : Option Addr} {n cap : Nat} {os : List Gop} (h : Sl w 8 (.slice ao n cap) os.length (os.flatMap Gop.cells)) {i : Nat} (hi : i < os.length) :
    ∃ b o, ao = some ⟨b, o, none⟩ ∧ w.rangeAt b (o + i * 8) os[i].cells := by
  obtain ⟨b, o, c, hv, _, _, hc⟩ := h.at (fun h0 => by
    have := gflat_at8 os i 0 hi (by omega)
    rw [h0] at this
    simp [Gop.cells] at this)
  injection hv with e1
  refine ⟨b, o, e1, fun j u hu => ?_⟩
  have hj : j < 8 := by have := (List.getElem?_eq_some_iff.1 hu).1; simpa [Gop.cells] using this
  have := hc (i * 8 + j) u (by rw [gflat_at8 os i j hi hj]; exact hu)
  rwa [← Nat.add_assoc] at this
/-- a region, both ways -/
structure Reg2 where
  r : Nat
  h : Nat
  f : Nat
  c : Nat
def rvO : Option Reg2 → Value
  | none => .pointer none
  | some g => .pointer (some ⟨g.r, 0, none⟩)
def hvO : Option Reg2 → Value
  | none => .pointer none
  | some g => .pointer (some ⟨g.h, 0, none⟩)
def wcl (p P : Nat) (o0 o1 : Option Reg2) : List Value := [.pointer (some ⟨p, 0, none⟩), .pointer (some ⟨P, 0, none⟩), rvO o0, rvO o1, hvO o0, hvO o1]
structure RegOk (W w : World) (p P z N : Nat) (D : List Nat) (g : Reg2) : Prop where
  a : Rgn w g.r p g.f g.c z
  b : Rgr w g.h P g.f g.c
  fc : g.f + g.c ≤ N
  rD : g.r ∉ D
  hD : g.h ∉ D
  r1 : W.heap.size ≤ g.r
  h1 : W.heap.size ≤ g.h
/-- the law's world -/
structure Wld (W w : World) (x p q P Q z N : Nat) (v u : Pv) (L M : List Nat) (o0 o1 : Option Reg2) : Prop where
  bx : Blk w x 92 (wcl p P o0 o1)
  d : Pd w p q v L
  r : Pr w P Q u M
  ap : ∀ k ∈ p :: L, k ∉ P :: M
  xd : x ∉ p :: L
  xr : x ∉ P :: M
  g0 : ∀ g, o0 = some g → RegOk W w p P z N ((p :: L) ++ (P :: M)) g
  g1 : ∀ g, o1 = some g → RegOk W w p P z N ((p :: L) ++ (P :: M)) g
  m : Mod [] W w
  dn : ∀ k ∈ p :: L, W.heap.size ≤ k
  rn : ∀ k ∈ P :: M, W.heap.size ≤ k
  xn : W.heap.size ≤ x
  vz : v.m.sz = z
  vN : v.m.dur.length = N
  uz : u.m.sz = z
  uN : u.m.dur.length = N
section
variable {W w w' : World} {x p q P Q z N : Nat} {v u v' u' : Pv} {L M L' M' G : List Nat} {o0 o1 : Option Reg2} {g : Reg2}
theorem RegOk.mod {D : List Nat} (h : RegOk W w p P z N D g) (hm : Mod G w w') (h1 : g.r ∉ G) (h2 : g.h ∉ G) : RegOk W w' p P z N D g := ⟨h.a.mod hm h1, h.b.mod hm h2, h.fc, h.rD, h.hD, h.r1, h.h1⟩
theorem RegOk.to {D D' : List Nat} (h : RegOk W w p P z N D g) (hD : ∀ k ∈ D', k ∈ D ∨ w.heap.size ≤ k) : RegOk W w p P z N D' g :=
  ⟨h.a, h.b, h.fc, fun hh => (hD _ hh).elim h.rD (fun h1 => by have := Rgn.lt h.a; omega), fun hh => (hD _ hh).elim h.hD (fun h1 => by have := Rgr.lt h.b; omega), h.r1, h.h1⟩
theorem Wld.keep (h : Wld W w x p q P Q z N v u L M o0 o1) (hm : Mod G w w') (h1 : ∀ k ∈ p :: L, k ∉ G) (h2 : ∀ k ∈ P :: M, k ∉ G) (hx : x ∉ G) (h3 : ∀ g, o0 = some g ∨ o1 = some g → g.r ∉ G ∧ g.h ∉ G) (hG : ∀ k ∈ G, W.heap.size ≤ k) : Wld W w' x p q P Q z N v u L M o0 o1 :=
  ⟨h.bx.mod hm hx, h.d.keep0 hm h1, h.r.keep0 hm h2, h.ap, h.xd, h.xr, fun g hg => (h.g0 g hg).mod hm (h3 g (.inl hg)).1 (h3 g (.inl hg)).2, fun g hg => (h.g1 g hg).mod hm (h3 g (.inr hg)).1 (h3 g (.inr hg)).2, h.m.fresh hm hG, h.dn, h.rn, h.xn, h.vz, h.vN, h.uz, h.uN⟩
theorem Wld.ext (h : Wld W w x p q P Q z N v u L M o0 o1) (hm : Mod [] w w') : Wld W w' x p q P Q z N v u L M o0 o1 :=
  h.keep hm (by simp) (by simp) (by simp) (by simp) (by simp)
/-- blocks made since w stand apart -/
theorem Wld.far (h : Wld W w x p q P Q z N v u L M o0 o1) (hm : Mod G w w') (hG : ∀ k ∈ G, w.heap.size ≤ k) : Wld W w' x p q P Q z N v u L M o0 o1 :=
  h.keep hm (fun k hk hh => by have := h.d.lt0 k hk; have := hG k hh; omega) (fun k hk hh => by have := h.r.lt0 k hk; have := hG k hh; omega) (fun hh => by have := h.bx.lt; have := hG x hh; omega)
    (fun g hg => by
      have hr : RegOk W w p P z N ((p :: L) ++ (P :: M)) g := hg.elim (h.g0 g) (h.g1 g)
      exact ⟨fun hh => by have := Rgn.lt hr.a; have := hG _ hh; omega, fun hh => by have := Rgr.lt hr.b; have := hG _ hh; omega⟩) (fun k hk => Nat.le_trans h.m.size (hG k hk))
/-- the program's device has turned -/
theorem Wld.dt (h : Wld W w x p q P Q z N v u L M o0 o1) (hd : Pd w' p q v' L') (hm : Mod (p :: L) w w') (hL : ∀ k ∈ L', k ∈ L ∨ w.heap.size ≤ k) (hz : v'.m.sz = z) (hN : v'.m.dur.length = N) : Wld W w' x p q P Q z N v' u L' M o0 o1 := by
  have hL2 : ∀ k ∈ p :: L', k ∈ p :: L ∨ w.heap.size ≤ k := fun k hk => (List.mem_cons.1 hk).elim (fun e => .inl (by simp [e])) (fun h1 => (hL k h1).imp (fun h2 => List.mem_cons_of_mem _ h2) id)
  have hRg : ∀ g, RegOk W w p P z N ((p :: L) ++ (P :: M)) g → RegOk W w' p P z N ((p :: L') ++ (P :: M)) g := fun g hg =>
    (hg.to (D' := (p :: L') ++ (P :: M)) (fun k hk => (List.mem_append.1 hk).elim (fun h1 => (hL2 k h1).imp (fun h2 => List.mem_append_left _ h2) id) (fun h1 => .inl (List.mem_append_right _ h1)))).mod hm (fun hh => hg.rD (List.mem_append_left _ hh)) (fun hh => hg.hD (List.mem_append_left _ hh))
  refine ⟨h.bx.mod hm h.xd, hd, h.r.keep0 hm (fun k hk hh => h.ap k hh hk), fun k hk hh => ?_, fun hh => ?_, h.xr, fun g hg => hRg g (h.g0 g hg), fun g hg => hRg g (h.g1 g hg), h.m.fresh hm h.dn, fun k hk => (hL2 k hk).elim (h.dn k) (fun h1 => by have := h.m.size; omega), h.rn, h.xn, hz, hN, h.uz, h.uN⟩
  · rcases hL2 k hk with h1 | h1
    · exact h.ap k h1 hh
    · have := h.r.lt0 k hh; omega
  · rcases hL2 x hh with h1 | h1
    · exact h.xd h1
    · have := h.bx.lt; omega
/-- the document's device has turned -/
theorem Wld.rt (h : Wld W w x p q P Q z N v u L M o0 o1) (hd : Pr w' P Q u' M') (hm : Mod (P :: M) w w') (hL : ∀ k ∈ M', k ∈ M ∨ w.heap.size ≤ k) (hz : u'.m.sz = z) (hN : u'.m.dur.length = N) : Wld W w' x p q P Q z N v u' L M' o0 o1 := by
  have hL2 : ∀ k ∈ P :: M', k ∈ P :: M ∨ w.heap.size ≤ k := fun k hk => (List.mem_cons.1 hk).elim (fun e => .inl (by simp [e])) (fun h1 => (hL k h1).imp (fun h2 => List.mem_cons_of_mem _ h2) id)
  have hRg : ∀ g, RegOk W w p P z N ((p :: L) ++ (P :: M)) g → RegOk W w' p P z N ((p :: L) ++ (P :: M')) g := fun g hg =>
    (hg.to (D' := (p :: L) ++ (P :: M')) (fun k hk => (List.mem_append.1 hk).elim (fun h1 => .inl (List.mem_append_left _ h1)) (fun h1 => (hL2 k h1).imp (fun h2 => List.mem_append_right _ h2) id))).mod hm (fun hh => hg.rD (List.mem_append_right _ hh)) (fun hh => hg.hD (List.mem_append_right _ hh))
  refine ⟨h.bx.mod hm h.xr, h.d.keep0 hm h.ap, hd, fun k hk hh => ?_, h.xd, fun hh => ?_, fun g hg => hRg g (h.g0 g hg), fun g hg => hRg g (h.g1 g hg), h.m.fresh hm h.rn, h.dn, fun k hk => (hL2 k hk).elim (h.rn k) (fun h1 => by have := h.m.size; omega), h.xn, h.vz, h.vN, hz, hN⟩
  · rcases hL2 k hh with h1 | h1
    · exact h.ap k hk h1
    · have := h.d.lt0 k hk; omega
  · rcases hL2 x hh with h1 | h1
    · exact h.xr h1
    · have := h.bx.lt; omega
end
end Go.Proofs.Ytdmnogmhnhjdgaa
