import Derived.Test.YtfepggdljhiemaaGreatDoorGRi
import Derived.Test.YtfepggdljhiemaaGreatDoorGDs
/-! Regions: inner, flat. -/
set_option linter.unusedVariables false
set_option linter.unusedSimpArgs false
set_option maxRecDepth 100000
namespace Go.Proofs.YtfepggdljhiemaaGreatDoor
open Go.RowKit Gw

def inF (a : Int) : Nat := (pick a 6).toNat
def inC (a b : Int) : Nat := 1 + (pick b (6 - (inF a : Int))).toNat
theorem in_le (a b : Int) : inF a ≤ 5 ∧ 1 ≤ inC a b ∧ inF a + inC a b ≤ 6 := by
  have h1 := pick_lt a 6 (by omega)
  have h2 : inF a ≤ 5 := by unfold inF; omega
  have h3 := pick_lt b (6 - (inF a : Int)) (by omega)
  unfold inC
  omega
def InnP (F C : Nat) (w : World) (e : Ending) (w' : World) : Prop :=
  ∃ p q L r, e = .returned (.tuple #[.pointer (some ⟨p, 0, none⟩), .pointer (some ⟨r, 0, none⟩), .int .i64 (64 * F : Nat), .bool true]) ∧ Ps w w' p q (Lv (dev0 6 64) 0) L ∧ Rs w' r p F C 64 L
end Go.Proofs.YtfepggdljhiemaaGreatDoor

/-! 'copy' into a slice that begins anywhere in a block that is known whole. -/
namespace Go.Proofs.YtfepggdljhiemaaGreatDoor
open Go.RowKit Gw

theorem run_copy_at {P : Program} {w : World} {T elem ty t : TypeId} {g o n cap m : Nat} {v : Value} {xs ys : List Value} {dd : Option Addr} (k : Nat) (hk : k = min m n) (hu : P.underlying T = some (.slice elem)) (hs : (P.info? elem).map (·.size) = some 1)
    (hb : Blk w g t xs) (ho : o + k ≤ xs.length) (hd : 0 < k → dd = some ⟨g, o, none⟩) (hv : Sl w 1 v m ys) (h1 : ∀ u ∈ ys, u.oneCell' = true) :
    ∃ w', (Builtin.copy_ #[T, T] ty #[.slice dd n cap, v]).run P w = .ok (goInt k) w' ∧ Blk w' g t (xs.take o ++ ys.take k ++ xs.drop (o + k)) ∧ Mod [g] w w' := by
  obtain ⟨ao, cap2, rfl, hl, hc, hm, hn, hcell⟩ := hv
  rw [Nat.mul_one] at hl
  by_cases h0 : k = 0
  · subst h0
    exact ⟨w, run_copy_none w T T ty elem _ _ _ _ _ _ hu hs hk.symm, by simpa using hb, Mod.refl _ _⟩
  · cases ao with
    | none =>
      have := hn rfl
      exact absurd (show k = 0 by omega) h0
    | some ad =>
      obtain rfl := hd (by omega)
      obtain ⟨hsp, hcl⟩ := hcell ad rfl
      obtain ⟨bb, off, sp⟩ := ad
      have hsp' : sp = none := hsp (by omega)
      subst hsp'
      have hlen : (ys.take k).length = k := by rw [List.length_take]; omega
      have hr := run_copy_row (P := P) w T T ty elem g o n cap ⟨bb, off, none⟩ m cap2 xs.toArray t (ys.take k) hu hs hb (by rw [hlen]; exact hk)
        (fun j u hj => by
          have hj' : ys[j]? = some u := by
            rw [List.getElem?_take] at hj
            split at hj
            · exact hj
            · cases hj
          rw [add_addr]
          exact hcl j u hj')
        (by rw [hlen]; simp; omega) (fun u hu => h1 u (List.mem_of_mem_take hu))
      rw [hlen] at hr
      exact ⟨_, hr, Blk.setRow hb _, Mod.setRow _ _ _⟩
section
variable {P : Program} {a : Act} {w : World} {K : Act → World → Prop} {Q : Exit → Act → World → Prop}
variable {d : Option Tmp} {ty : TypeId} {ps : String} {af : Array Edge} {gd : Option (Nat × Bool)}
theorem wp_copy_at (k : Nat) {T elem t : TypeId} {g o n cap m : Nat} {s x : Operand} {v : Value} {xs ys : List Value} {dd : Option Addr} (hk : k = min m n) (hu : P.underlying T = some (.slice elem)) (hsz : (P.info? elem).map (·.size) = some 1)
    (hs : a.eval s = .slice dd n cap) (hx : a.eval x = v)
    (hb : Blk w g t xs) (ho : o + k ≤ xs.length) (hd : 0 < k → dd = some ⟨g, o, none⟩) (hv : Sl w 1 v m ys) (h1 : ∀ u ∈ ys, u.oneCell' = true)
    (h : ∀ w', Blk w' g t (xs.take o ++ ys.take k ++ xs.drop (o + k)) → Mod [g] w w' → K (a.put d (goInt k)) w') :
    Oper.wp P { dst := d, op := .call { callee := .builtin .copy, args := #[s, x], argTypes := #[T, T] }, type := ty, pos := ps, after := af, guard := gd } a w K Q := by
  obtain ⟨w', hr, h2, h3⟩ := run_copy_at (ty := ty) (cap := cap) k hk hu hsz hb ho hd hv h1
  unfold Oper.wp execOp
  simp only [resolve, invoke, builtin, Sem.run_bind, Sem.run_pure, Result.andThen_ok, List.map_toArray, List.map_cons, List.map_nil, hs, hx, hr]
  exact h w' h2 h3
end
end Go.Proofs.YtfepggdljhiemaaGreatDoor

/-! RegionBack: a round of its Writes. -/
namespace Go.Proofs.YtfepggdljhiemaaGreatDoor
open Go.RowKit Gw

theorem abs_put {F n A N n' : Nat} {m m' : Dm} {B : List UInt8} (h : WrL F 64 m n A (A + B.length) B m' n') (hAB : A + B.length ≤ N) :
    abs m' 64 (F * 64) N = (abs m 64 (F * 64) N).take A ++ B ++ (abs m 64 (F * 64) N).drop (A + B.length) := by
  refine List.ext_getElem? fun j => ?_
  by_cases hj : j < N
  · rw [List.getElem?_eq_getElem (by rw [abs_len]; exact hj), abs_get, h.ab]
    by_cases c1 : j < A
    · rw [if_neg (by omega), List.getElem?_append_left (by rw [List.length_append, List.length_take, abs_len]; omega), List.getElem?_append_left (by rw [List.length_take, abs_len]; omega), List.getElem?_take_of_lt c1, List.getElem?_eq_getElem (by rw [abs_len]; exact hj), abs_get]
    · by_cases c2 : j < A + B.length
      · rw [if_pos (by omega), List.getElem?_append_left (by rw [List.length_append, List.length_take, abs_len]; omega), List.getElem?_append_right (by rw [List.length_take, abs_len]; omega), List.length_take, abs_len, Nat.min_eq_left (by omega), List.getD_eq_getElem?_getD, show F * 64 + j - (F * 64 + A) = j - A by omega, List.getElem?_eq_getElem (by omega), Option.getD_some]
      · rw [if_neg (by omega), List.getElem?_append_right (by rw [List.length_append, List.length_take, abs_len]; omega), List.getElem?_drop, List.length_append, List.length_take, abs_len, Nat.min_eq_left (by omega), show A + B.length + (j - (A + B.length)) = j by omega, List.getElem?_eq_getElem (by rw [abs_len]; exact hj), abs_get]
  · rw [List.getElem?_eq_none (by rw [abs_len]; omega), List.getElem?_eq_none (by rw [List.length_append, List.length_append, List.length_take, List.length_drop, abs_len]; omega)]
/-- a region inside a device, and the bytes that it should hold -/
structure Bk (W w : World) (p q r : Nat) (m : Dm) (n : Nat) (L : List Nat) (F C g : Nat) : Prop where
  d : Ps W w p q (Lv m n) L
  r : Rs w r p F C 64 L
  gb : Blk w g 5 (bv (abs m 64 (F * 64) (C * 64)))
  gl : g ∉ p :: L
  gw : W.heap.size ≤ g
section
variable {W w w' : World} {p q r n F C g : Nat} {m : Dm} {L : List Nat}
theorem Bk.ext (h : Bk W w p q r m n L F C g) (hm : Mod [] w w') : Bk W w' p q r m n L F C g := ⟨h.d.ext hm, h.r.ext hm, h.gb.ext hm, h.gl, h.gw⟩
end
structure Bm (m : Dm) (n F C j : Nat) : Prop where
  ok : m.ok
  sz : m.sz = 64
  len : m.dur.length = 6
  n : n ≤ 16 * j
  row : m.row.length ≤ 16 * j
  z : ∀ i, i < F * 64 ∨ F * 64 + C * 64 ≤ i → ab m 64 i = 0
theorem Bm.zero (F C : Nat) : Bm (dev0 6 64) 0 F C 0 := ⟨dev0_ok 6 64 (by omega) (by omega) (.inl rfl), rfl, rfl, by omega, by simp [dev0], fun i _ => ab_dev0 6 64 i⟩
theorem Bm.put {m m' : Dm} {n n' F C j a : Nat} {b : List UInt8} (h : Bm m n F C j) (hw : WrL F 64 m n a (a + b.length) b m' n') (hab : a + b.length ≤ C * 64) (hC : C ≤ 6) : Bm m' n' F C (j + 1) := by
  have h1 := chK_le (a := a) (e := a + b.length)
  have h2 := hw.n2
  have h3 := hw.row
  have h4 := h.n
  have h5 := h.row
  refine ⟨hw.ok, hw.sz, by rw [hw.dur]; exact h.len, by omega, by omega, fun i hi => ?_⟩
  rw [hw.ab, if_neg (by omega)]
  exact h.z i hi
theorem bv_put (P B : List UInt8) (A : Nat) (h : A + B.length ≤ P.length) : (bv P).take A ++ (bv B).take B.length ++ (bv P).drop (A + B.length) = bv (P.take A ++ B ++ P.drop (A + B.length)) := by
  unfold bv
  rw [List.map_append, List.map_append, List.map_take, List.map_drop]
  congr 2
  exact List.take_of_length_le (by simp)
end Go.Proofs.YtfepggdljhiemaaGreatDoor

/-! Regions: behind a Sync what is read is what lies there. -/
namespace Go.Proofs.YtfepggdljhiemaaGreatDoor
open Go.RowKit Gw

theorem tearR_full {b old : List UInt8} {n : Nat} (hb : b.length = n) (ho : old.length = n) : tear n b old = b := by
  unfold tear
  rw [List.take_of_length_le (by omega), List.drop_eq_nil_of_le (by omega), List.append_nil]
theorem readR_snoc (s : Nat) (d : List (List UInt8)) (row : List (Nat × List UInt8)) (a : Nat) (b : List UInt8) (at_ : Nat) : (Dm.mk s d (row ++ [(a, b)])).read at_ = if a = at_ then b else (Dm.mk s d row).read at_ := by
  unfold Dm.read
  rw [List.reverse_append, List.reverse_singleton, List.singleton_append, List.find?_cons]
  by_cases h : a = at_
  · simp [h]
  · simp [h]
theorem settleR_keep (n : Nat) (row : List (Nat × List UInt8)) (d : List (List UInt8)) (hd : ∀ b ∈ d, b.length = n) (hr : ∀ x ∈ row, x.1 < d.length ∧ x.2.length = n) (g : Nat → Nat) (hg : ∀ i, i < row.length → g i = n) (at_ : Nat) (ha : at_ < d.length) :
    (settleD g row d)[at_]? = some ((Dm.mk n d row).read at_) := by
  have key : ∀ j, j ≤ row.length → (settleD g (row.take j) d)[at_]? = some ((Dm.mk n d (row.take j)).read at_) := by
    intro j
    induction j with
    | zero =>
      intro _
      simp only [List.take_zero]
      unfold settleD Dm.read
      simp [List.getElem?_eq_getElem ha]
    | succ j ih =>
      intro hj
      have hj' : j < row.length := by omega
      have ih := ih (by omega)
      have hall := settleD_all g hd (fun x hx => hr x (List.mem_of_mem_take (i := j) hx))
      have hlen : (settleD g (row.take j) d).length = d.length := settleD_len _ _ _
      have hx := hr _ (List.getElem_mem hj')
      rw [settleD_succ _ _ _ _ hj', List.take_add_one, List.getElem?_eq_getElem hj', Option.toList_some]
      generalize row[j] = ab at hx ⊢
      obtain ⟨a, b⟩ := ab
      rw [readR_snoc]
      unfold stepD
      dsimp only at hx ⊢
      rw [List.getElem?_set, hg j hj']
      by_cases h : a = at_
      · subst h
        rw [if_pos rfl, if_pos rfl, if_pos (by omega)]
        rw [tearR_full hx.2]
        refine hall _ ?_
        rw [List.getD_eq_getElem?_getD, List.getElem?_eq_getElem (by omega)]
        exact List.getElem_mem _
      · rw [if_neg h, if_neg h]
        exact ih
  have := key row.length (Nat.le_refl _)
  rwa [List.take_of_length_le (Nat.le_refl _)] at this
theorem sync_at {m : Dm} (hok : m.ok) {i : Nat} (hi : i < m.dur.length) : m.sync.dur[i]? = some (m.read i) := by
  have h := settleR_keep m.sz m.row m.dur hok.d hok.r (fun _ => m.sz) (fun _ _ => rfl) i hi
  exact h
theorem reads_flat {m : Dm} (hok : m.ok) (hsz : m.sz = 64) : ∀ k, k ≤ m.dur.length → ((List.range k).map m.read).flatten = abs m 64 0 (k * 64)
  | 0, _ => by simp [abs]
  | k + 1, h => by
    have hr : (m.read k).length = 64 := by rw [hok.read (by omega), hsz]
    rw [List.range_succ, List.map_append, List.flatten_append, reads_flat hok hsz k (by omega), Nat.add_mul, Nat.one_mul, abs_add]
    have hc := abs_chunk (m := m) (S := k) (M := 0) (T := 64) (z := 64) hr (by omega) (by omega)
    rw [List.drop_zero, Nat.sub_zero, List.take_of_length_le (by omega), Nat.add_zero] at hc
    rw [Nat.zero_add, ← hc]
    simp
theorem sync_flat {m : Dm} (hok : m.ok) (hsz : m.sz = 64) (hl : m.dur.length = 6) (D : List (Value × List UInt8)) (hD : D.map (·.2) = m.sync.dur) : D.flatMap (·.2) = abs m 64 0 384 := by
  have hd : m.sync.dur = (List.range 6).map m.read := by
    refine List.ext_getElem? fun i => ?_
    by_cases hi : i < 6
    · rw [sync_at hok (by omega), List.getElem?_map, List.getElem?_range hi]
      rfl
    · rw [List.getElem?_eq_none (by unfold Dm.sync Dm.settle; dsimp only; rw [settleD_len]; omega), List.getElem?_eq_none (by simp; omega)]
  rw [List.flatMap_def, hD, hd, reads_flat hok hsz 6 (by omega)]
theorem Bm.sync {m : Dm} {n F C j : Nat} (h : Bm m n F C j) : m.sync.dur.length = 6 := by
  unfold Dm.sync Dm.settle
  dsimp only
  rw [settleD_len]
  exact h.len
end Go.Proofs.YtfepggdljhiemaaGreatDoor
