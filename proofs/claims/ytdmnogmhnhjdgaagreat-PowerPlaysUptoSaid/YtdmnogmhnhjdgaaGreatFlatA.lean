import Derived.Test.YtdmnogmhnhjdgaaGreatGOct
import Derived.Deep.DeepAppendRoom
/-! Lists that lie apart: an append keeps whatever is not longer than what it goes on from. -/
set_option linter.unusedVariables false
set_option linter.unusedSimpArgs false
set_option maxRecDepth 100000
namespace Go.Proofs.YtdmnogmhnhjdgaaGreat
open Go.RowKit Gw

section
variable {P : Program} {t e : TypeId} {z : Value} {sz bytes : Nat}
/-- what the call owns keeps through an append in place to a slice that is as long or longer, or lies elsewhere -/
theorem ow_keep {w w' : World} {g n m cap : Nat} {xs ys : List Value} (hp : 0 < sz) (hv : Ow w e sz (.slice (some ⟨g, 0, none⟩) n cap) n xs) (hv' : Ow w' e sz (.slice (some ⟨g, 0, none⟩) (n + m) cap) (n + m) (xs ++ ys)) (hm : Mod [g] w w')
    {u : Value} {k : Nat} {zs : List Value} (hu : Ow w e sz u k zs) (hk : k ≤ n ∨ ∀ b ∈ blks u, b ≠ g) : Ow w' e sz u k zs := by
  by_cases hg : g ∈ blks u
  · have hkn : k ≤ n := hk.resolve_right fun h => h g hg rfl
    rcases hu.blk with ⟨rfl, _⟩ | ⟨g', c, rest, rfl, hB, h1, h2, h3, h4⟩
    · simp [blks] at hg
    · obtain rfl : g = g' := by simpa [blks] using hg
      rcases hv.blk with ⟨h, _⟩ | ⟨g2, c2, rest2, h, hB2, k1, k2, k3, k4⟩
      · cases h
      · injection h with e1 e2 e3
        injection e1 with e1
        injection e1 with e1
        subst e1 e3
        have hcs := (hB.inj hB2).2
        have hcc : c = cap := by
          rw [hcs, k3] at h3
          exact (Nat.eq_of_mul_eq_mul_right hp h3).symm
        subst hcc
        have hz : zs = xs.take (k * sz) := by
          have : (zs ++ rest).take (k * sz) = (xs ++ rest2).take (k * sz) := by rw [hcs]
          rw [← h4, List.take_left, List.take_append_of_le_length (by rw [h4, k4]; exact Nat.mul_le_mul_right _ hkn)] at this
          rw [this, h4]
        rcases hv'.blk with ⟨h, _⟩ | ⟨g3, c3, rest3, h, hB3, q1, q2, q3, q4⟩
        · cases h
        · injection h with e1 e2 e3
          injection e1 with e1
          injection e1 with e1
          subst e1 e3
          have : Blk w' g e (zs ++ ((xs.drop (k * sz) ++ ys) ++ rest3)) := by
            rw [hz, ← List.append_assoc, ← List.append_assoc, List.take_append_drop]
            exact hB3
          refine Ow.of_blk this h1 h2 ?_ h4
          rw [← q3, hz, ← List.append_assoc, ← List.append_assoc, List.take_append_drop]
  · exact hu.mod hm fun b hb hbg => hg (by
      have : b = g := by simpa using hbg
      exact this ▸ hb)

/-- append onto what the call owns; what else it owns stays. -/
theorem wp_append_kp {a : Act} {w : World} {K : Act → World → Prop} {Q : Exit → Act → World → Prop} {d : Option Tmp} {ty : TypeId} {ps : String} {af : Array Edge} {gd : Option (Nat × Bool)}
    (st : ST P t e z sz bytes) {s x : Operand} {v xv : Value} {n m : Nat} {xs ys : List Value} (hs : a.eval s = v) (hx : a.eval x = xv)
    (hv : Ow w e sz v n xs) (hy : Sl w sz xv m ys) (h1 : ∀ u ∈ ys, u.oneCell' = true) (hb : (n + m) * bytes ≤ 140737488355328) (hn : n + m ≤ 9223372036854775807) (hm0 : 0 < m)
    (h : ∀ v' w', Ow w' e sz v' (n + m) (xs ++ ys) → Mod (blks v) w w' → (∀ k ∈ blks v', k ∈ blks v ∨ w.heap.size ≤ k) → (∀ u k zs, Ow w e sz u k zs → (k ≤ n ∨ ∀ b ∈ blks u, b ∉ blks v) → Ow w' e sz u k zs) → K (a.put d v') w') :
    Oper.wp P { dst := d, op := .call { callee := .builtin .append, args := #[s, x], argTypes := #[t, t] }, type := ty, pos := ps, after := af, guard := gd } a w K Q := by
  have hys : ys ≠ [] := fun h0 => by
    have := hy.len
    rw [h0] at this
    have := Nat.mul_pos hm0 st.pos
    simp at *
    omega
  rcases hv.blk with ⟨rfl, rfl, rfl⟩ | ⟨g, cap, rest, rfl, hB, k1, k2, k3, k4⟩
  · refine wp_append_cp st hs hx (Sl.nil w sz) hy h1 hb hn (.inr (by omega)) fun v' w' h2 h3 h4 h5 => ?_
    obtain ⟨h6, h7⟩ := h5 (by omega)
    exact h v' w' h6 h3 (fun k hk => .inr (h7 k hk)) fun u k zs hu _ => hu.ext h3
  · by_cases hr : n + m ≤ cap
    · obtain ⟨i, hi, hz, hsi, hby⟩ := info_parts st.info
      obtain ⟨b, off, cp, rfl, _, _, hcell⟩ := hy.at hys
      refine wp_append_own_spare w s x t rfl 0 e i sz st.under hi hsi g n cap xs hs hv ⟨b, off, none⟩ m cp ys hx hy.len (fun j u hu => by rw [Addr.add_lit]; exact hcell j u hu) h1 hr fun w' h2 h3 => ?_
      have hm : Mod [g] w w' := Mod.grown h3
      exact h _ w' h2 hm (fun k hk => .inl (by simpa [blks] using hk)) fun u k zs hu hk => ow_keep st.pos hv h2 hm hu (hk.imp id fun h b hb hbg => h b hb (by simp [blks, hbg]))
    · refine wp_append_cp st hs hx hv.sl hy h1 hb hn (.inr (by omega)) fun v' w' h2 h3 h4 h5 => ?_
      obtain ⟨h6, h7⟩ := h5 (by omega)
      exact h v' w' h6 (h3.weak (by simp)) (fun k hk => .inr (h7 k hk)) fun u k zs hu _ => hu.ext h3
end

theorem ow_apart {w : World} {e1 e2 : TypeId} {s1 s2 n1 n2 : Nat} {v1 v2 : Value} {xs ys : List Value} (h1 : Ow w e1 s1 v1 n1 xs) (h2 : Ow w e2 s2 v2 n2 ys) (hne : e1 ≠ e2) : ∀ b ∈ blks v1, b ∉ blks v2 := by
  intro b hb
  rcases h1.blk with ⟨rfl, _⟩ | ⟨g, c, r, rfl, hB, _⟩
  · simp [blks] at hb
  · obtain rfl : b = g := by simpa [blks] using hb
    exact Ow.ne h2 hB (Ne.symm hne)

theorem stRow : ST Tryz.prog 38 32 (.slice none 0 0) 1 24 := ⟨Tryz.underlying38, by kernel_rfl, rfl, by decide⟩
theorem ne_rows : 5 ≠ 32 := by decide

/-- the blocks of some rows -/
def LB (V : Nat → Value) (N : Nat) : List Nat := (List.range N).flatMap fun a => blks (V a)
theorem mem_LB {V : Nat → Value} {N a : Nat} {b : Nat} (ha : a < N) (hb : b ∈ blks (V a)) : b ∈ LB V N := List.mem_flatMap.2 ⟨a, List.mem_range.2 ha, hb⟩
theorem of_LB {V : Nat → Value} {N : Nat} {b : Nat} (h : b ∈ LB V N) : ∃ a, a < N ∧ b ∈ blks (V a) := by
  obtain ⟨a, ha, hb⟩ := List.mem_flatMap.1 h
  exact ⟨a, List.mem_range.1 ha, hb⟩
/-- the cells of a list of rows -/
def rc (V : Nat → Value) (N : Nat) : List Value := (List.range N).map V
theorem rc_length (V : Nat → Value) (N : Nat) : (rc V N).length = N := by simp [rc]
theorem rc_at (V : Nat → Value) {N a : Nat} (h : a < N) : (rc V N)[a]? = some (V a) := by simp [rc, h]

/-- rows that lie apart: their contents -/
def RS (w : World) (N : Nat) (V : Nat → Value) (c : Nat → List UInt8) : Prop := ∀ a, a < N → Ob w (V a) (c a)
def Dj (N : Nat) (V : Nat → Value) : Prop := ∀ a b, a < N → b < N → a ≠ b → ∀ k ∈ blks (V a), k ∉ blks (V b)
def upd (c : Nat → List UInt8) (k : Nat) (d : List UInt8) (a : Nat) : List UInt8 := if a = k then d else c a
theorem RS.set {w w' : World} {N k : Nat} {V : Nat → Value} {c : Nat → List UInt8} {d : List UInt8} (h : RS w N V c) (hd : Dj N V) (hk : k < N) (hm : Mod (blks (V k)) w w') (ho : Ob w' (V k) d) : RS w' N V (upd c k d) := by
  intro a ha
  unfold upd
  by_cases hak : a = k
  · subst hak
    rw [if_pos rfl]
    exact ho
  · rw [if_neg hak]
    exact Ow.mod (h a ha) hm (hd a k ha hk hak)
theorem RS.ext {w w' : World} {N : Nat} {V : Nat → Value} {c : Nat → List UInt8} (h : RS w N V c) (hm : Mod [] w w') : RS w' N V c := fun a ha => (h a ha).ext hm
/-- the list of rows stays -/
theorem rows_mod {w w' : World} {N : Nat} {V : Nat → Value} {u : Value} {l : List UInt8} {lv : Value} (hl : Ow w 32 1 lv N (rc V N)) (ho : Ob w u l) (hm : Mod (blks u) w w') : Ow w' 32 1 lv N (rc V N) :=
  Ow.mod hl hm fun b hb hbu => ow_apart ho hl ne_rows b hbu hb
/-- a row's value, and a cell of the list -/
theorem row_at {w : World} {N : Nat} {V : Nat → Value} {ao : Option Addr} {n cap : Nat} (hl : Ow w 32 1 (.slice ao n cap) N (rc V N)) {a : Nat} (ha : a < N) : ∃ b, ao = some ⟨b, 0, none⟩ ∧ w.cell? ⟨b, a, none⟩ = some (V a) := by
  rcases hl.blk with ⟨_, h, _⟩ | ⟨g, c, r, h, hB, _⟩
  · omega
  · injection h with e1
    exact ⟨g, e1, hB.cell' (by rw [List.getElem?_append_left (by rw [rc_length]; exact ha)]; exact rc_at V ha)⟩
end Go.Proofs.YtdmnogmhnhjdgaaGreat
