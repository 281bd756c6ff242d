import Derived.Test.YtfepggdljhiemaaDoorGOct
import Derived.Deep.DeepAppendRoom
import Derived.Test.YtfepggdljhiemaaDoorGMem
/-! Lists that lie apart: an append keeps whatever is not longer than what it goes on from. -/
set_option linter.unusedVariables false
set_option linter.unusedSimpArgs false
set_option maxRecDepth 100000
namespace Go.Proofs.YtfepggdljhiemaaDoor
open Go.RowKit Gw

section
variable {P : Program} {t e : TypeId} {z : Value} {sz bytes : Nat}
/-- what the call owns keeps through an append in place to a slice that is as long or longer, or lies elsewhere -/
theorem ow_keep {w w' : World} {g n m cap : Nat} {xs ys : List Value} (hp : 0 < sz) (hv : Ow w e sz (.slice (some ⟨g, 0, none⟩) n cap) n xs) (hv' : Ow w' e sz (.slice (some ⟨g, 0, none⟩) (n + m) cap) (n + m) (xs ++ ys)) (hm : Mod [g] w w')
    {u : Value} {k : Nat} {zs : List Value} (hu : Ow w e sz u k zs) (hk : k ≤ n ∨ ∀ b ∈ blks u, b ≠ g) : Ow w' e sz u k zs := by
  by_cases hg : g ∈ blks u
  · have hkn : k ≤ n := hk.resolve_right fun h => h g hg rfl
    rcases hu.blk with ⟨rfl, _⟩ | ⟨g', c, rest, rfl, hB, h1, h2, h3, h4⟩
    · simp [blks] at hg
    · obtain rfl : g = g' := by simpa [blks] using hg
      rcases hv.blk with ⟨h, _⟩ | ⟨g2, c2, rest2, h, hB2, k1, k2, k3, k4⟩
      · cases h
      · injection h with e1 e2 e3
        injection e1 with e1
        injection e1 with e1
        subst e1 e3
        have hcs := (hB.inj hB2).2
        have hcc : c = cap := by
          rw [hcs, k3] at h3
          exact (Nat.eq_of_mul_eq_mul_right hp h3).symm
        subst hcc
        have hz : zs = xs.take (k * sz) := by
          have : (zs ++ rest).take (k * sz) = (xs ++ rest2).take (k * sz) := by rw [hcs]
          rw [← h4, List.take_left, List.take_append_of_le_length (by rw [h4, k4]; exact Nat.mul_le_mul_right _ hkn)] at this
          rw [this, h4]
        rcases hv'.blk with ⟨h, _⟩ | ⟨g3, c3, rest3, h, hB3, q1, q2, q3, q4⟩
        · cases h
        · injection h with e1 e2 e3
          injection e1 with e1
          injection e1 with e1
          subst e1 e3
          have : Blk w' g e (zs ++ ((xs.drop (k * sz) ++ ys) ++ rest3)) := by
            rw [hz, ← List.append_assoc, ← List.append_assoc, List.take_append_drop]
            exact hB3
          refine Ow.of_blk this h1 h2 ?_ h4
          rw [← q3, hz, ← List.append_assoc, ← List.append_assoc, List.take_append_drop]
  · exact hu.mod hm fun b hb hbg => hg (by
      have : b = g := by simpa using hbg
      exact this ▸ hb)

/-- append onto what the call owns; what else it owns stays. -/
theorem wp_append_kp {a : Act} {w : World} {K : Act → World → Prop} {Q : Exit → Act → World → Prop} {d : Option Tmp} {ty : TypeId} {ps : String} {af : Array Edge} {gd : Option (Nat × Bool)}
    (st : ST P t e z sz bytes) {s x : Operand} {v xv : Value} {n m : Nat} {xs ys : List Value} (hs : a.eval s = v) (hx : a.eval x = xv)
    (hv : Ow w e sz v n xs) (hy : Sl w sz xv m ys) (h1 : ∀ u ∈ ys, u.oneCell' = true) (hb : (n + m) * bytes ≤ 140737488355328) (hn : n + m ≤ 9223372036854775807) (hm0 : 0 < m)
    (h : ∀ v' w', Ow w' e sz v' (n + m) (xs ++ ys) → Mod (blks v) w w' → (∀ k ∈ blks v', k ∈ blks v ∨ w.heap.size ≤ k) → (∀ u k zs, Ow w e sz u k zs → (k ≤ n ∨ ∀ b ∈ blks u, b ∉ blks v) → Ow w' e sz u k zs) → K (a.put d v') w') :
    Oper.wp P { dst := d, op := .call { callee := .builtin .append, args := #[s, x], argTypes := #[t, t] }, type := ty, pos := ps, after := af, guard := gd } a w K Q := by
  have hys : ys ≠ [] := fun h0 => by
    have := hy.len
    rw [h0] at this
    have := Nat.mul_pos hm0 st.pos
    simp at *
    omega
  rcases hv.blk with ⟨rfl, rfl, rfl⟩ | ⟨g, cap, rest, rfl, hB, k1, k2, k3, k4⟩
  · refine wp_append_cp st hs hx (Sl.nil w sz) hy h1 hb hn (.inr (by omega)) fun v' w' h2 h3 h4 h5 => ?_
    obtain ⟨h6, h7⟩ := h5 (by omega)
    exact h v' w' h6 h3 (fun k hk => .inr (h7 k hk)) fun u k zs hu _ => hu.ext h3
  · by_cases hr : n + m ≤ cap
    · obtain ⟨i, hi, hz, hsi, hby⟩ := info_parts st.info
      obtain ⟨b, off, cp, rfl, _, _, hcell⟩ := hy.at hys
      refine wp_append_own_spare w s x t rfl 0 e i sz st.under hi hsi g n cap xs hs hv ⟨b, off, none⟩ m cp ys hx hy.len (fun j u hu => by rw [Addr.add_lit]; exact hcell j u hu) h1 hr fun w' h2 h3 => ?_
      have hm : Mod [g] w w' := Mod.grown h3
      exact h _ w' h2 hm (fun k hk => .inl (by simpa [blks] using hk)) fun u k zs hu hk => ow_keep st.pos hv h2 hm hu (hk.imp id fun h b hb hbg => h b hb (by simp [blks, hbg]))
    · refine wp_append_cp st hs hx hv.sl hy h1 hb hn (.inr (by omega)) fun v' w' h2 h3 h4 h5 => ?_
      obtain ⟨h6, h7⟩ := h5 (by omega)
      exact h v' w' h6 (h3.weak (by simp)) (fun k hk => .inr (h7 k hk)) fun u k zs hu _ => hu.ext h3
end

theorem ow_apart {w : World} {e1 e2 : TypeId} {s1 s2 n1 n2 : Nat} {v1 v2 : Value} {xs ys : List Value} (h1 : Ow w e1 s1 v1 n1 xs) (h2 : Ow w e2 s2 v2 n2 ys) (hne : e1 ≠ e2) : ∀ b ∈ blks v1, b ∉ blks v2 := by
  intro b hb
  rcases h1.blk with ⟨rfl, _⟩ | ⟨g, c, r, rfl, hB, _⟩
  · simp [blks] at hb
  · obtain rfl : b = g := by simpa [blks] using hb
    exact Ow.ne h2 hB (Ne.symm hne)

theorem stRow : ST Tryd.prog 56 23 (.slice none 0 0) 1 24 := ⟨Tryd.underlying56, by kernel_rfl, rfl, by decide⟩
theorem ne_rows : 5 ≠ 23 := by decide

/-- the blocks of some rows -/
def LB (V : Nat → Value) (N : Nat) : List Nat := (List.range N).flatMap fun a => blks (V a)
theorem mem_LB {V : Nat → Value} {N a : Nat} {b : Nat} (ha : a < N) (hb : b ∈ blks (V a)) : b ∈ LB V N := List.mem_flatMap.2 ⟨a, List.mem_range.2 ha, hb⟩
theorem of_LB {V : Nat → Value} {N : Nat} {b : Nat} (h : b ∈ LB V N) : ∃ a, a < N ∧ b ∈ blks (V a) := by
  obtain ⟨a, ha, hb⟩ := List.mem_flatMap.1 h
  exact ⟨a, List.mem_range.1 ha, hb⟩
/-- the cells of a list of rows -/
def rc (V : Nat → Value) (N : Nat) : List Value := (List.range N).map V
theorem rc_length (V : Nat → Value) (N : Nat) : (rc V N).length = N := by simp [rc]
theorem rc_at (V : Nat → Value) {N a : Nat} (h : a < N) : (rc V N)[a]? = some (V a) := by simp [rc, h]

/-- rows that lie apart: their contents -/
def RS (w : World) (N : Nat) (V : Nat → Value) (c : Nat → List UInt8) : Prop := ∀ a, a < N → Ob w (V a) (c a)
def Dj (N : Nat) (V : Nat → Value) : Prop := ∀ a b, a < N → b < N → a ≠ b → ∀ k ∈ blks (V a), k ∉ blks (V b)
def upd (c : Nat → List UInt8) (k : Nat) (d : List UInt8) (a : Nat) : List UInt8 := if a = k then d else c a
theorem RS.set {w w' : World} {N k : Nat} {V : Nat → Value} {c : Nat → List UInt8} {d : List UInt8} (h : RS w N V c) (hd : Dj N V) (hk : k < N) (hm : Mod (blks (V k)) w w') (ho : Ob w' (V k) d) : RS w' N V (upd c k d) := by
  intro a ha
  unfold upd
  by_cases hak : a = k
  · subst hak
    rw [if_pos rfl]
    exact ho
  · rw [if_neg hak]
    exact Ow.mod (h a ha) hm (hd a k ha hk hak)
theorem RS.ext {w w' : World} {N : Nat} {V : Nat → Value} {c : Nat → List UInt8} (h : RS w N V c) (hm : Mod [] w w') : RS w' N V c := fun a ha => (h a ha).ext hm
/-- the list of rows stays -/
theorem rows_mod {w w' : World} {N : Nat} {V : Nat → Value} {u : Value} {l : List UInt8} {lv : Value} (hl : Ow w 23 1 lv N (rc V N)) (ho : Ob w u l) (hm : Mod (blks u) w w') : Ow w' 23 1 lv N (rc V N) :=
  Ow.mod hl hm fun b hb hbu => ow_apart ho hl ne_rows b hbu hb
/-- a row's value, and a cell of the list -/
theorem row_at {w : World} {N : Nat} {V : Nat → Value} {ao : Option Addr} {n cap : Nat} (hl : Ow w 23 1 (.slice ao n cap) N (rc V N)) {a : Nat} (ha : a < N) : ∃ b, ao = some ⟨b, 0, none⟩ ∧ w.cell? ⟨b, a, none⟩ = some (V a) := by
  rcases hl.blk with ⟨_, h, _⟩ | ⟨g, c, r, h, hB, _⟩
  · omega
  · injection h with e1
    exact ⟨g, e1, hB.cell' (by rw [List.getElem?_append_left (by rw [rc_length]; exact ha)]; exact rc_at V ha)⟩
end Go.Proofs.YtfepggdljhiemaaDoor

namespace Go.Proofs.YtfepggdljhiemaaDoor
open Go.RowKit Gw

theorem Ob.n {w : World} {v : Value} {l : List UInt8} {n : Nat} (h : Ob w v l) (hl : l.length = n) : ∃ ao cap, v = .slice ao n cap ∧ n ≤ cap ∧ cap ≤ 9223372036854775807 := by
  subst hl
  exact Sl.form h.bs
/-- at a place of it: its block -/
theorem Ob.blk {w : World} {ao : Option Addr} {n cap : Nat} {l : List UInt8} (h : Ob w (.slice ao n cap) l) (hn : 0 < n) : ∃ g rest, ao = some ⟨g, 0, none⟩ ∧ Blk w g 5 (bv l ++ rest) ∧ l.length = n ∧ (bv l ++ rest).length = cap ∧ cap ≤ 9223372036854775807 := by
  rcases Ow.blk h with ⟨h1, _⟩ | ⟨g, c, r, h1, hB, h2, h3, h4, h5⟩
  · injection h1 with _ h1
    omega
  · injection h1 with e1 e2 e3
    subst e1 e3
    exact ⟨g, r, rfl, hB, e2.symm, by simpa using h4, h3⟩
theorem take_marks {l : List UInt8} {k : Int} {i : Nat} (h : l.take i = marks k i) (hi : i < l.length) : (l.set i (mb k i)).take (i + 1) = marks k (i + 1) := by
  rw [List.take_succ_eq_append_getElem (by simpa using hi), List.getElem_set_self, List.take_set_of_le (Nat.le_refl _), h, marks_succ]
theorem bv_set (l : List UInt8) (r : List Value) (i : Nat) (b : UInt8) (hi : i < l.length) : (bv l ++ r).set i (.int .u8 (b.toNat : Nat)) = bv (l.set i b) ++ r := by
  rw [List.set_append_left _ _ (by rw [bv_length]; exact hi)]
  unfold bv
  rw [List.map_set]

def updV (H : Nat → Value) (k : Nat) (v : Value) (a : Nat) : Value := if a = k then v else H a
theorem rc_set (H : Nat → Value) {N k : Nat} (v : Value) (hk : k < N) : (rc H N).set k v = rc (updV H k v) N := by
  apply List.ext_getElem?
  intro a
  rw [List.getElem?_set, rc_length]
  by_cases hak : k = a
  · subst hak
    rw [if_pos rfl, if_pos hk, rc_at _ hk]
    simp [updV]
  · rw [if_neg hak]
    by_cases haN : a < N
    · rw [rc_at _ haN, rc_at _ haN]
      simp [updV, Ne.symm hak]
    · rw [List.getElem?_eq_none (by rw [rc_length]; omega), List.getElem?_eq_none (by rw [rc_length]; omega)]
theorem updV_ne (H : Nat → Value) {k a : Nat} (v : Value) (h : a < k) : updV H k v a = H a := by
  unfold updV
  rw [if_neg (by omega)]
theorem updV_eq (H : Nat → Value) (k : Nat) (v : Value) : updV H k v k = v := by simp [updV]
theorem Ob.kp {w w' : World} {u x : Value} {l lx : List UInt8} (hk : ∀ y k zs, Ow w 5 1 y k zs → (k ≤ lx.length ∨ ∀ b ∈ blks y, b ∉ blks x) → Ow w' 5 1 y k zs) (h : Ob w u l) (hc : l.length ≤ lx.length ∨ ∀ b ∈ blks u, b ∉ blks x) : Ob w' u l := hk _ _ _ h hc
theorem marks_set (k : Int) (i N : Nat) (hi : i < N) : (bv (marks k i) ++ List.replicate (N - i) (Value.int .u8 0)).set i (.int .u8 ((mb k i).toNat : Nat)) = bv (marks k (i + 1)) ++ List.replicate (N - (i + 1)) (.int .u8 0) := by
  obtain ⟨m, hm⟩ : ∃ m, N - i = m + 1 := ⟨N - i - 1, by omega⟩
  rw [List.set_append_right _ _ (by simp [bv_length, marks_length])]
  rw [hm, bv_length, marks_length, Nat.sub_self, List.replicate_succ, List.set_cons_zero, marks_succ, bv_append, List.append_assoc]
  rw [show N - (i + 1) = m by omega]
  rfl

end Go.Proofs.YtfepggdljhiemaaDoor

namespace Go.Proofs.YtfepggdljhiemaaDoor
open Go.RowKit Gw

end Go.Proofs.YtfepggdljhiemaaDoor

namespace Go.Proofs.YtfepggdljhiemaaDoor
open Go.RowKit Gw

def bagCells (v : Value) : List Value := [.slice none 0 0, .slice none 0 0, .slice none 0 0, .slice none 0 0, v, .slice none 0 0, .slice none 0 0, .slice none 0 0, .slice none 0 0, .slice none 0 0, .slice none 0 0, .slice none 0 0, .slice none 0 0, .slice none 0 0, .slice none 0 0, .slice none 0 0, .slice none 0 0, .slice none 0 0, .slice none 0 0]
theorem rc_succ (V : Nat → Value) (k : Nat) : rc V (k + 1) = rc V k ++ [V k] := by simp [rc, List.range_succ]

theorem zero_bag : bagCells (.slice none 0 0) = List.replicate 19 (.slice none 0 0) := rfl
end Go.Proofs.YtfepggdljhiemaaDoor

/-! Slices of bytes that lie apart, as a list; ApartBytes of them. -/
namespace Go.Proofs.YtfepggdljhiemaaDoor
open Go.RowKit Gw

section
variable {w w' : World} {base : Nat} {L A B : List (Value × List UInt8)} {v : Value} {l : List UInt8}
theorem getD_mem {α : Type} (d : α) (l : List α) (a : Nat) (h : a < l.length) : l.getD a d ∈ l := by
  rw [List.getD_eq_getElem?_getD, List.getElem?_eq_getElem h]
  exact List.getElem_mem h
theorem Fam.dj' (h : Fam w base L) (d : Value × List UInt8) : Dj L.length fun a => (L.getD a d).1 := by
  have hp := List.pairwise_iff_getElem.1 h.dj
  intro a b ha hb hab k hk hk2
  have ea : L.getD a d = L[a] := by rw [List.getD_eq_getElem?_getD, List.getElem?_eq_getElem ha]; rfl
  have eb : L.getD b d = L[b] := by rw [List.getD_eq_getElem?_getD, List.getElem?_eq_getElem hb]; rfl
  dsimp only at hk hk2
  rw [ea] at hk
  rw [eb] at hk2
  rcases Nat.lt_or_gt_of_ne hab with h1 | h1
  · exact hp a b ha hb h1 k hk hk2
  · exact hp b a hb ha h1 k hk2 hk
theorem rc_getD (d : Value × List UInt8) (L : List (Value × List UInt8)) : rc (fun a => (L.getD a d).1) L.length = L.map (·.1) := by
  apply List.ext_getElem?
  intro i
  by_cases hi : i < L.length
  · rw [rc_at _ hi, List.getElem?_map, List.getElem?_eq_getElem hi, List.getD_eq_getElem?_getD, List.getElem?_eq_getElem hi]
    rfl
  · rw [List.getElem?_eq_none (by rw [rc_length]; omega), List.getElem?_eq_none (by simp; omega)]
end

/-- the walk of Pick -/
def pick (x n : Int) : Int := if n < 1 then 0 else if x.tmod n < 0 then x.tmod n + n else x.tmod n
theorem pick_ge (x n : Int) : 0 ≤ pick x n := by
  unfold pick
  split
  · exact Int.le_refl _
  · rename_i h
    have := Int.lt_tmod_of_pos x (show 0 < n by omega)
    split <;> omega
theorem pick_lt (x n : Int) (h : 1 ≤ n) : pick x n < n := by
  unfold pick
  rw [if_neg (by omega)]
  have := Int.tmod_lt_of_pos x (show 0 < n by omega)
  split <;> omega
set_option maxHeartbeats 1000000 in
theorem pick_any (x n : Int) (w : World) (h1 : -9223372036854775808 ≤ x) (h2 : x ≤ 9223372036854775807) (h3 : -9223372036854775808 ≤ n) (h4 : n ≤ 9223372036854775807) :
    Calls Tryd.prog 23 #[.int .i64 x, .int .i64 n] w fun e w' => e = .returned (.int .i64 (pick x n)) ∧ w = w' := by
  by_cases hn : n < 1
  · have hp : pick x n = 0 := by unfold pick; rw [if_pos hn]
    rw [hp]
    clear hp
    go_enter Tryd.func23, Tryd.ntmps23
    go_wp2_with fail
    go_ret
    exact ⟨rfl, rfl⟩
  · have hm1 := Int.lt_tmod_of_pos x (show 0 < n by omega)
    have hm2 := Int.tmod_lt_of_pos x (show 0 < n by omega)
    have hn1 : 1 ≤ n := by omega
    by_cases hr : x.tmod n < 0
    · have hp : pick x n = x.tmod n + n := by unfold pick; rw [if_neg hn, if_pos hr]
      rw [hp]
      clear hp hn
      go_enter Tryd.func23, Tryd.ntmps23
      go_wp2_with fail
      go_ret
      exact ⟨rfl, rfl⟩
    · have hp : pick x n = x.tmod n := by unfold pick; rw [if_neg hn, if_neg hr]
      rw [hp]
      clear hp hn
      go_enter Tryd.func23, Tryd.ntmps23
      go_wp2_with fail
      go_ret
      exact ⟨rfl, rfl⟩
end Go.Proofs.YtfepggdljhiemaaDoor
