import Derived.Test.YtdmnogmhnhjdgaaGreatLentC
import Derived.Laws.CopyRow
import Derived.Laws.IdiomCopy
/-! 'copy' into a slice at the head of a block that is known whole. -/
set_option linter.unusedVariables false
set_option linter.unusedSimpArgs false
set_option maxRecDepth 100000
namespace Go.Proofs.YtdmnogmhnhjdgaaGreat
open Go.RowKit Gw

theorem Mod.setRow (w : World) (g : Nat) (cs : Array Value) : Mod [g] w (w.setRow g cs) := ⟨rfl, rfl, rfl, by simp [World.setRow], fun k _ hk => by
  simp only [World.setRow, Array.getElem?_modify]
  rw [if_neg (by simp at hk; omega)]⟩
theorem Blk.setRow {w : World} {g : Nat} {t : TypeId} {cs : List Value} (h : Blk w g t cs) (ds : List Value) : Blk (w.setRow g ds.toArray) g t ds := by
  unfold Blk at h ⊢
  simp [World.setRow, Array.getElem?_modify, h]
theorem add_addr (b o j : Nat) : (⟨b, o, none⟩ : Addr).add j = ⟨b, o + j, none⟩ := by cases j <;> simp [Addr.add]
theorem run_copy_head {P : Program} {w : World} {T elem ty t : TypeId} {g n cap m : Nat} {v : Value} {xs ys rest : List Value} (k : Nat) (hk : k = min m n) (hu : P.underlying T = some (.slice elem)) (hs : (P.info? elem).map (·.size) = some 1)
    (hb : Blk w g t (xs ++ rest)) (hx : xs.length = n) (hv : Sl w 1 v m ys) (h1 : ∀ u ∈ ys, u.oneCell' = true) :
    ∃ w', (Builtin.copy_ #[T, T] ty #[.slice (some ⟨g, 0, none⟩) n cap, v]).run P w = .ok (goInt k) w' ∧ Blk w' g t (ys.take k ++ xs.drop k ++ rest) ∧ Mod [g] w w' := by
  obtain ⟨ao, cap2, rfl, hl, hc, hm, hn, hcell⟩ := hv
  rw [Nat.mul_one] at hl
  by_cases h0 : k = 0
  · subst h0
    exact ⟨w, run_copy_none w T T ty elem _ _ _ _ _ _ hu hs hk.symm, by simpa using hb, Mod.refl _ _⟩
  · cases ao with
    | none =>
      have := hn rfl
      exact absurd (show k = 0 by omega) h0
    | some ad =>
      obtain ⟨hsp, hcl⟩ := hcell ad rfl
      obtain ⟨bb, off, sp⟩ := ad
      have hsp' : sp = none := hsp (by omega)
      subst hsp'
      have hlen : (ys.take k).length = k := by rw [List.length_take]; omega
      have hr := run_copy_row (P := P) w T T ty elem g 0 n cap ⟨bb, off, none⟩ m cap2 (xs ++ rest).toArray t (ys.take k) hu hs hb (by rw [hlen]; exact hk)
        (fun j u hj => by
          have hj' : ys[j]? = some u := by
            rw [List.getElem?_take] at hj
            split at hj
            · exact hj
            · cases hj
          rw [add_addr]
          exact hcl j u hj')
        (by rw [hlen]; simp; omega) (fun u hu => h1 u (List.mem_of_mem_take hu))
      rw [hlen] at hr
      refine ⟨_, hr, ?_, Mod.setRow _ _ _⟩
      have := Blk.setRow hb (ys.take k ++ xs.drop k ++ rest)
      have e : ((xs ++ rest).toArray.toList.take 0 ++ ys.take k ++ (xs ++ rest).toArray.toList.drop (0 + k)) = ys.take k ++ xs.drop k ++ rest := by
        simp only [List.take_zero, List.nil_append, Nat.zero_add]
        rw [List.drop_append_of_le_length (by omega), List.append_assoc]
      rw [e]
      exact this
section
variable {P : Program} {a : Act} {w : World} {K : Act → World → Prop} {Q : Exit → Act → World → Prop}
variable {d : Option Tmp} {ty : TypeId} {ps : String} {af : Array Edge} {gd : Option (Nat × Bool)}
theorem wp_copy_head (k : Nat) {T elem t : TypeId} {g n cap m : Nat} {s x : Operand} {v : Value} {xs ys rest : List Value} (hk : k = min m n) (hu : P.underlying T = some (.slice elem)) (hsz : (P.info? elem).map (·.size) = some 1)
    (hs : a.eval s = .slice (some ⟨g, 0, none⟩) n cap) (hx : a.eval x = v)
    (hb : Blk w g t (xs ++ rest)) (hxl : xs.length = n) (hv : Sl w 1 v m ys) (h1 : ∀ u ∈ ys, u.oneCell' = true)
    (h : ∀ w', Blk w' g t (ys.take k ++ xs.drop k ++ rest) → Mod [g] w w' → K (a.put d (goInt k)) w') :
    Oper.wp P { dst := d, op := .call { callee := .builtin .copy, args := #[s, x], argTypes := #[T, T] }, type := ty, pos := ps, after := af, guard := gd } a w K Q := by
  obtain ⟨w', hr, h2, h3⟩ := run_copy_head (ty := ty) (cap := cap) k hk hu hsz hb hxl hv h1
  unfold Oper.wp execOp
  simp only [resolve, invoke, builtin, Sem.run_bind, Sem.run_pure, Result.andThen_ok, List.map_toArray, List.map_cons, List.map_nil, hs, hx, hr]
  exact h w' h2 h3
end
/-- what a lent list is behind a copy into it -/
def over (c l : List UInt8) : List UInt8 := c.take (min c.length l.length) ++ l.drop (min c.length l.length)
theorem over_len (c l : List UInt8) : (over c l).length = l.length := by unfold over; rw [List.length_append, List.length_take, List.length_drop]; omega
end Go.Proofs.YtdmnogmhnhjdgaaGreat
