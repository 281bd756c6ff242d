import Derived.Test.YtminfegoldgjpaaGreatDoorSyG
import Derived.Test.YtminfegoldgjpaaGreatDoorFilS
import Derived.Test.YtminfegoldgjpaaGreatDoorGDs
import Derived.Test.YtminfegoldgjpaaGreatDoorSyF
import Derived.Test.YtminfegoldgjpaaGreatDoorGOn
set_option linter.unusedVariables false
set_option linter.unusedSimpArgs false
set_option maxRecDepth 100000
namespace Go.Proofs.YtminfegoldgjpaaGreatDoor
open Go.RowKit Gw
theorem Bw.add {W w : World} {p q P Q : Nat} {v u : Pv} {L M : List Nat} {O : List (Nat × TypeId × List Value)} {g : Nat} {t : TypeId} {cs : List Value} (h : Bw W w p q P Q v u L M O) (h1 : W.heap.size ≤ g) (h2 : g ∉ p :: L) (h3 : g ∉ P :: M) (hB : Blk w g t cs) : Bw W w p q P Q v u L M ((g, t, cs) :: O) := by
 refine ⟨h.D, h.E, h.ap, fun y hy => ?_, h.m, h.dn, h.rn⟩
 rcases List.mem_cons.1 hy with e | e
 · subst e
   exact ⟨h1, h2, h3, hB⟩
 · exact h.O y e
theorem OkSop.ext {w w' : World} {o : Sop} (h : OkSop w o) (hm : Mod [] w w') : OkSop w' o :=
 ⟨h.fs.far hm (by simp), fun h0 b hb => Nat.lt_of_lt_of_le (h.old h0 b hb) hm.size, h.d, h.l, h.x, h.cov, h.n, h.f⟩
def Sops (w : World) (v : Value) (os : List Sop) : Prop := Sl w 6 v os.length (os.flatMap Sop.cells) ∧ ∀ o ∈ os, OkSop w o
theorem slen6 : ∀ os : List Sop, (os.flatMap Sop.cells).length = os.length * 6
 | [] => rfl
 | o :: os => by
   rw [List.flatMap_cons, List.length_append, slen6 os, List.length_cons]
   show 6 + os.length * 6 = _
   omega
theorem sflat_at6 : ∀ (os : List Sop) (i j : Nat) (hi : i < os.length) (hj : j < 6), (os.flatMap Sop.cells)[i * 6 + j]? = (os[i].cells)[j]?
 | o :: os, 0, j, _, hj => by
   rw [List.flatMap_cons, Nat.zero_mul, Nat.zero_add, List.getElem?_append_left (show j < o.cells.length from hj)]
   rfl
 | o :: os, i + 1, j, hi, hj => by
   have := sflat_at6 os i j (by simpa using hi) hj
   rw [List.flatMap_cons, List.getElem?_append_right (by show 6 ≤ _; omega)]
   simp only [List.getElem_cons_succ]
   rw [← this]
   congr 1
   show (i + 1) * 6 + j - 6 = _
   omega
theorem Sops.elem {w : World} {ao : Option Addr} {n cap : Nat} {os : List Sop} (h : Sl w 6 (.slice ao n cap) os.length (os.flatMap Sop.cells)) {i : Nat} (hi : i < os.length) :
   ∃ b o, ao = some ⟨b, o, none⟩ ∧ w.rangeAt b (o + i * 6) os[i].cells := by
 obtain ⟨b, o, c, hv, _, _, hc⟩ := h.at (fun h0 => by
   have := sflat_at6 os i 0 hi (by omega)
   rw [h0] at this
   simp [Sop.cells] at this)
 injection hv with e1
 refine ⟨b, o, e1, fun j u hu => ?_⟩
 have hj : j < 6 := by have := (List.getElem?_eq_some_iff.1 hu).1; simpa [Sop.cells] using this
 have := hc (i * 6 + j) u (by rw [sflat_at6 os i j hi hj]; exact hu)
 rwa [← Nat.add_assoc] at this
theorem okN_room {i : Nat} (h : i < 8) : okN i = true → 2 ≤ (spN i).1.2 ∧ (spN i).1.2 ≤ 4 ∧ (spN i).1.1 + (spN i).1.2 ≤ 10 ∧ (spN i).2.1 + (spN i).1.2 ≤ 10 := by
 obtain h | h | h | h | h | h | h | h : i = 0 ∨ i = 1 ∨ i = 2 ∨ i = 3 ∨ i = 4 ∨ i = 5 ∨ i = 6 ∨ i = 7 := by omega
 all_goals subst h; decide
end Go.Proofs.YtminfegoldgjpaaGreatDoor
