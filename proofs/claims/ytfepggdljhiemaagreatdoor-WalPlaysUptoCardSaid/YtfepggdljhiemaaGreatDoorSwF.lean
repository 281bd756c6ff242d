import Derived.Test.YtfepggdljhiemaaGreatDoorSwE
/-! Slots: what stands while a call turns a device; what Save comes to, way by way. -/
set_option linter.unusedVariables false
set_option linter.unusedSimpArgs false
set_option maxRecDepth 100000
namespace Go.Proofs.YtfepggdljhiemaaGreatDoor
open Go.RowKit Gw

/-- what stands while a call turns a device, and has blocks of its own, each known whole -/
structure Sv (W w : World) (p q : Nat) (V : Pv) (L L' : List Nat) (Os : List (Nat × TypeId × List Value)) : Prop where
  P : Pd w p q V L'
  M : Mod (p :: L) W w
  N : ∀ k ∈ L', k ∈ L ∨ W.heap.size ≤ k
  O : ∀ x ∈ Os, W.heap.size ≤ x.1 ∧ x.1 ∉ p :: L' ∧ Blk w x.1 x.2.1 x.2.2
  nd : (Os.map (·.1)).Nodup
  lt : ∀ k ∈ p :: L, k < W.heap.size
theorem Bs.md {w w' : World} {v : Value} {l : List UInt8} {L : List Nat} (h : Bs w v l) (hm : Mod L w w') (hL : ∀ x ∈ blks v, x ∉ L) : Bs w' v l := Sl.mod h hm hL
theorem nodup_at : ∀ {l : List Nat} {i k g : Nat}, l.Nodup → l[i]? = some g → l[k]? = some g → i = k
  | [], _, _, _, _, h, _ => by simp at h
  | x :: l, i, k, g, hn, h1, h2 => by
    obtain ⟨n1, n2⟩ := List.nodup_cons.1 hn
    cases i with
    | zero =>
      cases k with
      | zero => rfl
      | succ k =>
        simp only [List.getElem?_cons_zero, Option.some.injEq, List.getElem?_cons_succ] at h1 h2
        subst h1
        exact absurd (List.mem_of_getElem? h2) n1
    | succ i =>
      cases k with
      | zero =>
        simp only [List.getElem?_cons_zero, Option.some.injEq, List.getElem?_cons_succ] at h1 h2
        subst h2
        exact absurd (List.mem_of_getElem? h1) n1
      | succ k =>
        simp only [List.getElem?_cons_succ] at h1 h2
        exact congrArg (· + 1) (nodup_at n2 h1 h2)
theorem set_same : ∀ {l : List Nat} {i g : Nat}, l[i]? = some g → l.set i g = l
  | [], _, _, h => by simp at h
  | x :: l, 0, g, h => by
    simp only [List.getElem?_cons_zero, Option.some.injEq] at h
    rw [List.set_cons_zero, h]
  | x :: l, i + 1, g, h => by
    simp only [List.getElem?_cons_succ] at h
    rw [List.set_cons_succ, set_same h]
section
variable {W w w' : World} {p q : Nat} {V V' : Pv} {L L' : List Nat} {O O2 : List (Nat × TypeId × List Value)} {g i : Nat} {t : TypeId} {cs cs' : List Value}
theorem Sv.old (h : Sv W w p q V L L' O) {k : Nat} (hk : k < W.heap.size) (hL : k ∉ p :: L) : k ∉ p :: L' := fun hh => by
  rcases List.mem_cons.1 hh with e | e
  · exact hL (e ▸ List.mem_cons_self)
  · exact (h.N k e).elim (fun h1 => hL (List.mem_cons_of_mem _ h1)) (fun h1 => by omega)
theorem Sv.ext (h : Sv W w p q V L L' O) (hm : Mod [] w w') : Sv W w' p q V L L' O :=
  ⟨h.P.ext hm, h.M.ext hm, h.N, fun o ho => ⟨(h.O o ho).1, (h.O o ho).2.1, (h.O o ho).2.2.ext hm⟩, h.nd, h.lt⟩
theorem Sv.new (h : Sv W w p q V L L' O) (hm : Mod [] w w') (h1 : w.heap.size ≤ g) (hB : Blk w' g t cs) : Sv W w' p q V L L' ((g, t, cs) :: O) := by
  have h3 := h.ext hm
  refine ⟨h3.P, h3.M, h3.N, fun o ho => ?_, ?_, h.lt⟩
  · rcases List.mem_cons.1 ho with e | e
    · subst e
      exact ⟨Nat.le_trans h.M.size h1, fun hh => by have := h.P.lt0 g hh; omega, hB⟩
    · exact h3.O o e
  · rw [List.map_cons]
    refine List.nodup_cons.2 ⟨fun hh => ?_, h.nd⟩
    obtain ⟨x, hx, e⟩ := List.mem_map.1 hh
    have := (h.O x hx).2.2.lt
    dsimp only at e
    omega
theorem Sv.set (h : Sv W w p q V L L' O) (hi : O[i]? = some (g, t, cs)) (hm : Mod [g] w w') (hB : Blk w' g t cs') (hO : O.set i (g, t, cs') = O2) : Sv W w' p q V L L' O2 := by
  subst hO
  have hg := h.O _ (List.mem_of_getElem? hi)
  refine ⟨h.P.keep0 hm (fun k hk hh => ?_), h.M.then hm (fun k hk => ?_), h.N, fun x hx => ?_, ?_, h.lt⟩
  · have e : k = g := by simpa using hh
    exact hg.2.1 (e ▸ hk)
  · have e : k = g := by simpa using hk
    exact .inr (e ▸ hg.1)
  · obtain ⟨k, hk⟩ := List.mem_iff_getElem?.1 hx
    rw [List.getElem?_set] at hk
    by_cases hik : i = k
    · rw [if_pos hik] at hk
      split at hk
      · cases hk
        exact ⟨hg.1, hg.2.1, hB⟩
      · cases hk
    · rw [if_neg hik] at hk
      have hx2 := h.O x (List.mem_of_getElem? hk)
      refine ⟨hx2.1, hx2.2.1, hx2.2.2.mod hm (fun hh => hik ?_)⟩
      have e : x.1 = g := by simpa using hh
      exact nodup_at h.nd (show (O.map (·.1))[i]? = some g by rw [List.getElem?_map, hi]; rfl) (show (O.map (·.1))[k]? = some g by rw [List.getElem?_map, hk]; exact congrArg some e)
  · have e : ((O.set i (g, t, cs')).map (·.1)) = O.map (·.1) := by
      rw [List.map_set]
      exact set_same (show (O.map (·.1))[i]? = some g by rw [List.getElem?_map, hi]; rfl)
    rw [e]
    exact h.nd
theorem Sv.blk (h : Sv W w p q V L L' O) (i : Nat) (hi : O[i]? = some (g, t, cs)) : Blk w g t cs := (h.O _ (List.mem_of_getElem? hi)).2.2
theorem Sv.out (h : Sv W w p q V L L' O) (i : Nat) (hi : O[i]? = some (g, t, cs)) : g ∉ p :: L' := (h.O _ (List.mem_of_getElem? hi)).2.1
theorem Sv.rd (h : Sv W w p q V L L' O) (hm : Mod [p] w w') (hP : Pd w' p q V' L') : Sv W w' p q V' L L' O :=
  ⟨hP, h.M.then hm (fun k hk => .inl (by have e : k = p := (by simpa using hk); exact e ▸ List.mem_cons_self)), h.N, fun o ho => ⟨(h.O o ho).1, (h.O o ho).2.1, (h.O o ho).2.2.mod hm (fun hh => (h.O o ho).2.1 (by have e : o.1 = p := (by simpa using hh); exact e ▸ List.mem_cons_self))⟩, h.nd, h.lt⟩
theorem Sv.wr (h : Sv W w p q V L L' O) (hq : PdP w p q V' L' w') : ∃ L2, Sv W w' p q V' L L2 O := by
  obtain ⟨L2, h1, h2, h3⟩ := hq
  refine ⟨L2, h1, h.M.then h2 (fun k hk => ?_), fun k hk => ?_, fun o ho => ?_, h.nd, h.lt⟩
  · rcases List.mem_cons.1 hk with e | e
    · exact .inl (e ▸ List.mem_cons_self)
    · exact (h.N k e).imp (List.mem_cons_of_mem _) id
  · rcases h3 k hk with e | e
    · exact h.N k e
    · exact .inr (Nat.le_trans h.M.size e)
  · obtain ⟨o1, o3, o2⟩ := h.O o ho
    refine ⟨o1, fun hh => ?_, o2.mod h2 o3⟩
    rcases List.mem_cons.1 hh with e | e
    · exact o3 (e ▸ List.mem_cons_self)
    · rcases h3 _ e with e1 | e1
      · exact o3 (List.mem_cons_of_mem _ e1)
      · have := o2.lt
        omega
theorem Sv.fin (h : Sv W w p q V L L' O) : PdP W p q V L w := ⟨L', h.P, h.M, h.N⟩
end
section
variable {f0 f1 x c z : Nat} {v V Va : Pv} {N : Hd} {b : List UInt8} {cov : Nat} {E : Int} {R : Ld5}
end
end Go.Proofs.YtfepggdljhiemaaGreatDoor
