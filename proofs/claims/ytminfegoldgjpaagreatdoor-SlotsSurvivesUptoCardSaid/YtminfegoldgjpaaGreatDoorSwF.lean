import Derived.Test.YtminfegoldgjpaaGreatDoorSwE
set_option linter.unusedVariables false
set_option linter.unusedSimpArgs false
set_option maxRecDepth 100000
namespace Go.Proofs.YtminfegoldgjpaaGreatDoor
open Go.RowKit Gw
structure Sv (W w : World) (p q : Nat) (V : Pv) (L L' : List Nat) (Os : List (Nat × TypeId × List Value)) : Prop where
 P : Pd w p q V L'
 M : Mod (p :: L) W w
 N : ∀ k ∈ L', k ∈ L ∨ W.heap.size ≤ k
 O : ∀ x ∈ Os, W.heap.size ≤ x.1 ∧ x.1 ∉ p :: L' ∧ Blk w x.1 x.2.1 x.2.2
 nd : (Os.map (·.1)).Nodup
 lt : ∀ k ∈ p :: L, k < W.heap.size
theorem Bs.md {w w' : World} {v : Value} {l : List UInt8} {L : List Nat} (h : Bs w v l) (hm : Mod L w w') (hL : ∀ x ∈ blks v, x ∉ L) : Bs w' v l := Sl.mod h hm hL
theorem nodup_at : ∀ {l : List Nat} {i k g : Nat}, l.Nodup → l[i]? = some g → l[k]? = some g → i = k
 | [], _, _, _, _, h, _ => by simp at h
 | x :: l, i, k, g, hn, h1, h2 => by
   obtain ⟨n1, n2⟩ := List.nodup_cons.1 hn
   cases i with
   | zero =>
     cases k with
     | zero => rfl
     | succ k =>
       simp only [List.getElem?_cons_zero, Option.some.injEq, List.getElem?_cons_succ] at h1 h2
       subst h1
       exact absurd (List.mem_of_getElem? h2) n1
   | succ i =>
     cases k with
     | zero =>
       simp only [List.getElem?_cons_zero, Option.some.injEq, List.getElem?_cons_succ] at h1 h2
       subst h2
       exact absurd (List.mem_of_getElem? h1) n1
     | succ k =>
       simp only [List.getElem?_cons_succ] at h1 h2
       exact congrArg (· + 1) (nodup_at n2 h1 h2)
theorem set_same : ∀ {l : List Nat} {i g : Nat}, l[i]? = some g → l.set i g = l
 | [], _, _, h => by simp at h
 | x :: l, 0, g, h => by
   simp only [List.getElem?_cons_zero, Option.some.injEq] at h
   rw [List.set_cons_zero, h]
 | x :: l, i + 1, g, h => by
   simp only [List.getElem?_cons_succ] at h
   rw [List.set_cons_succ, set_same h]
section
variable {W w w' : World} {p q : Nat} {V V' : Pv} {L L' : List Nat} {O O2 : List (Nat × TypeId × List Value)} {g i : Nat} {t : TypeId} {cs cs' : List Value}
theorem Sv.start (h : Pd W p q V L) : Sv W W p q V L L [] := ⟨h, Mod.refl _ _, fun _ h => .inl h, fun _ h => (List.not_mem_nil h).elim, List.nodup_nil, h.lt0⟩
theorem Sv.old (h : Sv W w p q V L L' O) {k : Nat} (hk : k < W.heap.size) (hL : k ∉ p :: L) : k ∉ p :: L' := fun hh => by
 rcases List.mem_cons.1 hh with e | e
 · exact hL (e ▸ List.mem_cons_self)
 · exact (h.N k e).elim (fun h1 => hL (List.mem_cons_of_mem _ h1)) (fun h1 => by omega)
theorem Sv.ext (h : Sv W w p q V L L' O) (hm : Mod [] w w') : Sv W w' p q V L L' O :=
 ⟨h.P.ext hm, h.M.ext hm, h.N, fun o ho => ⟨(h.O o ho).1, (h.O o ho).2.1, (h.O o ho).2.2.ext hm⟩, h.nd, h.lt⟩
theorem Sv.new (h : Sv W w p q V L L' O) (hm : Mod [] w w') (h1 : w.heap.size ≤ g) (hB : Blk w' g t cs) : Sv W w' p q V L L' ((g, t, cs) :: O) := by
 have h3 := h.ext hm
 refine ⟨h3.P, h3.M, h3.N, fun o ho => ?_, ?_, h.lt⟩
 · rcases List.mem_cons.1 ho with e | e
   · subst e
     exact ⟨Nat.le_trans h.M.size h1, fun hh => by have := h.P.lt0 g hh; omega, hB⟩
   · exact h3.O o e
 · rw [List.map_cons]
   refine List.nodup_cons.2 ⟨fun hh => ?_, h.nd⟩
   obtain ⟨x, hx, e⟩ := List.mem_map.1 hh
   have := (h.O x hx).2.2.lt
   dsimp only at e
   omega
theorem Sv.set (h : Sv W w p q V L L' O) (hi : O[i]? = some (g, t, cs)) (hm : Mod [g] w w') (hB : Blk w' g t cs') (hO : O.set i (g, t, cs') = O2) : Sv W w' p q V L L' O2 := by
 subst hO
 have hg := h.O _ (List.mem_of_getElem? hi)
 refine ⟨h.P.keep0 hm (fun k hk hh => ?_), h.M.then hm (fun k hk => ?_), h.N, fun x hx => ?_, ?_, h.lt⟩
 · have e : k = g := by simpa using hh
   exact hg.2.1 (e ▸ hk)
 · have e : k = g := by simpa using hk
   exact .inr (e ▸ hg.1)
 · obtain ⟨k, hk⟩ := List.mem_iff_getElem?.1 hx
   rw [List.getElem?_set] at hk
   by_cases hik : i = k
   · rw [if_pos hik] at hk
     split at hk
     · cases hk
       exact ⟨hg.1, hg.2.1, hB⟩
     · cases hk
   · rw [if_neg hik] at hk
     have hx2 := h.O x (List.mem_of_getElem? hk)
     refine ⟨hx2.1, hx2.2.1, hx2.2.2.mod hm (fun hh => hik ?_)⟩
     have e : x.1 = g := by simpa using hh
     exact nodup_at h.nd (show (O.map (·.1))[i]? = some g by rw [List.getElem?_map, hi]; rfl) (show (O.map (·.1))[k]? = some g by rw [List.getElem?_map, hk]; exact congrArg some e)
 · have e : ((O.set i (g, t, cs')).map (·.1)) = O.map (·.1) := by
     rw [List.map_set]
     exact set_same (show (O.map (·.1))[i]? = some g by rw [List.getElem?_map, hi]; rfl)
   rw [e]
   exact h.nd
theorem Sv.blk (h : Sv W w p q V L L' O) (i : Nat) (hi : O[i]? = some (g, t, cs)) : Blk w g t cs := (h.O _ (List.mem_of_getElem? hi)).2.2
theorem Sv.out (h : Sv W w p q V L L' O) (i : Nat) (hi : O[i]? = some (g, t, cs)) : g ∉ p :: L' := (h.O _ (List.mem_of_getElem? hi)).2.1
theorem Sv.rd (h : Sv W w p q V L L' O) (hm : Mod [p] w w') (hP : Pd w' p q V' L') : Sv W w' p q V' L L' O :=
 ⟨hP, h.M.then hm (fun k hk => .inl (by have e : k = p := (by simpa using hk); exact e ▸ List.mem_cons_self)), h.N, fun o ho => ⟨(h.O o ho).1, (h.O o ho).2.1, (h.O o ho).2.2.mod hm (fun hh => (h.O o ho).2.1 (by have e : o.1 = p := (by simpa using hh); exact e ▸ List.mem_cons_self))⟩, h.nd, h.lt⟩
theorem Sv.wr (h : Sv W w p q V L L' O) (hq : PdP w p q V' L' w') : ∃ L2, Sv W w' p q V' L L2 O := by
 obtain ⟨L2, h1, h2, h3⟩ := hq
 refine ⟨L2, h1, h.M.then h2 (fun k hk => ?_), fun k hk => ?_, fun o ho => ?_, h.nd, h.lt⟩
 · rcases List.mem_cons.1 hk with e | e
   · exact .inl (e ▸ List.mem_cons_self)
   · exact (h.N k e).imp (List.mem_cons_of_mem _) id
 · rcases h3 k hk with e | e
   · exact h.N k e
   · exact .inr (Nat.le_trans h.M.size e)
 · obtain ⟨o1, o3, o2⟩ := h.O o ho
   refine ⟨o1, fun hh => ?_, o2.mod h2 o3⟩
   rcases List.mem_cons.1 hh with e | e
   · exact o3 (e ▸ List.mem_cons_self)
   · rcases h3 _ e with e1 | e1
     · exact o3 (List.mem_cons_of_mem _ e1)
     · have := o2.lt
       omega
theorem Sv.fin (h : Sv W w p q V L L' O) : PdP W p q V L w := ⟨L', h.P, h.M, h.N⟩
end
def SSvP (w : World) (p q : Nat) (L : List Nat) (R : Pv × Int × Hd) (e : Ending) (w' : World) : Prop := e = .returned (.tuple #[R.2.2.v, .int .i64 R.2.1]) ∧ PdP w p q R.1 L w'
section
variable {f0 f1 x c z : Nat} {v V Va : Pv} {N : Hd} {b : List UInt8} {cov : Nat} {E : Int} {R : Ld5}
theorem saveG_long (h : (c : Int) * z - z < b.length) : saveG f0 f1 c z v b cov = (v, 3, hd0) := if_pos h
theorem saveG_err (h : ¬ ((c : Int) * z - z < b.length)) (hR : loadG f0 f1 c z v = R) (he : R.e ≠ 0) : saveG f0 f1 c z v b cov = (R.v, R.e, hd0) := by
 unfold saveG saveL
 rw [if_neg h, hR, if_pos he]
theorem saveG_full (h : ¬ ((c : Int) * z - z < b.length)) (hR : loadG f0 f1 c z v = R) (he : R.e = 0) (hm : mayH (nextH R.h cov b) = false) : saveG f0 f1 c z v b cov = (R.v, 6, hd0) := by
 unfold saveG saveL
 rw [if_neg h, hR, if_neg (fun hh => hh he), if_pos hm]
theorem saveG_put (h : ¬ ((c : Int) * z - z < b.length)) (hR : loadG f0 f1 c z v = R) (he : R.e = 0) (hm : mayH (nextH R.h cov b) = true) : saveG f0 f1 c z v b cov = saveP (if R.i = 0 then f1 else f0) c z R.v (nextH R.h cov b) b := by
 unfold saveG saveL
 rw [if_neg h, hR, if_neg (fun hh => hh he), if_neg (by rw [hm]; decide)]
theorem saveP_w (h : wrA x c z v z b = (Va, E)) (he : E ≠ 0) : saveP x c z v N b = (Va, E, hd0) := by
 have e : putG x c z v z b = (Va, E) := by
   unfold putG
   rw [h]
   exact if_neg he
 unfold saveP
 rw [e]
 exact if_pos he
theorem saveP_s (h : wrA x c z v z b = (Va, 0)) (he : Va.e 0 ≠ 0) : saveP x c z v N b = (Va.sy, Va.e 0, hd0) := by
 have e : putG x c z v z b = (Va.sy, Va.e 0) := by
   unfold putG
   rw [h]
   exact if_pos rfl
 unfold saveP
 rw [e]
 exact if_pos he
theorem saveP_q (h : wrA x c z v z b = (Va, 0)) (he : Va.e 0 = 0) : saveP x c z v N b = saveQ x c z Va.sy N := by
 have e : putG x c z v z b = (Va.sy, Va.e 0) := by
   unfold putG
   rw [h]
   exact if_pos rfl
 unfold saveP
 rw [e]
 exact if_neg (fun hh => hh he)
theorem saveQ_w (h : wrA x c z v 0 (secH z N) = (Va, E)) (he : E ≠ 0) : saveQ x c z v N = (Va, E, hd0) := by
 have e : putG x c z v 0 (secH z N) = (Va, E) := by
   unfold putG
   rw [h]
   exact if_neg he
 unfold saveQ
 rw [e]
 exact if_pos he
theorem saveQ_s (h : wrA x c z v 0 (secH z N) = (Va, 0)) (he : Va.e 0 ≠ 0) : saveQ x c z v N = (Va.sy, Va.e 0, hd0) := by
 have e : putG x c z v 0 (secH z N) = (Va.sy, Va.e 0) := by
   unfold putG
   rw [h]
   exact if_pos rfl
 unfold saveQ
 rw [e]
 exact if_pos he
theorem saveQ_y (h : wrA x c z v 0 (secH z N) = (Va, 0)) (he : Va.e 0 = 0) : saveQ x c z v N = (Va.sy, 0, N) := by
 have e : putG x c z v 0 (secH z N) = (Va.sy, Va.e 0) := by
   unfold putG
   rw [h]
   exact if_pos rfl
 unfold saveQ
 rw [e]
 exact if_neg (fun hh => hh he)
end
theorem bv_sec (z : Nat) (h32 : 32 ≤ z) (N : Hd) : (bv (hdr N)).take 32 ++ (bv (zeros z)).drop 32 = bv (secH z N) := by
 have h1 : (bv (hdr N)).take 32 = bv (hdr N) := List.take_of_length_le (by rw [bv_length, hdr_len]; omega)
 have h2 : (bv (zeros z)).drop 32 = bv (zeros (z - 32)) := by
   unfold bv zeros
   rw [← List.map_drop, List.drop_replicate]
 unfold secH
 rw [h1, h2, bv_append]
end Go.Proofs.YtminfegoldgjpaaGreatDoor
