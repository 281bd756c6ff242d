import Derived.Test.YtfepggdljhiemaaGreatDoorGMem
import Derived.RangeFuncNested
import Derived.RangeFuncBound
import Derived.RangeFuncCalls
import Derived.RangeFuncLeaves
import Derived.OwnWalkIn
import Derived.TacticsInMore
set_option linter.unusedVariables false
set_option linter.unusedSimpArgs false
set_option maxRecDepth 100000
/- A range over a function whose contract tells the body a fact of what it is handed (of new memory). No program is named here. -/
namespace Go.Proofs.YtfepggdljhiemaaGreatDoor.Gw
open Go Go.RowKit

/-- it abides the turn of blocks that hold no cells -/
def Abs (B : Nat) (I : World → Prop) : Prop := ∀ (W W' : World) (M : List Nat), I W → (∀ g ∈ M, B ≤ g ∧ ∃ o : Obj, W.heap[g]? = some o ∧ o.isCells = false) → Mod M W W' → I W'
/-- An iterator's contract: where the round is asked, 'Phi' is told of what is handed over: B is where the heap ended when the last round was over; 'Kp B': what a round keeps. -/
def SeqP {α : Type} (F : Fence) (n : Nat) (P : Program) (g : Nat) (lb : Array Value) (encs : α → Array Value) (Kp : Nat → World → World → Prop) (Phi : List α → Nat → α → World → Prop) (S Sp : List α → Prop) (N : Nat) (w : World) : Prop :=
  ∀ (l : Nat) (J Jx : List α → World → Prop) (W : World), Mod [] w W → (∀ s A B, J s A → Mod [] A B → J s B) → (∀ s A B, Jx s A → Mod [] A B → Jx s B) →
    (∀ pre x W0 W1, J pre W0 → Mod [] W0 W1 → Phi pre W0.heap.size x W1 → pre.length < N → YieldAt F (n - 1) P l (encs x) W1 fun e W' =>
      (e = .returned (.bool true) ∧ J (pre ++ [x]) W' ∧ Kp W0.heap.size W1 W') ∨ (e = .returned (.bool false) ∧ Jx (pre ++ [x]) W')) →
    J [] W →
    CallsIn F n P g (#[.func (.yield l) #[] #[]] ++ lb) W fun e W' => (∃ v, e = .returned v) ∧ ((∃ xs, S xs ∧ J xs W') ∨ (∃ pre, Sp pre ∧ Jx pre W'))
theorem Mod.putObj (W : World) (l : Nat) (o : Obj) : Mod [l] W (W.putObj l o) := Mod.grown (grownBy_putObj' W l o)
theorem KeepsFrom.of_mod {B : Nat} {M : List Nat} {W W' : World} (hm : Mod M W W') (h : ∀ g ∈ M, g < B ∨ W.heap.size ≤ g ∨ ∃ o : Obj, W.heap[g]? = some o ∧ o.isCells = true) : KeepsFrom B W W' :=
  ⟨hm.size, fun k o hB hk ho => (hm.block k (Array.getElem?_eq_some_iff.1 hk).1 (fun hM => by
    rcases h k hM with h1 | h1 | ⟨o', h1, h2⟩
    · omega
    · have := (Array.getElem?_eq_some_iff.1 hk).1; omega
    · rw [hk] at h1; cases h1; rw [h2] at ho; cases ho)).trans hk⟩
theorem Blk.isCells {w : World} {g : Nat} {t : TypeId} {cs : List Value} (h : Blk w g t cs) : ∃ o : Obj, w.heap[g]? = some o ∧ o.isCells = true := ⟨_, h, rfl⟩
/-- how a round may be left: W is the world where it was asked, W3 the one where its body begins -/
def ownPostP {α : Type} (B : Nat) (Kp : World → World → Prop) (I : List α → World → Prop) (Ix : Code → List α → World → Prop) (xs : List α) (W W3 : World) : Exit → Act → World → Prop
  | .normal, _, W' => KeepsFrom B W3 W' ∧ Kp W W' ∧ I xs W'
  | .ret, _, W' => KeepsFrom B W3 W' ∧ Ix .ret xs W'
  | .exit id, _, W' => KeepsFrom B W3 W' ∧ Ix (.exit id) xs W'
  | .goto t, _, W' => KeepsFrom B W3 W' ∧ Ix (.goto t) xs W'
  | .panic _, _, _ => False
  | .outgrown, _, _ => False
section
variable {F : Fence} {n : Nat} {P : Program}
theorem wpIn_rangeFuncP {α : Type} {g : Operand} {ps : Array Tmp} {assign body : Code} {Q : Exit → Act → World → Prop} {a : Act} {w : World}
    (hro : F.round = none) (h1 : 1 ≤ n) {gf : Nat} {lb : Array Value} (hg : a.eval g = .func (.func gf) #[] lb) (hFg : F.fn gf) (eg : ∀ args w, (callFunc gf args).run P w = .ok (.enter gf args) w)
    {encs : α → Array Value} {Kp : Nat → World → World → Prop} {Phi : List α → Nat → α → World → Prop} {S Sp : List α → Prop} {N : Nat} {w0 : World} (hseq : SeqP F (n - 1) P gf lb encs Kp Phi S Sp N w0)
    (hKt : ∀ {b : Nat} {A B C : World}, Kp b A B → Kp b B C → Kp b A C) (hKb : ∀ (b : Nat) (W : World) (l : Nat) (o' : Obj), w.heap.size ≤ l → l < b → Kp b W (W.putObj l o')) (hb0 : Mod [] w0 w) (hps : ∀ x, (encs x).size = ps.size)
    (I : List α → World → Prop) (Ix : Code → List α → World → Prop) (hI : ∀ s, Abs w.heap.size (I s)) (hIx : ∀ c s, Abs w.heap.size (Ix c s)) (h0 : I [] w)
    (hround : ∀ (l : Nat) (pre : List α) (x : α) (W0 W : World), w.heap.size ≤ l → (∃ r, W0.heap[l]? = some (.loop r)) → I pre W0 → Mod [] W0 W → Phi pre W0.heap.size x W → pre.length < N →
      assign.wpIn (F.inRound l) (n - 1 - 1) P (Exit.then (fun a' W2 => Mod [] W W2 ∧ ∀ W3, Mod [l] W2 W3 → body.wpIn (F.inRound l) (n - 1 - 1) P (ownPostP w.heap.size (Kp W0.heap.size) I Ix (pre ++ [x]) W W3) a' W3) (fun _ _ _ => False))
        { tmps := (ps.zip (encs x)).foldl (fun t (p, v) => t.setIfInBounds p v) a.tmps, defers := [] } W)
    (hdone : ∀ (D : Nat) (xs : List α) (W : World), w.heap.size ≤ D → S xs → I xs W → W.heap[D]? = some (.deferred (some [])) → Q .normal { a with defers := { target := .collected D, args := #[] } :: a.defers } W)
    (hstop : ∀ (D : Nat) (c : Code) (pre : List α) (W : World), w.heap.size ≤ D → Sp pre → Ix c pre W → W.heap[D]? = some (.deferred (some [])) → c.wpIn F n P Q { a with defers := { target := .collected D, args := #[] } :: a.defers } W) :
    (Code.rangeFunc g ps assign body).wpIn F n P Q a w := by
  refine wpIn_rangeFunc ?_
  intro fn hfn
  rw [hro]
  obtain ⟨rec, hrec⟩ : ∃ rec : LoopState → Option Code → Loop, rec = fun st pe => { state := st, pending := pe, fn, tmps := a.tmps, params := ps, assign, body, defers := w.heap.size } := ⟨_, rfl⟩
  obtain ⟨W1, hW1⟩ : ∃ W1, (w.alloc (.deferred (some []))).alloc (.loop (rec .ready none)) = W1 := ⟨_, rfl⟩
  have hL1 : W1.heap[w.heap.size + 1]? = some (.loop (rec .ready none)) := by
    rw [← hW1]; have := World.alloc_heap_new (w.alloc (.deferred (some []))) (.loop (rec .ready none)); rwa [World.size_alloc] at this
  have hK1 : W1.heap[w.heap.size]? = some (.deferred (some [])) := by
    rw [← hW1]; exact (Below.heap_alloc _ _ _ (by simp)).trans (World.alloc_heap_new w _)
  have hm1 : Mod [] w W1 := by rw [← hW1]; exact (Mod.alloc [] w _).ext (Mod.alloc [] _ _)
  have hI1 : I [] W1 := hI [] w W1 [] h0 (fun _ h => nomatch h) hm1
  refine ⟨w.heap.size + 1, [{ target := .collected w.heap.size, args := #[] }], W1, { target := .fn (.func gf) lb, args := #[.func (.yield (w.heap.size + 1)) #[] #[]] }, W1, gf,
    #[.func (.yield (w.heap.size + 1)) #[] #[]] ++ lb, W1, ?_, ?_, ?_, ?_, fun _ => h1, ?_⟩
  · rw [← hW1, hrec]; exact run_enterLoop_outer _ _ _ _ _
  · simp only [resolve, hg]
    simp [go_sem]
  · intro f' hf'; simp [Target.leads] at hf'; subst hf'; exact hFg
  · simp [invoke, go_sem, eg]
  · have one : ∀ {W : World} {l : Nat} {o : Obj}, w.heap.size ≤ l → W.heap[l]? = some o → o.isCells = false → ∀ g ∈ [l], w.heap.size ≤ g ∧ ∃ o : Obj, W.heap[g]? = some o ∧ o.isCells = false := fun h1 h2 h3 g hg => by
      have e : g = _ := List.mem_singleton.1 hg
      subst e
      exact ⟨h1, _, h2, h3⟩
    have keep : ∀ {A B : World} {k : Nat} {o : Obj}, A.heap[k]? = some o → Mod [] A B → B.heap[k]? = some o := fun h hm => (hm.block _ (Array.getElem?_eq_some_iff.1 h).1 (by simp)).trans h
    refine (hseq (w.heap.size + 1)
      (fun pre W => I pre W ∧ W.heap[w.heap.size + 1]? = some (.loop (rec .ready none)) ∧ W.heap[w.heap.size]? = some (.deferred (some [])))
      (fun pre W => ∃ c, Ix c pre W ∧ W.heap[w.heap.size + 1]? = some (.loop (rec .done (some c))) ∧ W.heap[w.heap.size]? = some (.deferred (some [])))
      W1 (hb0.ext hm1)
      (fun s A B hs hm => ⟨hI s A B [] hs.1 (fun _ h => nomatch h) hm, keep hs.2.1 hm, keep hs.2.2 hm⟩)
      (fun s A B hs hm => by
        obtain ⟨c, hc, hl, hk⟩ := hs
        exact ⟨c, hIx c s A B [] hc (fun _ h => nomatch h) hm, keep hl hm, keep hk hm⟩)
      ?_ ⟨hI1, hL1, hK1⟩).mono ?_
    · rintro pre x W0 W ⟨hi, hl0, hk0⟩ hm0 hphi hlen
      have hl := keep hl0 hm0
      have hk := keep hk0 hm0
      have hy := run_yield (P := P) (args := encs x) hl (by rw [hrec]; exact hps x)
      rw [hrec] at hy
      refine ⟨fn, _, assign, body, hy, roundIn_of_wpIn hfn (wpIn_mono (hround _ pre x W0 W (Nat.le_succ _) ⟨_, hl0⟩ hi hm0 hphi hlen) ?_)⟩
      clear hy
      intro e a' Wa hpost
      cases e with
      | normal =>
        obtain ⟨hmA, hbody⟩ := hpost
        replace hl := keep hl hmA
        replace hk := keep hk hmA
        have hlt : w.heap.size + 1 < Wa.heap.size := (Array.getElem?_eq_some_iff.1 hl).1
        refine ⟨_, run_beginRound hl (by rw [hrec]), ?_⟩
        have hl2 : (Wa.putObj (w.heap.size + 1) (.loop { rec .ready none with state := .busy })).heap[w.heap.size + 1]? = some (.loop { rec .ready none with state := .busy }) := World.putObj_heap_same hlt
        have hk2 : (Wa.putObj (w.heap.size + 1) (.loop { rec .ready none with state := .busy })).heap[w.heap.size]? = some (.deferred (some [])) := (World.putObj_heap_other (by omega)).trans hk
        refine wpIn_mono (hbody _ (Mod.putObj _ _ _)) ?_
        have fin : ∀ (jump : Option Code) (W3 : World), KeepsFrom w.heap.size (Wa.putObj (w.heap.size + 1) (.loop { rec .ready none with state := .busy })) W3 →
            (Instr.endRound (w.heap.size + 1) jump).run P W3 = .ok (.bool jump.isNone) (W3.putObj (w.heap.size + 1) (.loop (rec (if jump.isNone then .ready else .done) jump))) ∧
            W3.heap[w.heap.size + 1]? = some (.loop { rec .ready none with state := .busy }) ∧
            (W3.putObj (w.heap.size + 1) (.loop (rec (if jump.isNone then .ready else .done) jump))).heap[w.heap.size + 1]? = some (.loop (rec (if jump.isNone then .ready else .done) jump)) ∧
            (W3.putObj (w.heap.size + 1) (.loop (rec (if jump.isNone then .ready else .done) jump))).heap[w.heap.size]? = some (.deferred (some [])) := fun jump W3 hk3 => by
          have hl3 := hk3.same _ _ (by omega) hl2 rfl
          have := run_endRound (P := P) jump hl3
          rw [hrec] at this ⊢
          exact ⟨this, by rw [hrec] at hl3; exact hl3, World.putObj_heap_same (Array.getElem?_eq_some_iff.1 hl3).1, (World.putObj_heap_other (by omega)).trans (hk3.same _ _ (Nat.le_refl _) hk2 rfl)⟩
        rintro e a3 W3 hp
        cases e with
        | normal =>
          obtain ⟨hk3, hkp3, hi3⟩ := hp
          obtain ⟨hr, hl3, hl4, hk4⟩ := fin none W3 hk3
          exact ⟨_, _, hr, .inl ⟨rfl, ⟨hI _ _ _ _ hi3 (one (Nat.le_succ _) hl3 rfl) (Mod.putObj _ _ _), hl4, hk4⟩, hKt hkp3 (hKb _ _ _ _ (Nat.le_succ _) (Array.getElem?_eq_some_iff.1 hl0).1)⟩⟩
        | ret =>
          obtain ⟨hk3, hi3⟩ := hp
          obtain ⟨hr, hl3, hl4, hk4⟩ := fin (some .ret) W3 hk3
          exact ⟨_, _, hr, .inr ⟨rfl, .ret, hIx _ _ _ _ _ hi3 (one (Nat.le_succ _) hl3 rfl) (Mod.putObj _ _ _), hl4, hk4⟩⟩
        | exit id =>
          obtain ⟨hk3, hi3⟩ := hp
          obtain ⟨hr, hl3, hl4, hk4⟩ := fin (some (.exit id)) W3 hk3
          exact ⟨_, _, hr, .inr ⟨rfl, .exit id, hIx _ _ _ _ _ hi3 (one (Nat.le_succ _) hl3 rfl) (Mod.putObj _ _ _), hl4, hk4⟩⟩
        | goto t =>
          obtain ⟨hk3, hi3⟩ := hp
          obtain ⟨hr, hl3, hl4, hk4⟩ := fin (some (.goto t)) W3 hk3
          exact ⟨_, _, hr, .inr ⟨rfl, .goto t, hIx _ _ _ _ _ hi3 (one (Nat.le_succ _) hl3 rfl) (Mod.putObj _ _ _), hl4, hk4⟩⟩
        | panic ch => exact hp.elim
        | outgrown => exact hp.elim
      | ret => exact hpost.elim
      | exit id => exact hpost.elim
      | goto t => exact hpost.elim
      | panic ch => exact hpost.elim
      | outgrown => exact hpost.elim
    · rintro e W2 ⟨⟨v, rfl⟩, (⟨xs, hS, hi, hl, hk⟩ | ⟨pre, hSp, c, hi, hl, hk⟩)⟩
      · exact ⟨none, _, by have := run_endLoop (P := P) hl (by rw [hrec]; simp); rw [hrec] at this; exact this, hdone _ xs _ (Nat.le_refl _) hS (hI _ _ _ _ hi (one (Nat.le_succ _) hl rfl) (Mod.putObj _ _ _)) ((World.putObj_heap_other (by omega)).trans hk)⟩
      · exact ⟨some c, _, by have := run_endLoop (P := P) hl (by rw [hrec]; simp); rw [hrec] at this; exact this, hstop _ c pre _ (Nat.le_refl _) hSp (hIx _ _ _ _ _ hi (one (Nat.le_succ _) hl rfl) (Mod.putObj _ _ _)) ((World.putObj_heap_other (by omega)).trans hk)⟩
end
end Go.Proofs.YtfepggdljhiemaaGreatDoor.Gw
