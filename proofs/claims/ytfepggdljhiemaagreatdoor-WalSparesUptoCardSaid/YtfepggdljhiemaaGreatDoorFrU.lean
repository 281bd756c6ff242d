import Derived.Test.YtfepggdljhiemaaGreatDoorFfC
import Derived.Test.YtfepggdljhiemaaGreatDoorFrP
/-! FrameKeeps: what is told is new memory. -/
set_option linter.unusedVariables false
set_option linter.unusedSimpArgs false
set_option maxRecDepth 100000
namespace Go.Proofs.YtfepggdljhiemaaGreatDoor
open Go.RowKit Gw

theorem Gw.StopOp.gw {P : Program} {ops : Array Oper} {Q : Exit → Act → World → Prop} {rest : List Oper} {a : Act} {w : World} {o : Oper} (hw : Region.wanted o (yielded ops a.tmps) = true) (h : ∀ K : Act → World → Prop, (∀ a w, wpList P ops Q rest a w → K a w) → o.wp P a w K Q) : StopOp P ops Q (o :: rest) a w :=
  wpList_step fun K hK => by rw [if_pos hw]; exact h K hK
def Fi.ce (x : Fi) : Ce := ⟨x.f.e, x.f.s, x.v⟩
theorem cv_ce (L : List Fi) : cv (L.map Fi.ce) = L.flatMap Fi.cells := by
  unfold cv
  rw [List.flatMap_map]
  rfl
theorem Frs.of {w : World} {base : Nat} {v : Value} {L : List Fi} (h : Frs w base v L) : Of w v (L.map Fi.ce) := by
  unfold Of
  rw [cv_ce, List.length_map]
  exact h.ow
theorem Fam.app {w : World} {base B2 : Nat} {A B : List (Value × List UInt8)} (h1 : Fam w base A) (h2 : Fam w B2 B) (hlt : ∀ p ∈ A, ∀ k ∈ blks p.1, k < B2) (hb : base ≤ B2) : Fam w base (A ++ B) := by
  refine ⟨fun p hp => ?_, ?_⟩
  · rcases List.mem_append.1 hp with hp | hp
    · exact h1.ob p hp
    · exact ⟨(h2.ob p hp).1, fun b hb2 => Nat.le_trans hb ((h2.ob p hp).2 b hb2)⟩
  · rw [List.pairwise_append]
    refine ⟨h1.dj, h2.dj, fun p hp q hq b hb1 hb2 => ?_⟩
    have := hlt p hp b hb1
    have := (h2.ob q hq).2 b hb2
    omega
theorem dd_f {A B : List Fi} (h : A.map Fi.d = B.map Fi.d) : A.map Fi.f = B.map Fi.f := by have := congrArg (List.map Prod.snd) h; simpa [Function.comp_def, Fi.d] using this
theorem row_ok {b : List UInt8} {e s : Nat} : ∀ x ∈ rowS b e s 0, x.2.ok := fun x hx => by
  obtain ⟨i, hi, rfl⟩ := List.getElem_of_mem hx
  exact (rowS_at (b := b) (e := e) b.length s 0 (by omega) i hi).2.2
theorem fi_ok {b : List UInt8} {e s : Nat} {L : List Fi} (h : L.map Fi.d = rowS b e s 0) : ∀ x ∈ L, x.f.l.length ≤ 32 := fun x hx => by
  have h1 : x.d ∈ rowS b e s 0 := by rw [← h]; exact List.mem_map.2 ⟨x, hx, rfl⟩
  have := (row_ok _ h1).l
  exact this
/-- ApartFrames of two lists of frames -/
theorem apart2_any (L1 L2 : List Fi) (v1 v2 : Value) (q base B2 : Nat) (w : World) (hB : Blk w q 40 [v1, v2]) (h1 : Frs w base v1 L1) (h2 : Frs w B2 v2 L2) (hb : base ≤ B2)
    (hlt : ∀ k ∈ blks v1, k < B2) (hltb : ∀ x ∈ L1, ∀ k ∈ blks x.v, k < B2) (hn1 : L1.length ≤ 10000) (hn2 : L2.length ≤ 10000) (ho1 : ∀ x ∈ L1, x.f.l.length ≤ 32) (ho2 : ∀ x ∈ L2, x.f.l.length ≤ 32) :
    Calls Tryz.prog 15 #[.slice (some ⟨q, 0, none⟩) 2 2] w fun e w' => e = .returned (.bool true) ∧ ∃ M, Mod M w w' ∧ ∀ y ∈ M, base ≤ y ∧ (y ∈ blks v1 ∨ y ∈ blks v2 ∨ (∃ x ∈ L1, y ∈ blks x.v) ∨ ∃ x ∈ L2, y ∈ blks x.v) := by
  have hS : Sl w 1 (.slice (some ⟨q, 0, none⟩) 2 2) 2 [v1, v2] := (Ow.of_blk (rest := []) hB (Nat.le_refl _) (by omega) rfl rfl : Ow w 40 1 (.slice (some ⟨q, 0, none⟩) 2 2) 2 [v1, v2]).sl
  have hf1 : Fam w base (L1.map Fi.kv) := h1.fam
  have hf2 : Fam w B2 (L2.map Fi.kv) := h2.fam
  have hf := hf1.app hf2 (fun p hp => by
    obtain ⟨x, hx, rfl⟩ := List.mem_map.1 hp
    exact hltb x hx) hb
  refine (apartFrames_any (fun a => if a = 0 then v1 else v2) (fun a => if a = 0 then L1.map Fi.ce else L2.map Fi.ce) (fun a => (if a = 0 then L1.map Fi.ce else L2.map Fi.ce).length) 2 _ (L1.map Fi.kv ++ L2.map Fi.kv) base w hS (fun a ha => ?_) (fun a b ha hb hab k hk1 hk2 => ?_) (fun _ => rfl) ?_ hf ?_ ?_ (by omega)).mono ?_
  · obtain rfl | rfl : a = 0 ∨ a = 1 := by omega
    · exact h1.of
    · exact h2.of
  · obtain rfl | rfl : a = 0 ∨ a = 1 := by omega
    · obtain rfl | rfl : b = 0 ∨ b = 1 := by omega
      · exact hab rfl
      · have := hlt k hk1
        have := h2.nw k hk2
        omega
    · obtain rfl | rfl : b = 0 ∨ b = 1 := by omega
      · have := hlt k hk2
        have := h2.nw k hk1
        omega
      · exact hab rfl
  · rw [show cat (fun a => if a = 0 then L1.map Fi.ce else L2.map Fi.ce) 2 = L1.map Fi.ce ++ L2.map Fi.ce from by simp [cat, List.range_succ]]
    rw [List.map_append, List.map_append, List.map_map, List.map_map, List.map_map, List.map_map]
    rfl
  · simp; omega
  · intro p hp
    rcases List.mem_append.1 hp with hp | hp
    · obtain ⟨x, hx, rfl⟩ := List.mem_map.1 hp
      have := ho1 x hx
      show x.f.l.length ≤ _
      omega
    · obtain ⟨x, hx, rfl⟩ := List.mem_map.1 hp
      have := ho2 x hx
      show x.f.l.length ≤ _
      omega
  · rintro e w' ⟨rfl, M, hM, hk⟩
    refine ⟨rfl, M, hM, fun y hy => ?_⟩
    rcases hk y hy with ⟨a, ha, hya⟩ | ⟨p, hp, hyp⟩
    · obtain rfl | rfl : a = 0 ∨ a = 1 := by omega
      · exact ⟨h1.nw y hya, .inl hya⟩
      · exact ⟨Nat.le_trans hb (h2.nw y hya), .inr (.inl hya)⟩
    · refine ⟨(hf.ob p hp).2 y hyp, ?_⟩
      rcases List.mem_append.1 hp with hp | hp
      · obtain ⟨x, hx, rfl⟩ := List.mem_map.1 hp
        exact .inr (.inr (.inl ⟨x, hx, hyp⟩))
      · obtain ⟨x, hx, rfl⟩ := List.mem_map.1 hp
        exact .inr (.inr (.inr ⟨x, hx, hyp⟩))
/-- ApartFrames of one list of two frames -/
theorem apart1_any (f : Fv) (v1 v2 : Value) (q r base B2 : Nat) (w : World) (hB : Blk w q 40 [.slice (some ⟨r, 0, none⟩) 2 2]) (hR : Blk w r 97 [.int .u64 (f.e : Nat), .int .u64 (f.s : Nat), v1, .int .u64 (f.e : Nat), .int .u64 (f.s : Nat), v2])
    (h1 : Ob w v1 f.l) (h2 : Ob w v2 f.l) (hn1 : ∀ k ∈ blks v1, base ≤ k) (hn2 : ∀ k ∈ blks v2, B2 ≤ k) (hb : base ≤ B2) (hlt : ∀ k ∈ blks v1, k < B2) (hl : f.l.length ≤ 32) (hr : base ≤ r) :
    Calls Tryz.prog 15 #[.slice (some ⟨q, 0, none⟩) 1 1] w fun e w' => e = .returned (.bool true) ∧ ∃ M, Mod M w w' ∧ ∀ y ∈ M, base ≤ y := by
  have hS : Sl w 1 (.slice (some ⟨q, 0, none⟩) 1 1) 1 [.slice (some ⟨r, 0, none⟩) 2 2] := (Ow.of_blk (rest := []) hB (Nat.le_refl _) (by omega) rfl rfl : Ow w 40 1 (.slice (some ⟨q, 0, none⟩) 1 1) 1 [.slice (some ⟨r, 0, none⟩) 2 2]).sl
  have hf1 : Fam w base [(v1, f.l)] := ⟨fun p hp => by rw [List.mem_singleton.1 hp]; exact ⟨h1, hn1⟩, List.pairwise_singleton _ _⟩
  have hf2 : Fam w B2 [(v2, f.l)] := ⟨fun p hp => by rw [List.mem_singleton.1 hp]; exact ⟨h2, hn2⟩, List.pairwise_singleton _ _⟩
  have hf := hf1.app hf2 (fun p hp => by rw [List.mem_singleton.1 hp]; exact hlt) hb
  have hO : Of w (.slice (some ⟨r, 0, none⟩) 2 2) [⟨f.e, f.s, v1⟩, ⟨f.e, f.s, v2⟩] := Ow.of_blk (rest := []) hR (Nat.le_refl _) (by omega) rfl rfl
  refine (apartFrames_any (fun _ => .slice (some ⟨r, 0, none⟩) 2 2) (fun _ => [⟨f.e, f.s, v1⟩, ⟨f.e, f.s, v2⟩]) (fun _ => 2) 1 _ ([(v1, f.l)] ++ [(v2, f.l)]) base w hS (fun a ha => hO) (fun a b ha hb hab k hk1 hk2 => by omega) (fun _ => rfl) rfl hf (by simp) ?_ (by omega)).mono ?_
  · intro p hp
    have : p = (v1, f.l) ∨ p = (v2, f.l) := by simpa using hp
    rcases this with rfl | rfl <;> (show f.l.length ≤ _; omega)
  · rintro e w' ⟨rfl, M, hM, hk⟩
    refine ⟨rfl, M, hM, fun y hy => ?_⟩
    rcases hk y hy with ⟨a, ha, hya⟩ | ⟨p, hp, hyp⟩
    · have e : y = r := by simpa [blks] using hya
      rw [e]
      exact hr
    · exact (hf.ob p hp).2 y hyp
end Go.Proofs.YtfepggdljhiemaaGreatDoor
