import Derived.Test.YtkedbphdflhhlaaDkO
import Derived.Test.YtkedbphdflhhlaaRowE
/-! DiskNone. -/
set_option linter.unusedVariables false
set_option linter.unusedSimpArgs false
set_option maxRecDepth 100000
namespace Go.Proofs.Ytkedbphdflhhlaa
open Go.RowKit Gw

/-- an operation that its guard lets through -/
theorem StopOp.gw {P : Program} {ops : Array Oper} {Q : Exit → Act → World → Prop} {rest : List Oper} {a : Act} {w : World} {o : Oper} (hw : Region.wanted o (yielded ops a.tmps) = true) (h : ∀ K : Act → World → Prop, (∀ a w, wpList P ops Q rest a w → K a w) → o.wp P a w K Q) : StopOp P ops Q (o :: rest) a w :=
  wpList_step fun K hK => by rw [if_pos hw]; exact h K hK
theorem ap_nil {α : Type} (a : List α) : a ++ [] = a := List.append_nil a
set_option maxRecDepth 1000000 in
set_option maxHeartbeats 4000000 in
theorem diskNone_core (o : Dop) (w : World) (ho : OkDop w o) (hl : o.F.length ≤ 1048576) :
    Calls Try.prog 13 #[.agg #[.int .i64 o.d, .int .i64 o.n, .int .i64 o.a, .int .i64 o.x, .int .i64 o.le, o.fv]] w fun e w' => e = .returned (.bool true) ∧ Mod [] w w' := by
  obtain ⟨d, n, a, x, le, fv, F⟩ := o
  obtain ⟨hF, hold, hd, hn, ha, hx, hle⟩ := ho
  dsimp only at *
  obtain ⟨aof, capf, rfl, hcf, _⟩ := hF.form
  have AW := fun w => dkawake_any w
  go_enter Try.func13, Try.ntmps13
  go_wp2_with (with_reducible refine st_box ?_)
  refine StopOp.go rfl fun K hK => ?_
  refine wp_box (v := .agg #[.int .i64 d, .int .i64 n, .int .i64 a, .int .i64 x, .int .i64 le, .slice aof F.length capf]) (by rfl) ?_
  intro q w1 hq1 hq2 hm1 hQ0
  simp only [put_some, List.set_cons_succ, List.set_cons_zero]
  refine hK _ _ ?_
  clear hK K
  have hQ1 : Blk w1 q 89 [.int .i64 d, .int .i64 n, .int .i64 a, .int .i64 x, .int .i64 le, .slice aof F.length capf] := hQ0
  clear hQ0
  go_wp2_with (first
                | (with_reducible refine st_box ?_)
                | (go_at_call 34; (with_reducible refine (AW _).mono ?_); rintro e w2 ⟨rfl, hm2⟩))
  refine StopOp.go rfl fun K hK => ?_
  refine wp_box (v := .agg #[.slice none 0 0, .slice none 0 0]) (by rfl) ?_
  intro r w3 hr1 hr2 hm3 hR3
  simp only [put_some, List.set_cons_succ, List.set_cons_zero]
  refine hK _ _ ?_
  clear hK K
  have hM3 := (hm1.ext hm2).ext hm3
  have hQ3 := (hQ1.ext hm2).ext hm3
  have hF3 : Fs w3 _ F := Sl.ext hF hM3
  have hT3 : Two w3 (.pointer none) (.pointer (some ⟨r, 0, none⟩)) none [] [r] := ⟨⟨.inl rfl, by simp [blks]⟩, ⟨⟨r, rfl, hR3⟩, by simp [blks]⟩, by simp⟩
  have hs2 := (hm1.ext hm2).size
  have hfr : F ≠ [] → ∀ b ∈ blks (.slice aof F.length capf), b ∉ [r] := fun hne b hb hh => by
    have := hold hne b hb
    have : b = r := by simpa using hh
    omega
  have hO1 := one_any (.pointer none) (.pointer (some ⟨r, 0, none⟩)) none [] [r] d n a x le (.slice aof F.length capf) F w3 hT3 (by simp [oRows]) hF3 (by omega) (fun _ _ _ => by simp) hfr hd.1 hd.2 hle.1 hle.2
  have c0 := hQ3.cell' (i := 0) rfl
  have c1 := hQ3.cell' (i := 1) rfl
  have c2 := hQ3.cell' (i := 2) rfl
  have c3 := hQ3.cell' (i := 3) rfl
  have c4 := hQ3.cell' (i := 4) rfl
  have c5 := hQ3.cell' (i := 5) rfl
  go_wp2_with (first | (with_reducible refine st_box ?_) | (go_at_call 62; (with_reducible refine hO1.mono ?_); rintro e w4 ⟨rfl, L4, K4, _, hm4, _, _⟩))
  have hM4 : Mod [] w w4 := hM3.fresh hm4 (by simp; omega)
  have hqr : q ≠ r := fun h => by have := hQ1.lt; have := hm2.size; omega
  have hQ4 := hQ3.mod hm4 (by simpa using hqr)
  have hF4 : Fs w4 _ F := Fs.far hF3 hm4 (by simpa using hfr)
  clear c0 c1 c2 c3 c4 c5 hO1 hT3 hm4 hQ3 hF3
  refine StopOp.gw rfl fun K hK => ?_
  refine wp_box (v := .agg #[.int .i64 0, .slice none 0 0, .slice none 0 0, .map none]) (by rfl) ?_
  intro p w5 hp1 hp2 hm5 hP5
  simp only [put_some, List.set_cons_succ, List.set_cons_zero]
  refine hK _ _ ?_
  clear hK K
  go_wp2_with (with_reducible refine st_box ?_)
  refine StopOp.gw rfl fun K hK => ?_
  refine wp_box (v := .agg #[.slice none 0 0, .slice none 0 0]) (by rfl) ?_
  intro s w6 hs1 hs3 hm6 hS6
  simp only [put_some, List.set_cons_succ, List.set_cons_zero]
  refine hK _ _ ?_
  clear hK K
  have hM6 := (hM4.ext hm5).ext hm6
  have hQ6 := (hQ4.ext hm5).ext hm6
  have hF6 : Fs w6 _ F := Sl.ext hF4 (hm5.ext hm6)
  have hps : p ≠ s := by omega
  have hT6 : Two w6 (.pointer (some ⟨p, 0, none⟩)) (.pointer (some ⟨s, 0, none⟩)) none [p] [s] := ⟨⟨.inr ⟨p, rfl, Blk.ext hP5 hm6⟩, by simp [blks]⟩, ⟨⟨s, rfl, hS6⟩, by simp [blks]⟩, by simpa using hps⟩
  have hsM := hM4.size
  have hsM5 := hm5.size
  have hfp : ∀ z, w4.heap.size ≤ z → F ≠ [] → ∀ b ∈ blks (.slice aof F.length capf), b ∉ [z] := fun z hz hne b hb hh => by
    have := hold hne b hb
    have : b = z := by simpa using hh
    omega
  have hO2 := one_any (.pointer (some ⟨p, 0, none⟩)) (.pointer (some ⟨s, 0, none⟩)) none [p] [s] d n a x le (.slice aof F.length capf) F w6 hT6 (by simp [oRows]) hF6 (by omega) (hfp p (by omega)) (hfp s (by omega)) hd.1 hd.2 hle.1 hle.2
  have c0 := hQ6.cell' (i := 0) rfl
  have c1 := hQ6.cell' (i := 1) rfl
  have c2 := hQ6.cell' (i := 2) rfl
  have c3 := hQ6.cell' (i := 3) rfl
  have c4 := hQ6.cell' (i := 4) rfl
  have c5 := hQ6.cell' (i := 5) rfl
  go_wp2_with (go_at_call 62; (with_reducible refine hO2.mono ?_); rintro e w7 ⟨rfl, L7, K7, _, hm7, _, _⟩)
  go_ret
  exact ⟨rfl, hM6.fresh hm7 (by simp; omega)⟩
end Go.Proofs.Ytkedbphdflhhlaa
