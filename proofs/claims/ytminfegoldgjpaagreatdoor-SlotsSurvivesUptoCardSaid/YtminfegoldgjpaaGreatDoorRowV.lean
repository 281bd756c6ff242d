import Derived.Test.YtminfegoldgjpaaGreatDoorRowU
set_option linter.unusedVariables false
set_option linter.unusedSimpArgs false
set_option maxRecDepth 100000
namespace Go.Proofs.YtminfegoldgjpaaGreatDoor
open Go.ChangeShapes Go.WideShapes Go.ChangeAt Go.RowKit Gw Go.Deep
theorem sopFieldsO : ∃ fs : Array Field, Tryz.prog.underlying 56 = some (.struct fs) ∧ fs.size = 6 ∧ Tryz.prog.cellsOf 56 = 6 ∧ (fs[0]?).map (fun f => (f.type, f.offset)) = some (3, 0) ∧ (fs[1]?).map (fun f => (f.type, f.offset)) = some (3, 1) ∧ (fs[2]?).map (fun f => (f.type, f.offset)) = some (3, 2) ∧ (fs[3]?).map (fun f => (f.type, f.offset)) = some (22, 3) ∧ (fs[4]?).map (fun f => (f.type, f.offset)) = some (3, 4) ∧ (fs[5]?).map (fun f => (f.type, f.offset)) = some (54, 5) :=
 ⟨_, Tryz.underlying56, by kernel_rfl, by kernel_rfl, by kernel_rfl, by kernel_rfl, by kernel_rfl, by kernel_rfl, by kernel_rfl, by kernel_rfl⟩
theorem open_sop {H : Type} {enc : TypeId × Value → H} {w : World} {r : Reach} {b0 : Nat} {v : Value} {d : DataW H} {ps : List MemPlace} (hk : Rows.uptoBulk d ≤ 1048576) (hval : Value.okWide Tryz.prog w r b0 56 v) (hd : DataW.Trod enc Tryz.prog w 0 (fun _ => true) true 56 v d ps) :
   ∃ o : Sop, OkSop w o ∧ v = o.val := by
 obtain ⟨fs, hu, hsz, hC, f0, f1, f2, f3, f4, f5⟩ := sopFieldsO
 obtain ⟨ca, rfl, _⟩ := okWide_struct hu hval
 obtain ⟨fuel, hf⟩ := hd
 obtain ⟨xs, m, rfl, hy, hl, hxl, hg⟩ := DataW.trod_struct hu hf
 rw [hC] at hl
 have hcl : (Value.agg ca).cells.toList = ca.toList := rfl
 rw [hcl] at hl hg
 obtain ⟨cs, rfl⟩ : ∃ cs : List Value, ca = cs.toArray := ⟨ca.toList, by simp⟩
 simp only [List.toList_toArray] at hl hg
 obtain ⟨c0, c1, c2, c3, c4, c5, rfl⟩ : ∃ c0 c1 c2 c3 c4 c5, cs = [c0, c1, c2, c3, c4, c5] := by
   match cs, hl with
   | [c0, c1, c2, c3, c4, c5], _ => exact ⟨c0, c1, c2, c3, c4, c5, rfl⟩
 have n1 : Tryz.prog.cellsOf 3 = 1 := by kernel_rfl
 have n2 : Tryz.prog.cellsOf 22 = 1 := by kernel_rfl
 have n3 : Tryz.prog.cellsOf 54 = 1 := by kernel_rfl
 obtain ⟨y0, _, t0⟩ := fld1 hxl hg f0 n1 (by simp)
 obtain ⟨y1, _, t1⟩ := fld1 hxl hg f1 n1 (by simp)
 obtain ⟨y2, _, t2⟩ := fld1 hxl hg f2 n1 (by simp)
 obtain ⟨y3, _, t3⟩ := fld1 hxl hg f3 n2 (by simp)
 obtain ⟨y4, _, t4⟩ := fld1 hxl hg f4 n1 (by simp)
 obtain ⟨⟨y5, p5⟩, hx5, t5⟩ := fld1 hxl hg f5 n3 (by simp)
 obtain ⟨x0, q0, _, w0⟩ := trod_i64 Tryz.underlying3 t0
 obtain ⟨x1, q1, _, w1⟩ := trod_i64 Tryz.underlying3 t1
 obtain ⟨x2, q2, _, w2⟩ := trod_i64 Tryz.underlying3 t2
 obtain ⟨x3, q3, w3⟩ := trod_u64S Tryz.underlying22 t3
 obtain ⟨x4, q4, _, w4⟩ := trod_i64 Tryz.underlying3 t4
 obtain ⟨ao, cap, F, q5, hF, hbF, hold⟩ := open_fates t5
 have hbF' : F.length + 1 ≤ Rows.uptoBulk y5 := hbF
 have hbd : Rows.uptoBulk y5 ≤ Rows.uptoBulk d := by
   injection hy with hy1 hy2
   rw [hy1]
   have := bulk_mem (List.mem_of_getElem? (show (xs.map (·.1))[5]? = some y5 by rw [List.getElem?_map, hx5]; rfl))
   simp only [Rows.uptoBulk]
   omega
 refine ⟨⟨x0, x1, x2, x3, x4, c5, F⟩, ⟨hF, hold, w0, w1, w2, w3, w4, by dsimp only; omega⟩, ?_⟩
 simp only [List.getElem_cons_zero, List.getElem_cons_succ] at q0 q1 q2 q3 q4
 subst q0 q1 q2 q3 q4
 rfl
end Go.Proofs.YtminfegoldgjpaaGreatDoor
