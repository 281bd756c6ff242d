import Derived.Test.YtdmnogmhnhjdgaaRowJ
/-! What the laws of regions take, opened: one Put. -/
set_option linter.unusedVariables false
set_option linter.unusedSimpArgs false
set_option maxRecDepth 100000
namespace Go.Proofs.Ytdmnogmhnhjdgaa
open Go.ChangeShapes Go.WideShapes Go.ChangeAt Go.RowKit Gw Go.Deep

theorem open_put {H : Type} {enc : TypeId × Value → H} {w : World} {r : Reach} {b0 : Nat} {v : Value} {d : DataW H} {ps : List MemPlace} (hk : Rows.uptoBulk d ≤ 1048576) (hval : Value.okWide Try.prog w r b0 69 v) (hd : DataW.Trod enc Try.prog w 0 (fun _ => true) true 69 v d ps) :
    ∃ o : Pt, v = .agg o.cells.toArray ∧ OkPt w o := by
  obtain ⟨fs, hu, hone, hsz, hC, f0, f1⟩ := putFields
  obtain ⟨ca, rfl, _⟩ := okWide_struct hu hval
  obtain ⟨fuel, hf⟩ := hd
  obtain ⟨xs, m, _, hx, hl, hxl, hg⟩ := DataW.trod_struct hu hf
  have hcl : ca.toList.length = 2 := by rw [← hC]; exact hl
  have hkx : Rows.uptoBulkAll (xs.map (·.1)) ≤ 1048576 := by
    cases hx
    simp only [Rows.uptoBulk] at hk
    omega
  obtain ⟨o, h1, h2⟩ := put_of (c := ca.toList) (ys := xs.map (·.1)) (n := m) hcl hkx fun j t hj ht => by
    have hfj : (fs[j]?).map (·.type) = some t := by
      rw [ht]
      obtain rfl | rfl : j = 0 ∨ j = 1 := by omega
      · exact f0
      · exact f1
    obtain ⟨f, hfi, rfl⟩ := Option.map_eq_some_iff.1 hfj
    obtain ⟨ho, hk⟩ := hone_of hone j f hfi
    have h1 := hg j f hfi
    have hjx : j < xs.length := by rw [hxl, hsz]; exact hj
    have h2 : ((Value.agg ca).cells.toList.drop j).take 1 = [ca.toList[j]'(by omega)] := by
      show (ca.toList.drop j).take 1 = _
      rw [List.drop_eq_getElem_cons (by omega)]
      rfl
    rw [ho, hk, h2, List.getElem?_eq_getElem hjx] at h1
    exact ⟨_, xs[j].1, xs[j].2, List.getElem?_eq_getElem (by omega), by rw [List.getElem?_map, List.getElem?_eq_getElem hjx]; rfl, h1⟩
  exact ⟨o, by rw [← h1], h2⟩
end Go.Proofs.Ytdmnogmhnhjdgaa
