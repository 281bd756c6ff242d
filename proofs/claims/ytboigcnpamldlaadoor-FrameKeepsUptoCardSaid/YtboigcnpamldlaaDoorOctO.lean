import Derived.Test.YtboigcnpamldlaaDoorOctN
set_option linter.unusedVariables false
set_option linter.unusedSimpArgs false
set_option maxRecDepth 100000
namespace Go.Proofs.YtboigcnpamldlaaDoor
open Go.RowKit Gw

theorem Rd.keep {w w' : World} {r q r1 q1 : Nat} {l l1 : List UInt8} {e e1 : Int} (h : Rd w r q l e) (h1 : Rd w r1 q1 l1 e1) (hm : Mod [q1] w w') (hr : r ≠ q1) (hq : q ≠ q1) : Rd w' r q l e := by
  obtain ⟨v, hB, hv⟩ := h.2
  obtain ⟨v1, hB1, hv1⟩ := h1.2
  obtain ⟨ao, cap, rfl, _, _⟩ := hv1.form
  exact ⟨h.1.mod hm (by simpa using hr), v, hB.mod hm (by simpa using hq), hv.keepAt hB1 (by simp) hm⟩
theorem rtake_val (r q : Nat) (l : List UInt8) (err n : Int) (l' : List UInt8) (err' : Int) (w : World) (h : Rd w r q l err) (hn1 : -9223372036854775808 ≤ n) (hn2 : n ≤ 9223372036854775807) (hl : l.length ≤ 140737488355328) (hl' : tkRest l err n = l') (he : tkErr l err n = err') :
    Calls Tryd.prog 48 #[.pointer (some ⟨r, 0, none⟩), .int .i64 n] w fun e w' => ∃ ao k cap, e = .returned (.slice ao k cap) ∧ Rd w' r q l' err' ∧ Mod [q] w w' :=
  (rtake_any r q l err n w h hn1 hn2 hl).mono fun e w' ⟨v, h1, h2, _, h4, h5⟩ => by
    obtain ⟨ao, cap, rfl, _, _⟩ := h2.bs.form
    exact ⟨ao, _, cap, h1, by rw [← hl', ← he]; exact h4, h5⟩

end Go.Proofs.YtboigcnpamldlaaDoor
