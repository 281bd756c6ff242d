import Derived.Test.YtdmnogmhnhjdgaaGreatPwF
import Derived.Test.YtdmnogmhnhjdgaaGreatDkI
import Derived.Deep.DeepCutAuto
/-! PowerCuts: its walk. -/
set_option linter.unusedVariables false
set_option linter.unusedSimpArgs false
set_option maxRecDepth 100000
namespace Go.Proofs.YtdmnogmhnhjdgaaGreat
open Go.RowKit Gw

theorem few6_any (ao : Option Addr) (n cap : Nat) (w : World) (hc : n ≤ cap) (hc2 : cap ≤ 9223372036854775807) : Calls Tryz.prog 7 #[.slice ao n cap] w fun e w' => e = .returned (.slice ao (min n 80) cap) ∧ w = w' := by
  by_cases h : n ≤ 80
  · rw [Nat.min_eq_left h]
    have y : (n : Int) ≤ 80 := by omega
    go_enter Tryz.func7, Tryz.ntmps7
    go_wp2_with fail
    go_ret
    exact ⟨rfl, rfl⟩
  · rw [Nat.min_eq_right (by omega)]
    have y : (80 : Int) < n := by omega
    have y2 : 80 ≤ cap := by omega
    go_enter Tryz.func7, Tryz.ntmps7
    go_wp2_with fail
    go_ret
    exact ⟨rfl, rfl⟩
theorem zero_pop : (Tryz.prog.info? 35).map (·.zero) = some (some (.agg #[.int .i64 0, .int .i64 0, .int .i64 0, .slice none 0 0, .bool false, .slice none 0 0])) := by kernel_rfl
/-- a step that is none else is a Sync -/
def normO (o : Pop) : Pop := if o.k = 1 ∨ o.k = 2 then o else { o with k := 3 }
theorem normO_ok {w : World} {o : Pop} (h : OkPop w o) : OkPop w (normO o) := by
  unfold normO
  split
  · exact h
  · exact ⟨h.b, h.fs, h.old, ⟨show (-9223372036854775808 : Int) ≤ 3 by decide, show (3 : Int) ≤ 9223372036854775807 by decide⟩, h.n, h.a, h.l, h.f⟩
section
variable {W w w' : World} {u p q : Nat} {Lu L L' Lu' : List Nat} {v v' : Pv} {m m' : Dm}
theorem Cut.ask (h : Cut W w u Lu p q v L) (hP : Ps W w' p q v' L') (hm : Mod (p :: L) w w') (hL : ∀ k ∈ L', k ∈ L ∨ w.heap.size ≤ k) : Dk w' u v.m Lu ∧ ∀ k ∈ Lu, k ∉ p :: L' :=
  ⟨h.u.mod hm h.ap, fun k hk hh => by
    rcases List.mem_cons.1 hh with e | e
    · exact h.ap k hk (by rw [e]; exact List.mem_cons_self)
    · exact (hL k e).elim (fun h1 => h.ap k hk (List.mem_cons_of_mem _ h1)) fun h1 => by have := h.u.lt k hk; omega⟩
theorem Cut.dk (hu : Dk w u m Lu) (hap : ∀ k ∈ Lu, k ∉ p :: L) (huo : ∀ k ∈ Lu, W.heap.size ≤ k) (hP : Ps W w p q v L) (hD : Dk w' u m' Lu') (hm : Mod Lu w w') (hL : ∀ k ∈ Lu', k ∈ Lu ∨ w.heap.size ≤ k) (he : m' = v.m) : Cut W w' u Lu' p q v L :=
  ⟨he ▸ hD, hP.keep hm hap huo, fun k hk => (hL k hk).elim (huo k) fun h1 => Nat.le_trans hP.m.size h1, fun k hk hh => (hL k hk).elim (fun h1 => hap k h1 hh) fun h1 => by
    rcases List.mem_cons.1 hh with e | e
    · have := hP.d.b.lt; omega
    · have := hP.d.d.lt k e; omega⟩
end
theorem Cut.ext {W w w' : World} {u p q : Nat} {Lu L : List Nat} {v : Pv} (h : Cut W w u Lu p q v L) (hm : Mod [] w w') : Cut W w' u Lu p q v L := ⟨h.u.ext hm, h.d.ext hm, h.uo, h.ap⟩
theorem askV_row (v : Pv) (o : Pop) : (askV v o).m.row.length ≤ v.m.row.length + 1 := by
  rcases v.go_cases with ⟨h, _⟩ | h
  · rw [askV_go h]; exact doM_rows _ _
  · rw [askV_no h, Pv.md_m]; omega
theorem shl_01 (k : Int) (h : k = 0 ∨ k = 1) : (64 * 2 ^ k.toNat : Nat) = 64 ∨ (64 * 2 ^ k.toNat : Nat) = 128 := by rcases h with rfl | rfl <;> simp
end Go.Proofs.YtdmnogmhnhjdgaaGreat
