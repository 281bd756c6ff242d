import Derived.Test.YtdmnogmhnhjdgaaDkI
/-! Disks: Copy. -/
set_option linter.unusedVariables false
set_option linter.unusedSimpArgs false
set_option maxRecDepth 100000
namespace Go.Proofs.Ytdmnogmhnhjdgaa
open Go.RowKit Gw

theorem dcopy_no (v : Value) (w : World) (h : NoDk w v) : Calls Try.prog 98 #[v] w fun e w' => e = .returned (.pointer none) ∧ w = w' := by
  have T := fun w h => there_no v w h
  go_enter Try.func98, Try.ntmps98
  go_wp2_with (go_at_call 65; (with_reducible refine (T _ h).mono ?_); rintro e w1 ⟨rfl, rfl⟩)
  go_ret
  exact ⟨rfl, rfl⟩
theorem zero_waits2 : (Try.prog.info? 143).map (·.zero) = some (some (.agg #[.int .i64 0, .slice none 0 0])) := by kernel_rfl
/-- a disk of which the first writes wait -/
def Dm.upto (m : Dm) (j : Nat) : Dm := ⟨m.sz, m.dur, m.row.take j⟩
theorem Dm.ok.upto {m : Dm} (h : m.ok) (j : Nat) : (m.upto j).ok := ⟨h.s1, h.s2, h.n1, h.n2, h.d, fun x hx => h.r x (List.mem_of_mem_take hx)⟩
theorem Dm.upto_succ (m : Dm) {j : Nat} (h : j < m.row.length) : (m.upto j).write m.row[j].1 m.row[j].2 = m.upto (j + 1) := by
  unfold Dm.upto Dm.write
  simp only
  rw [List.take_succ_eq_append_getElem h]
theorem Dm.upto_all (m : Dm) : m.upto m.row.length = m := by unfold Dm.upto; rw [List.take_length]
/-- a copy lies in new memory -/
def CopyPost (w : World) (m : Dm) (e : Ending) (w' : World) : Prop := ∃ p L, e = .returned (.pointer (some ⟨p, 0, none⟩)) ∧ Own w w' p m L ∧ Mod [] w w'
theorem Fam.low {w : World} {base : Nat} {L : List (Value × List UInt8)} (h : Fam w base L) : Fam w 0 L := ⟨fun p hp => ⟨(h.ob p hp).1, fun _ _ => Nat.zero_le _⟩, h.dj⟩
theorem RowsO.weak {w : World} {b c : Nat} {v : Value} {L : List (Value × List UInt8)} (h : RowsO w b v L) (hc : c ≤ b) : RowsO w c v L := ⟨h.ow, ⟨fun p hp => ⟨(h.fam.ob p hp).1, fun k hk => Nat.le_trans hc ((h.fam.ob p hp).2 k hk)⟩, h.fam.dj⟩, fun k hk => Nat.le_trans hc (h.nw k hk)⟩
end Go.Proofs.Ytdmnogmhnhjdgaa
