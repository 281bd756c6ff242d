import Derived.Test.YtminfegoldgjpaaGreatDoorSlU
set_option linter.unusedVariables false
set_option linter.unusedSimpArgs false
set_option maxRecDepth 100000
namespace Go.Proofs.YtminfegoldgjpaaGreatDoor
open Go.RowKit Gw
theorem hdv_ne (a b c d a' b' c' d' : Int) (h : ¬ (a = a' ∧ b = b' ∧ c = c' ∧ d = d')) (w : World) : (binOp .eql 25 (.agg #[.int .u64 a, .int .u64 b, .int .i64 c, .int .u32 d]) (.agg #[.int .u64 a', .int .u64 b', .int .i64 c', .int .u32 d'])).run Tryz.prog w = .ok (.bool false) w := by
 rw [run_eql_struct, run_equalIn_agg w 9999 _ _ _ (by kernel_rfl) (by kernel_rfl)]
 by_cases h0 : a = a'
 · subst h0
   by_cases h1 : b = b'
   · subst h1
     by_cases h2 : c = c'
     · subst h2
       have e3 : (d == d') = false := by
         apply beq_false_of_ne
         intro hd
         exact h ⟨rfl, rfl, rfl, hd⟩
       go_simp
     · have e2 : (c == c') = false := by simpa using h2
       go_simp
   · have e1 : (b == b') = false := by simpa using h1
     go_simp
 · have e0 : (a == a') = false := by simpa using h0
   go_simp
theorem hdv_eq (a b c d : Int) (w : World) : (binOp .eql 25 (.agg #[.int .u64 a, .int .u64 b, .int .i64 c, .int .u32 d]) (.agg #[.int .u64 a, .int .u64 b, .int .i64 c, .int .u32 d])).run Tryz.prog w = .ok (.bool true) w := by
 rw [run_eql_struct, run_equalIn_agg w 9999 _ _ _ (by kernel_rfl) (by kernel_rfl)]
 go_simp
theorem hdv_any (a b c d a' b' c' d' : Int) (w : World) : (binOp .eql 25 (.agg #[.int .u64 a, .int .u64 b, .int .i64 c, .int .u32 d]) (.agg #[.int .u64 a', .int .u64 b', .int .i64 c', .int .u32 d'])).run Tryz.prog w = .ok (.bool (decide (a = a' ∧ b = b' ∧ c = c' ∧ d = d'))) w := by
 by_cases h : a = a' ∧ b = b' ∧ c = c' ∧ d = d'
 · obtain ⟨rfl, rfl, rfl, rfl⟩ := h
   rw [hdv_eq, decide_eq_true ⟨rfl, rfl, rfl, rfl⟩]
 · rw [hdv_ne _ _ _ _ _ _ _ _ h, decide_eq_false h]
end Go.Proofs.YtminfegoldgjpaaGreatDoor
