import Derived.Test.YtkedbphdflhhlaaOctD
set_option linter.unusedVariables false
set_option linter.unusedSimpArgs false
set_option maxRecDepth 100000
namespace Go.Proofs.Ytkedbphdflhhlaa
open Go.RowKit Gw

set_option maxHeartbeats 400000 in
theorem mark_any (k i : Int) (w : World) (h1 : 0 ≤ k) (h2 : k ≤ 1099511627776) (h3 : 0 ≤ i) (h4 : i ≤ 281474976710656) :
    Calls Try.prog 118 #[.int .i64 k, .int .i64 i] w fun e w' => e = .returned (.int .i64 (1000003 * (k + 7) + i)) ∧ w = w' := by
  go_enter Try.func118, Try.ntmps118
  go_wp2_with fail
  go_ret
  exact ⟨rfl, rfl⟩

/-- the mark of a place in a list of bytes -/
def mbI (k i : Int) : Int := IntKind.u64.wrap ((1000003 * (k + 7) + i) * 11400714819323198485) / 72057594037927936 % 256
def mb (k i : Int) : UInt8 := UInt8.ofNat (mbI k i).toNat
theorem mb_eq (k i : Int) : mbI k i = ((mb k i).toNat : Nat) := by
  have h1 : 0 ≤ mbI k i := Int.emod_nonneg _ (by decide)
  have h2 : mbI k i < 256 := Int.emod_lt_of_pos _ (by decide)
  unfold mb
  rw [UInt8.toNat_ofNat']
  omega

set_option maxHeartbeats 400000 in
theorem markByte_any (k i : Int) (w : World) (h1 : 0 ≤ k) (h2 : k ≤ 1099511627776) (h3 : 0 ≤ i) (h4 : i ≤ 281474976710656) :
    Calls Try.prog 76 #[.int .i64 k, .int .i64 i] w fun e w' => e = .returned (.int .u8 ((mb k i).toNat : Nat)) ∧ w = w' := by
  have g1 : (0 : Int) ≤ 1000003 * (k + 7) + i := by omega
  have g2 : 1000003 * (k + 7) + i ≤ 1100000000000000000 := by omega
  go_enter Try.func76, Try.ntmps76
  go_wp2_with (go_at_call 118; refine (mark_any k i _ h1 h2 h3 h4).mono ?_; rintro e w1 ⟨rfl, rfl⟩)
  go_ret
  refine ⟨?_, rfl⟩
  rw [← mb_eq]
  rfl
end Go.Proofs.Ytkedbphdflhhlaa
