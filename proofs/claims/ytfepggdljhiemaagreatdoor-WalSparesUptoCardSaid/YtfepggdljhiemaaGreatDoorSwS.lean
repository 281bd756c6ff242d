import Derived.Test.YtfepggdljhiemaaGreatDoorSwF
import Derived.Test.YtfepggdljhiemaaGreatDoorGDs
import Derived.Test.YtfepggdljhiemaaGreatDoorRegT
import Derived.Test.YtfepggdljhiemaaGreatDoorRegB
/-! Slots: Save. -/
set_option linter.unusedVariables false
set_option linter.unusedSimpArgs false
set_option maxRecDepth 100000
namespace Go.Proofs.YtfepggdljhiemaaGreatDoor
open Go.RowKit Gw

theorem zero_anon : (Tryz.prog.info? 256).map (·.zero) = some (some (.agg #[.int .i64 0, .slice none 0 0])) := by kernel_rfl
theorem nat_wrap (g : Nat) (hg : g < 18446744073709551616) : IntKind.u64.wrap ((g : Int) + 1) = (((g + 1) % 18446744073709551616 : Nat) : Int) := by
  rw [IntKind.wrap_u64]
  omega
theorem sec_len {z : Nat} (h32 : 32 ≤ z) (N : Hd) : (secH z N).length = z := by
  unfold secH
  rw [List.length_append, hdr_len]
  simp [zeros]
  omega
theorem Bs.onz {w : World} {ao : Option Addr} {n cap : Nat} {l : List UInt8} (h : Bs w (.slice ao l.length cap) l) (hn : l.length = n) : Bs w (.slice ao n cap) l := hn ▸ h
end Go.Proofs.YtfepggdljhiemaaGreatDoor
