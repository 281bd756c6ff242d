import Derived.Test.YtboigcnpamldlaaDoorWrA
import Derived.Test.YtboigcnpamldlaaDoorOctF
set_option linter.unusedVariables false
set_option linter.unusedSimpArgs false
set_option maxRecDepth 100000
namespace Go.Proofs.YtboigcnpamldlaaDoor
open Go.RowKit Gw

theorem val_drop (l : List UInt8) (k : Nat) (hk : k < l.length) : val (l.drop k) = val (l.drop (k + 1)) * 256 + l[k].toNat := by
  rw [List.drop_eq_getElem_cons hk, val_cons]; omega
set_option maxHeartbeats 1000000 in
theorem refValue_any (l : List UInt8) (v : Value) (w : World) (hv : Bs w v l) (hl : l.length ≤ 8) :
    Calls Tryd.prog 50 #[v] w fun e w' => e = .returned (.int .u64 (val l)) ∧ w = w' := by
  obtain ⟨ao, cap, rfl, hc1, hc2⟩ := hv.form
  go_enter Tryd.func50, Tryd.ntmps50
  go_wp2_with fail
  go_loop [3, 4] (fun n i => ∃ k : Nat, k ≤ l.length ∧ n = .int .u64 (val (l.drop k)) ∧ i = .int .i64 ((k : Int) - 1)) (fun _ i => (intOf i + 1).toNat)
  case atStart => exact ⟨l.length, Nat.le_refl _, by rw [List.drop_length]; rfl, rfl⟩
  case round =>
    obtain ⟨k, hk, rfl, rfl⟩ := hrel
    by_cases hlt : 0 < k
    · obtain ⟨j, rfl⟩ : ∃ j, k = j + 1 := ⟨k - 1, by omega⟩
      obtain ⟨b, o, rfl, hc⟩ := hv.byte (show j < l.length by omega)
      have hd := val_drop l j (by omega)
      have hlt2 := val_lt (l.drop j)
      have hp : (256 : Nat) ^ (l.drop j).length ≤ 256 ^ 8 := Nat.pow_le_pow_right (by omega) (by rw [List.length_drop]; omega)
      have h8 : (256 : Nat) ^ 8 = 18446744073709551616 := by decide
      rw [hd] at hlt2
      have HD := Lib.hid hd
      clear hd
      obtain ⟨V, hV⟩ : ∃ V, V = val (l.drop (j + 1)) := ⟨_, rfl⟩
      rw [← hV] at hlt2 ⊢
      have HV := Lib.hid hV
      have ht := l[j].toNat_lt
      have y1 : (V : Int) * 256 + l[j].toNat ≤ 18446744073709551615 := by omega
      have y2 : (0 : Int) ≤ (V : Int) * 256 := by omega
      have y3 : (V : Int) * 256 ≤ 18446744073709551615 := by omega
      have y4 : (((j + 1 : Nat) : Int) - 1) = (j : Int) := by omega
      rw [y4]
      clear hV hp h8 hlt2 y4
      have y5 : (0 : Int) ≤ j := by omega
      go_wp2_with fail
      go_round
      case rel => exact ⟨j, by omega, by rw [HD.out, ← HV.out]; go_num, rfl⟩
      case measure => simp [intOf]
    · obtain rfl : k = 0 := by omega
      go_wp2_with fail
      go_ret
      exact ⟨rfl, rfl⟩

end Go.Proofs.YtboigcnpamldlaaDoor
