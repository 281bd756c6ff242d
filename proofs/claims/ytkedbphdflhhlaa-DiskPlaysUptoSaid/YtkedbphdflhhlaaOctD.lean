import Derived.Test.YtkedbphdflhhlaaOctC
set_option linter.unusedVariables false
set_option linter.unusedSimpArgs false
set_option maxRecDepth 100000
namespace Go.Proofs.Ytkedbphdflhhlaa
open Go.RowKit Gw

theorem Bs.form {w : World} {v : Value} {l : List UInt8} (h : Bs w v l) : ∃ ao cap, v = .slice ao l.length cap ∧ l.length ≤ cap ∧ cap ≤ 9223372036854775807 := Sl.form h
/-- a byte of it -/
theorem Bs.byte {w : World} {ao : Option Addr} {n cap : Nat} {l : List UInt8} (h : Bs w (.slice ao n cap) l) {j : Nat} (hj : j < l.length) :
    ∃ b o, ao = some ⟨b, o, none⟩ ∧ w.cell? ⟨b, o + j, none⟩ = some (.int .u8 (l[j].toNat : Nat)) := by
  obtain ⟨b, o, c, hv, _, _, hc⟩ := Sl.at h (fun h0 => by have := congrArg List.length h0; rw [bv_length] at this; simp at this; rw [this] at hj; simp at hj)
  injection hv with e1
  exact ⟨b, o, e1, hc j _ (by simp [bv, hj])⟩

theorem ret_bool {a b : Bool} (h : a = b) : Ending.returned (.bool a) = .returned (.bool b) := by rw [h]
set_option maxHeartbeats 1000000 in
theorem same_any (la lb : List UInt8) (va vb : Value) (w : World) (ha : Bs w va la) (hb : Bs w vb lb) :
    Calls Try.prog 27 #[va, vb] w fun e w' => e = .returned (.bool (decide (la = lb))) ∧ Mod [] w w' := by
  obtain ⟨ao, ca, rfl, h1, h2⟩ := ha.form
  obtain ⟨bo, cb, rfl, h3, h4⟩ := hb.form
  by_cases hlen : la.length = lb.length
  · go_enter Try.func27, Try.ntmps27
    have Hlen := Lib.hid hlen
    have hl1 : lb.length ≤ la.length := by omega
    have hl2 : la.length ≤ lb.length := by omega
    clear hlen
    go_wp2_with fail
    go_loopw [5] (fun i wr => ∃ j : Nat, j ≤ la.length ∧ i = .int .i64 j ∧ la.take j = lb.take j ∧ Mod [] w wr) (fun i _ => la.length - (intOf i).toNat)
    case atStart => exact ⟨0, Nat.zero_le _, rfl, rfl, Mod.refl _ _⟩
    case round =>
      obtain ⟨j, hj, rfl, htake, hmr⟩ := hrel
      have Ht := Lib.hid htake
      clear htake
      by_cases hlt : j < la.length
      · obtain ⟨b1, o1, rfl, hc1⟩ := (ha.ext hmr).byte hlt
        obtain ⟨b2, o2, rfl, hc2⟩ := (hb.ext hmr).byte (show j < lb.length by omega)
        go_wp2_with fail
        refine wp_region_T [⟨0, true, []⟩, ⟨1, true, []⟩, ⟨2, true, []⟩, ⟨3, true, []⟩, ⟨4, true, []⟩, ⟨5, true, []⟩, ⟨6, true, []⟩, ⟨7, true, []⟩, ⟨8, true, []⟩] (by kernel_rfl) (by kernel_rfl) ?_
        go_wp2_with (first | (refine wpT_q rfl rfl (fun K hK => ?_)) | (refine wpT_nil ?_))
        · have hne : ((la[j].toNat : Nat) != ((lb[j]'(by omega)).toNat : Int)) = true := by assumption
          go_ret
          refine ⟨ret_bool (Eq.symm (decide_eq_false fun e => ?_)), hmr.ext (Mod.drew [] _)⟩
          subst e
          simp at hne
        · have hne : ((la[j].toNat : Nat) != ((lb[j]'(by omega)).toNat : Int)) = false := by assumption
          go_roundw
          case rel =>
            refine ⟨j + 1, by omega, by go_num, ?_, hmr.ext (Mod.drew [] _)⟩
            have he : la[j] = lb[j]'(by omega) := by
              apply UInt8.toNat_inj.1
              have := by simpa using hne
              omega
            rw [List.take_succ_eq_append_getElem (by omega), List.take_succ_eq_append_getElem (by omega), Ht.out, he]
          case measure => simp [intOf]; omega
      · go_wp2_with fail
        go_ret
        refine ⟨ret_bool (Eq.symm (decide_eq_true ?_)), hmr⟩
        have h := Ht.out
        rwa [List.take_of_length_le (by omega), List.take_of_length_le (by omega)] at h
  · go_enter Try.func27, Try.ntmps27
    go_wp2_with fail
    go_ret
    exact ⟨ret_bool (Eq.symm (decide_eq_false fun e => hlen (by rw [e]))), Mod.refl _ _⟩

set_option maxHeartbeats 400000 in
theorem copy_any (l : List UInt8) (v : Value) (w : World) (hv : Bs w v l) (hl : l.length ≤ 140737488355328) :
    Calls Try.prog 21 #[v] w fun e w' => ∃ v', e = .returned v' ∧ Ob w' v' l ∧ New w v' ∧ Mod [] w w' := by
  go_enter Try.func21, Try.ntmps21
  go_wp2_with (with_reducible refine st_append ?_)
  refine StopOp.go rfl fun K hK => ?_
  refine wp_append_ow stB (by rfl) (by rfl) (Ow.nil w _ 1) hv (bv_one l) (by omega) (by omega) ?_
  intro v' w2 ho2 hm2 hn2
  simp only [put_some, List.set_cons_succ, List.set_cons_zero]
  refine hK _ _ ?_
  clear hK K
  go_wp2_with fail
  go_ret
  exact ⟨_, rfl, by simpa [Ob] using ho2, fun k hk => (hn2 k hk).elim (fun h => by simp [blks] at h) id, hm2⟩
end Go.Proofs.Ytkedbphdflhhlaa
