import Derived.Test.YtkedbphdflhhlaaOpA
set_option linter.unusedVariables false
set_option linter.unusedSimpArgs false
set_option maxRecDepth 100000
namespace Go.Proofs.Ytkedbphdflhhlaa
open Go.RowKit Gw

/-- how many bytes a step takes, whether it takes at all, and whether what it takes is what was put -/
def sz (o : Opr) : Nat := if o.kind = 1 then 1 else if o.kind = 2 then 2 else if o.kind = 3 then 4 else if o.kind = 4 then 8 else if o.kind = 5 then o.l.length else 0
def acts (o : Opr) : Prop := o.kind = 1 ∨ o.kind = 2 ∨ o.kind = 3 ∨ o.kind = 4 ∨ o.kind = 5
instance (o : Opr) : Decidable (acts o) := by unfold acts; infer_instance
def gotB (o : Opr) (l : List UInt8) (err : Int) : Bool :=
  if o.kind = 1 then decide (got l err 1 = o.n % 256) else if o.kind = 2 then decide (got l err 2 = o.n % 65536) else if o.kind = 3 then decide (got l err 4 = o.n % 4294967296) else if o.kind = 4 then decide (got l err 8 = o.n) else
    if o.kind = 5 then decide (tkGot l err o.l.length = o.l) else true
def gotL (o : Opr) (l : List UInt8) (err : Int) : List UInt8 := if acts o then tkRest l err (sz o) else l
def gotE (o : Opr) (l : List UInt8) (err : Int) : Int := if acts o then tkErr l err (sz o) else err

theorem wip_convert_int {P : Program} {src dst : TypeId} {d : TypeDesc} {k j : IntKind} {n : Int} (hs : P.underlying src = some d) (hd : P.underlying dst = some (.int k)) : WIP P (convert src dst (.int j n)) := by
  have hr : ∀ w, (convert src dst (.int j n)).run P w = .ok (.int k (k.wrap n)) w := fun w => by
    unfold convert
    rw [Sem.run_bind, run_underlying hs w]
    simp only [Result.andThen_ok]
    rw [Sem.run_bind, run_underlying hd w]
    simp only [Result.andThen_ok]
    rfl
  intro w w1 v h
  rw [hr] at h
  cases h
  exact ⟨rfl, hr⟩
theorem again_conv {P : Program} {o : Oper} {a : Act} {w w' : World} {src dst : TypeId} {d : TypeDesc} {k j : IntKind} {n : Int} {x : Operand} (hs : P.underlying src = some d) (hd : P.underlying dst = some (.int k)) (ho : o.op = .convert src dst x) (hx : a.eval x = .int j n) : Again P o a w w' := by
  refine again_wi ?_
  unfold execOp
  rw [ho]
  dsimp only
  rw [hx]
  exact wi_value (wip_convert_int hs hd)

theorem dec_int {a b : Nat} {x : Int} (h : x = b) : ((a : Int) == x) = decide (a = b) := by
  subst h
  by_cases e : a = b
  · simp [e]
  · rw [decide_eq_false e]
    exact beq_eq_false_iff_ne.2 (by omega)

set_option maxHeartbeats 4000000 in
theorem got_op (o : Opr) (r q : Nat) (rl : List UInt8) (err : Int) (w : World) (h : Rd w r q rl err) (ho : OkOp w o) (hl : o.l.length ≤ 140737488355320) (hrl : rl.length ≤ 140737488355320) :
    Calls Try.prog 52 #[.pointer (some ⟨r, 0, none⟩), .agg #[.int .i64 o.kind, .int .u64 o.n, .int .i64 o.tk, o.v]] w fun e w' => e = .returned (.bool (gotB o rl err)) ∧ Rd w' r q (gotL o rl err) (gotE o rl err) ∧ Mod [q] w w' := by
  obtain ⟨kind, n, tk, ao, cap, l⟩ := o
  obtain ⟨hb, hn, k1, k2, t1, t2⟩ := ho
  dsimp only [Opr.v] at hb hn k1 k2 t1 t2 hl ⊢
  have hn1 : (n : Int) ≤ 18446744073709551615 := by omega
  have hn0 : (0 : Int) ≤ (n : Int) := by omega
  have z1 : ((n : Int) % 256) = ((n % 256 : Nat) : Int) := by omega
  have z2 : (IntKind.u16.wrap (n : Int)) = ((n % 65536 : Nat) : Int) := by rw [IntKind.wrap_u16]; omega
  have z3 : ((n : Int) % 4294967296) = ((n % 4294967296 : Nat) : Int) := by omega
  have Z1 := Lib.hid z1
  have Z2 := Lib.hid z2
  have Z3 := Lib.hid z3
  clear z1 z2 z3
  go_enter Try.func52, Try.ntmps52
  go_wp2_with (with_reducible refine st_box ?_)
  refine StopOp.go rfl fun K hK => ?_
  refine wp_box (v := .agg #[.int .i64 kind, .int .u64 n, .int .i64 tk, .slice ao l.length cap]) (by rfl) ?_
  intro c w1 hc1 hc2 hm1 hB1
  simp only [put_some, List.set_cons_succ, List.set_cons_zero]
  refine hK _ _ ?_
  clear hK K
  have c0 : w1.cell? ⟨c, 0, none⟩ = some (.int .i64 kind) := hB1.cell' (i := 0) rfl
  have c1 : w1.cell? ⟨c, 1, none⟩ = some (.int .u64 n) := hB1.cell' (i := 1) rfl
  have c3 : w1.cell? ⟨c, 3, none⟩ = some (.slice ao l.length cap) := hB1.cell' (i := 3) rfl
  have h1 := (h.ext hm1).ext (Mod.drew [] _)
  have hb1 := hb.ext hm1
  have hcq : c ≠ q := by
    obtain ⟨v, hB, _⟩ := h.2
    have := hB.lt
    omega
  have h10 := h.ext hm1
  have hmq0 : Mod [q] w w1 := hm1.weak (by simp)
  have hmq : Mod [q] w w1.drew := (hm1.ext (Mod.drew [] _)).weak (by simp)
  clear hm1
  by_cases g1 : kind = 1
  · subst g1
    go_wp2_with fail
    refine wp_region_T [⟨0, true, []⟩, ⟨2, true, []⟩, ⟨3, true, []⟩, ⟨4, true, []⟩, ⟨1, false, [3, 4]⟩, ⟨5, true, []⟩, ⟨6, true, []⟩] (by kernel_rfl) (by kernel_rfl) ?_
    go_wp2_with (first | (refine wpT_q rfl rfl (fun K hK => ?_)) | (refine wpT_nil ?_) | (refine wpT_skip rfl rfl ?_))
    refine wpT_callh rfl rfl (fun K hK => ?_)
    go_wp2_with (go_at_call 41; refine (rbyte_any r q rl err _ h1).mono ?_; rintro e w2 ⟨rfl, h2, hm2⟩)
    refine ⟨agains_cons rfl (again_load rfl rfl (hm2.block c hc2 (by simpa using hcq)) ⟨_, _, _, hB1⟩) (agains_cons rfl (again_conv Try.underlying22 Try.underlying5 rfl rfl) agains_nil), ?_⟩
    go_wp2_with (first | (refine wpT_q rfl rfl (fun K hK => ?_)) | (refine wpT_nil ?_) | (refine wpT_skip rfl rfl ?_))
    go_ret
    refine ⟨ret_bool ?_, ?_, hmq.trans hm2⟩
    · exact dec_int Z1.out
    · exact h2
  have f1 : (kind == 1) = false := by simpa using g1
  by_cases g2 : kind = 2
  · subst g2
    go_wp2_with fail
    refine wp_region_T [⟨0, true, []⟩, ⟨2, true, []⟩, ⟨3, true, []⟩, ⟨4, true, []⟩, ⟨1, false, [3, 4]⟩, ⟨5, true, []⟩, ⟨6, true, []⟩] (by kernel_rfl) (by kernel_rfl) ?_
    go_wp2_with (first | (refine wpT_q rfl rfl (fun K hK => ?_)) | (refine wpT_nil ?_) | (refine wpT_skip rfl rfl ?_))
    refine wpT_callh rfl rfl (fun K hK => ?_)
    go_wp2_with (go_at_call 43; refine (rtwo_any r q rl err _ h1).mono ?_; rintro e w2 ⟨rfl, h2, hm2⟩)
    refine ⟨agains_cons rfl (again_load rfl rfl (hm2.block c hc2 (by simpa using hcq)) ⟨_, _, _, hB1⟩) (agains_cons rfl (again_conv Try.underlying22 Try.underlying27 rfl rfl) agains_nil), ?_⟩
    go_wp2_with (first | (refine wpT_q rfl rfl (fun K hK => ?_)) | (refine wpT_nil ?_) | (refine wpT_skip rfl rfl ?_))
    go_ret
    refine ⟨ret_bool ?_, ?_, hmq.trans hm2⟩
    · exact dec_int Z2.out
    · exact h2
  have f2 : (kind == 2) = false := by simpa using g2
  by_cases g3 : kind = 3
  · subst g3
    go_wp2_with fail
    refine wp_region_T [⟨0, true, []⟩, ⟨2, true, []⟩, ⟨3, true, []⟩, ⟨4, true, []⟩, ⟨1, false, [3, 4]⟩, ⟨5, true, []⟩, ⟨6, true, []⟩] (by kernel_rfl) (by kernel_rfl) ?_
    go_wp2_with (first | (refine wpT_q rfl rfl (fun K hK => ?_)) | (refine wpT_nil ?_) | (refine wpT_skip rfl rfl ?_))
    refine wpT_callh rfl rfl (fun K hK => ?_)
    go_wp2_with (go_at_call 44; refine (rfour_any r q rl err _ h1).mono ?_; rintro e w2 ⟨rfl, h2, hm2⟩)
    refine ⟨agains_cons rfl (again_load rfl rfl (hm2.block c hc2 (by simpa using hcq)) ⟨_, _, _, hB1⟩) (agains_cons rfl (again_conv Try.underlying22 Try.underlying29 rfl rfl) agains_nil), ?_⟩
    go_wp2_with (first | (refine wpT_q rfl rfl (fun K hK => ?_)) | (refine wpT_nil ?_) | (refine wpT_skip rfl rfl ?_))
    go_ret
    refine ⟨ret_bool ?_, ?_, hmq.trans hm2⟩
    · exact dec_int Z3.out
    · exact h2
  have f3 : (kind == 3) = false := by simpa using g3
  by_cases g4 : kind = 4
  · subst g4
    go_wp2_with fail
    refine wp_region_T [⟨0, true, []⟩, ⟨2, true, []⟩, ⟨3, true, []⟩, ⟨1, false, [3]⟩, ⟨4, true, []⟩, ⟨5, true, []⟩] (by kernel_rfl) (by kernel_rfl) ?_
    go_wp2_with (first | (refine wpT_q rfl rfl (fun K hK => ?_)) | (refine wpT_nil ?_) | (refine wpT_skip rfl rfl ?_))
    refine wpT_callh rfl rfl (fun K hK => ?_)
    go_wp2_with (go_at_call 45; refine (reight_any r q rl err _ h1).mono ?_; rintro e w2 ⟨rfl, h2, hm2⟩)
    refine ⟨agains_cons rfl (again_load rfl rfl (hm2.block c hc2 (by simpa using hcq)) ⟨_, _, _, hB1⟩) agains_nil, ?_⟩
    go_wp2_with (first | (refine wpT_q rfl rfl (fun K hK => ?_)) | (refine wpT_nil ?_) | (refine wpT_skip rfl rfl ?_))
    go_ret
    refine ⟨ret_bool ?_, ?_, hmq.trans hm2⟩
    · exact dec_int rfl
    · exact h2
  have f4 : (kind == 4) = false := by simpa using g4
  by_cases g5 : kind = 5
  · subst g5
    go_wp2_with fail
    refine wp_region_T [⟨0, true, []⟩, ⟨1, true, []⟩, ⟨2, true, []⟩, ⟨3, true, []⟩, ⟨5, true, []⟩, ⟨6, true, []⟩, ⟨4, false, [6]⟩, ⟨7, false, []⟩, ⟨8, true, []⟩] (by kernel_rfl) (by kernel_rfl) ?_
    go_wp2_with (first | (refine wpT_q rfl rfl (fun K hK => ?_)) | (refine wpT_nil ?_) | (refine wpT_skip rfl rfl ?_))
    refine wpT_callh rfl rfl (fun K hK => ?_)
    go_wp2_with (go_at_call 25; refine (rtake_any r q rl err l.length _ h1 (by omega) (by omega) (by omega)).mono ?_; rintro e w2 ⟨v2, rfl, hv2, _, h2, hm2⟩; obtain ⟨ao2, cap2, rfl, _, _⟩ := hv2.bs.form)
    refine ⟨agains_cons rfl (again_load rfl rfl (hm2.block c hc2 (by simpa using hcq)) ⟨_, _, _, hB1⟩) agains_nil, ?_⟩
    have hb2 : Bs w2 (.slice ao l.length cap) l := by
      obtain ⟨vq, hBq, hvq⟩ := h1.2
      obtain ⟨aoq, capq, rfl, _, _⟩ := hvq.form
      exact (hb1.ext (Mod.drew [] _)).keepAt hBq (by simp) hm2
    refine wpT_call rfl rfl (fun K hK => ?_)
    go_wp2_with (first | (refine wpT_q rfl rfl (fun K hK => ?_)) | (refine wpT_nil ?_) | (refine wpT_skip rfl rfl ?_) | (go_at_call 27; refine (same_any _ _ _ _ _ hv2.bs hb2).mono ?_; rintro e w3 ⟨rfl, hm3⟩))
    go_ret
    exact ⟨rfl, h2.ext hm3, (hmq.trans hm2).ext hm3⟩
  have f5 : (kind == 5) = false := by simpa using g5
  go_wp2_with fail
  go_ret
  have na : ¬ acts ⟨kind, n, tk, ao, cap, l⟩ := by unfold acts; simp [g1, g2, g3, g4, g5]
  refine ⟨ret_bool ?_, ?_, hmq0⟩
  · unfold gotB; simp [g1, g2, g3, g4, g5]
  · unfold gotL gotE; rw [if_neg na, if_neg na]; exact h10
end Go.Proofs.Ytkedbphdflhhlaa
