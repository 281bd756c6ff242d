import Derived.Test.YtminfegoldgjpaaDoorGRg
import Derived.Test.YtminfegoldgjpaaDoorGRs
/-! The document's region: Bytes, wrong, Sync, Read. -/
set_option linter.unusedVariables false
set_option linter.unusedSimpArgs false
set_option maxRecDepth 100000
namespace Go.Proofs.YtminfegoldgjpaaDoor
open Go.RowKit Gw

theorem Rgr.lt {w : World} {r p f c : Nat} (h : Rgr w r p f c) : r < w.heap.size := Blk.lt h
theorem Pr.lt0 {w : World} {p q : Nat} {v : Pv} {L : List Nat} (h : Pr w p q v L) : ∀ k ∈ p :: L, k < w.heap.size := fun k hk => (List.mem_cons.1 hk).elim (fun e => e ▸ h.b.lt) (h.d.lt k)
theorem Pr.keep0 {w w' : World} {p q : Nat} {v : Pv} {L G : List Nat} (h : Pr w p q v L) (hm : Mod G w w') (hG : ∀ k ∈ p :: L, k ∉ G) : Pr w' p q v L := h.mod hm (hG p List.mem_cons_self) (fun b hb => hG b (List.mem_cons_of_mem _ hb))
/-- where a round over the sectors stands -/
def posH (z a e s : Nat) : Nat := max a (min (s * z) e)
theorem posH_0 (z a e : Nat) : posH z a e 0 = a := by
  unfold posH
  rw [Nat.zero_mul]
  omega
theorem posH_end {z a e c : Nat} (h1 : a ≤ e) (h2 : e ≤ c * z) : posH z a e c = e := by
  unfold posH
  omega
theorem posH_skip {z a e s : Nat} (h1 : a ≤ e) (h : min (e - s * z) z ≤ a - s * z) : posH z a e (s + 1) = posH z a e s := by
  unfold posH
  rw [Nat.add_mul, Nat.one_mul]
  omega
theorem posH_go {z a e s : Nat} (h1 : a ≤ e) (h : a - s * z < min (e - s * z) z) :
    posH z a e s = s * z + (a - s * z) ∧ posH z a e s < e ∧ posH z a e s / z = s ∧ posH z a e s % z = a - s * z ∧ toC z (posH z a e s) e = min (e - s * z) z ∧ nxt z (posH z a e s) e = posH z a e (s + 1) := by
  have hz : 0 < z := by omega
  have hM : a - s * z < z := by omega
  have hp : posH z a e s = s * z + (a - s * z) := by unfold posH; omega
  have hd : posH z a e s / z = s := by
    rw [hp, Nat.mul_comm, Nat.mul_add_div hz, Nat.div_eq_of_lt (by rw [Nat.mul_comm]; exact hM)]
    rfl
  have hm : posH z a e s % z = a - s * z := by
    rw [hp, Nat.mul_comm s z, Nat.mul_add_mod, Nat.mod_eq_of_lt (by rw [Nat.mul_comm]; exact hM)]
  have ht : toC z (posH z a e s) e = min (e - s * z) z := by
    unfold toC
    rw [hm, hp]
    omega
  refine ⟨hp, by rw [hp]; omega, hd, hm, ht, ?_⟩
  unfold nxt
  rw [ht, hm, hp]
  unfold posH
  rw [Nat.add_mul, Nat.one_mul]
  omega
set_option maxHeartbeats 2000000 in
theorem hBytes_any (h p q f c z : Nat) (v : Pv) (L : List Nat) (w : World) (hR : Rgr w h p f c) (hP : Pr w p q v L) (hz : v.m.sz = z) (hb : c * z ≤ 1099511627776) :
    Calls Tryd.prog 87 #[.pointer (some ⟨h, 0, none⟩)] w fun e w' => e = .returned (.int .i64 (c * z : Nat)) ∧ Mod [] w w' := by
  have SI := fun w h => qSize_any p q v L w h
  simp only [hz] at SI
  have q1 : (c : Int) * (z : Int) = ((c * z : Nat) : Int) := (Int.natCast_mul c z).symm
  obtain ⟨B, hB⟩ : ∃ B, B = c * z := ⟨_, rfl⟩
  rw [← hB] at q1 hb ⊢
  clear hB hz
  have y0 : (B : Int) ≤ 1099511627776 := by omega
  go_enter Tryd.func87, Tryd.ntmps87
  go_wp2_with fail
  refine wp_region_T [⟨0, true, []⟩, ⟨1, true, []⟩, ⟨2, true, []⟩, ⟨3, true, []⟩, ⟨4, true, []⟩, ⟨5, true, []⟩, ⟨6, true, []⟩, ⟨7, true, []⟩, ⟨8, true, []⟩, ⟨9, false, [1, 4]⟩, ⟨10, true, []⟩, ⟨11, true, []⟩] (by kernel_rfl) (by kernel_rfl) ?_
  have hm := Mod.drew [] w
  obtain ⟨x, hx⟩ : ∃ x, x = w.drew := ⟨_, rfl⟩
  rw [← hx] at hm ⊢
  clear hx
  have h2 := hR.ext hm
  have hP2 := hP.ext hm
  have c0 := Blk.cell' h2 (i := 0) rfl
  have c2 := Blk.cell' h2 (i := 2) rfl
  iterate 9 (refine wpT_n rfl rfl (fun K hK => ?_); go_wp2_with fail)
  refine wpT_callh rfl rfl (fun K hK => ?_)
  go_wp2_with (go_at_call 88; (with_reducible refine (SI _ hP2).mono ?_); rintro e w3 ⟨rfl, rfl⟩)
  refine ⟨agains_same, ?_⟩
  iterate 2 (refine wpT_n rfl rfl (fun K hK => ?_); go_wp2_with fail)
  refine wpT_nil ?_
  go_wp2_with fail
  go_ret
  exact ⟨rfl, hm⟩
/-- what Read answers -/
def HRdP (w : World) (p q : Nat) (L : List Nat) (R : Pv × Int × List UInt8) (e : Ending) (w' : World) : Prop := ∃ rv, e = .returned (.tuple #[rv, .int .i64 R.2.1]) ∧ Ob w' rv R.2.2 ∧ New w rv ∧ Pr w' p q R.1 L ∧ Mod [p] w w'
end Go.Proofs.YtminfegoldgjpaaDoor

/-! The document's region: Write. -/
namespace Go.Proofs.YtminfegoldgjpaaDoor
open Go.RowKit Gw

theorem wrC_part {v : Pv} {S M T z : Nat} {x : List UInt8} (h : T - M < z) (hg : v.go = true) : wrC v S M T z x = (v.md.wr S ((v.m.read S).take M ++ x ++ (v.m.read S).drop T), v.md.e 0) := by
  unfold wrC
  rw [if_pos h, if_pos hg, wr_e]
theorem wrC_down {v : Pv} {S M T z : Nat} {x : List UInt8} (h : T - M < z) (hg : v.go = false) : wrC v S M T z x = (v.md, 60) := by
  unfold wrC
  rw [if_pos h, if_neg (by rw [hg]; decide)]
theorem wrC_whole {v : Pv} {S M T z : Nat} {x : List UInt8} (h : ¬ T - M < z) : wrC v S M T z x = (v.wr S x, v.e 0) := by
  unfold wrC
  rw [if_neg h, wr_e]
theorem ovl_all (P B : List UInt8) (A : Nat) : ovl P B A B.length = P.take A ++ B ++ P.drop (A + B.length) := by
  unfold ovl
  rw [List.take_length]
/-- what Write answers -/
def HWrP (w : World) (p q : Nat) (L : List Nat) (R : Pv × Int) (e : Ending) (w' : World) : Prop := e = .returned (.int .i64 R.2) ∧ PrP w p q R.1 L w'
end Go.Proofs.YtminfegoldgjpaaDoor
