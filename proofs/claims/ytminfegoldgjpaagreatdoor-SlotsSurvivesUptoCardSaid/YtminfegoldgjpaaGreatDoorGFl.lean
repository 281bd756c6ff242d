import Derived.Test.YtminfegoldgjpaaGreatDoorGOct
import Derived.Deep.DeepAppendRoom
import Derived.Test.YtminfegoldgjpaaGreatDoorGMem
set_option linter.unusedVariables false
set_option linter.unusedSimpArgs false
set_option maxRecDepth 100000
namespace Go.Proofs.YtminfegoldgjpaaGreatDoor
open Go.RowKit Gw
section
variable {P : Program} {t e : TypeId} {z : Value} {sz bytes : Nat}
end
theorem stRow : ST Tryz.prog 50 39 (.slice none 0 0) 1 24 := ⟨Tryz.underlying50, by kernel_rfl, rfl, by decide⟩
def rc (V : Nat → Value) (N : Nat) : List Value := (List.range N).map V
def RS (w : World) (N : Nat) (V : Nat → Value) (c : Nat → List UInt8) : Prop := ∀ a, a < N → Ob w (V a) (c a)
theorem RS.ext {w w' : World} {N : Nat} {V : Nat → Value} {c : Nat → List UInt8} (h : RS w N V c) (hm : Mod [] w w') : RS w' N V c := fun a ha => (h a ha).ext hm
end Go.Proofs.YtminfegoldgjpaaGreatDoor
namespace Go.Proofs.YtminfegoldgjpaaGreatDoor
open Go.RowKit Gw
theorem Ob.n {w : World} {v : Value} {l : List UInt8} {n : Nat} (h : Ob w v l) (hl : l.length = n) : ∃ ao cap, v = .slice ao n cap ∧ n ≤ cap ∧ cap ≤ 9223372036854775807 := by
 subst hl
 exact Sl.form h.bs
theorem Ob.blk {w : World} {ao : Option Addr} {n cap : Nat} {l : List UInt8} (h : Ob w (.slice ao n cap) l) (hn : 0 < n) : ∃ g rest, ao = some ⟨g, 0, none⟩ ∧ Blk w g 5 (bv l ++ rest) ∧ l.length = n ∧ (bv l ++ rest).length = cap ∧ cap ≤ 9223372036854775807 := by
 rcases Ow.blk h with ⟨h1, _⟩ | ⟨g, c, r, h1, hB, h2, h3, h4, h5⟩
 · injection h1 with _ h1
   omega
 · injection h1 with e1 e2 e3
   subst e1 e3
   exact ⟨g, r, rfl, hB, e2.symm, by simpa using h4, h3⟩
theorem bv_set (l : List UInt8) (r : List Value) (i : Nat) (b : UInt8) (hi : i < l.length) : (bv l ++ r).set i (.int .u8 (b.toNat : Nat)) = bv (l.set i b) ++ r := by
 rw [List.set_append_left _ _ (by rw [bv_length]; exact hi)]
 unfold bv
 rw [List.map_set]
end Go.Proofs.YtminfegoldgjpaaGreatDoor
namespace Go.Proofs.YtminfegoldgjpaaGreatDoor
open Go.RowKit Gw
end Go.Proofs.YtminfegoldgjpaaGreatDoor
namespace Go.Proofs.YtminfegoldgjpaaGreatDoor
open Go.RowKit Gw
end Go.Proofs.YtminfegoldgjpaaGreatDoor
namespace Go.Proofs.YtminfegoldgjpaaGreatDoor
open Go.RowKit Gw
section
variable {w w' : World} {base : Nat} {L A B : List (Value × List UInt8)} {v : Value} {l : List UInt8}
end
def pick (x n : Int) : Int := if n < 1 then 0 else if x.tmod n < 0 then x.tmod n + n else x.tmod n
theorem pick_ge (x n : Int) : 0 ≤ pick x n := by
 unfold pick
 split
 · exact Int.le_refl _
 · rename_i h
   have := Int.lt_tmod_of_pos x (show 0 < n by omega)
   split <;> omega
theorem pick_lt (x n : Int) (h : 1 ≤ n) : pick x n < n := by
 unfold pick
 rw [if_neg (by omega)]
 have := Int.tmod_lt_of_pos x (show 0 < n by omega)
 split <;> omega
set_option maxHeartbeats 1000000 in
theorem pick_any (x n : Int) (w : World) (h1 : -9223372036854775808 ≤ x) (h2 : x ≤ 9223372036854775807) (h3 : -9223372036854775808 ≤ n) (h4 : n ≤ 9223372036854775807) :
   Calls Tryz.prog 10 #[.int .i64 x, .int .i64 n] w fun e w' => e = .returned (.int .i64 (pick x n)) ∧ w = w' := by
 by_cases hn : n < 1
 · have hp : pick x n = 0 := by unfold pick; rw [if_pos hn]
   rw [hp]
   clear hp
   go_enter Tryz.func10, Tryz.ntmps10
   go_wp2_with fail
   go_ret
   exact ⟨rfl, rfl⟩
 · have hm1 := Int.lt_tmod_of_pos x (show 0 < n by omega)
   have hm2 := Int.tmod_lt_of_pos x (show 0 < n by omega)
   have hn1 : 1 ≤ n := by omega
   by_cases hr : x.tmod n < 0
   · have hp : pick x n = x.tmod n + n := by unfold pick; rw [if_neg hn, if_pos hr]
     rw [hp]
     clear hp hn
     go_enter Tryz.func10, Tryz.ntmps10
     go_wp2_with fail
     go_ret
     exact ⟨rfl, rfl⟩
   · have hp : pick x n = x.tmod n := by unfold pick; rw [if_neg hn, if_neg hr]
     rw [hp]
     clear hp hn
     go_enter Tryz.func10, Tryz.ntmps10
     go_wp2_with fail
     go_ret
     exact ⟨rfl, rfl⟩
end Go.Proofs.YtminfegoldgjpaaGreatDoor
