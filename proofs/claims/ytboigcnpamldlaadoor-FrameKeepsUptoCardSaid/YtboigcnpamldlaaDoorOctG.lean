import Derived.Test.YtboigcnpamldlaaDoorOctF
set_option linter.unusedVariables false
set_option linter.unusedSimpArgs false
set_option maxRecDepth 100000
namespace Go.Proofs.YtboigcnpamldlaaDoor
open Go.RowKit Gw

theorem same_yes (la lb : List UInt8) (va vb : Value) (w : World) (ha : Bs w va la) (hb : Bs w vb lb) (h : la = lb) :
    Calls Tryd.prog 16 #[va, vb] w fun e w' => e = .returned (.bool true) ∧ Mod [] w w' :=
  (same_any la lb va vb w ha hb).mono fun e w' ⟨he, hm⟩ => ⟨by rw [he, decide_eq_true h], hm⟩
theorem rtwo_val (r q : Nat) (l : List UInt8) (err : Int) (m : Nat) (l' : List UInt8) (err' : Int) (w : World) (h : Rd w r q l err) (hm : got l err 2 = m) (hl : tkRest l err 2 = l') (he : tkErr l err 2 = err') :
    Calls Tryd.prog 45 #[.pointer (some ⟨r, 0, none⟩)] w fun e w' => e = .returned (.int .u16 m) ∧ Rd w' r q l' err' ∧ Mod [q] w w' :=
  (rtwo_any r q l err w h).mono fun e w' ⟨h1, h2, h3⟩ => ⟨by rw [h1, hm], by rw [← hl, ← he]; exact h2, h3⟩

theorem Wr.new {w : World} {g : Nat} (h : Blk w g 66 [.slice none 0 0]) : Wr w g [] := ⟨_, h, (Ob.nil w).bs⟩
theorem zero_writer : (Tryd.prog.info? 66).map (·.zero) = some (some (.agg #[.slice none 0 0])) := by kernel_rfl

end Go.Proofs.YtboigcnpamldlaaDoor
