import Derived.Test.YtfepggdljhiemaaGreatDoorWlN
import Derived.Test.YtfepggdljhiemaaGreatDoorGDi
import Derived.Test.YtfepggdljhiemaaGreatDoorGFl
/-! Wal: bodies that were appended, listed beside the log. -/
set_option linter.unusedVariables false
set_option linter.unusedSimpArgs false
set_option maxRecDepth 100000
namespace Go.Proofs.YtfepggdljhiemaaGreatDoor
open Go.RowKit Gw

theorem RowsF.take {w : World} {ao : Option Addr} {n cap k : Nat} {L : List (Value × List UInt8)} (h : RowsF w (.slice ao n cap) L) (hn : n = L.length) (hk : k ≤ n) (hc : k ≤ cap) : RowsF w (.slice ao k cap) (L.take k) := by
  subst hn
  have h2 := Sl.cut (lo := 0) (hi := k) (m := cap) h.1 (Nat.zero_le _) hk hc (Nat.le_refl _)
  have hl : (L.take k).length = k := by rw [List.length_take]; omega
  refine ⟨?_, fun x hx => h.2 x (List.mem_of_mem_take hx)⟩
  rw [hl]
  have e : (L.take k).map (·.1) = ((L.map (·.1)).drop (0 * 1)).take ((k - 0) * 1) := by rw [Nat.zero_mul, List.drop_zero, Nat.sub_zero, Nat.mul_one, List.map_take]
  rw [e]
  have e2 : ao.map (·.add (0 * 1)) = ao := by cases ao <;> simp [Addr.add]
  rw [e2] at h2
  simpa using h2
theorem flG_sz (c : Nat) (v : Pv) (s : Ls) : (flG c v s).1.n ≤ v.n + (2 * (c * 64) + 1) ∧ (flG c v s).1.m.row.length ≤ v.m.row.length + c * 64 := by
  unfold flG
  split
  · exact ⟨by dsimp only; omega, by dsimp only; omega⟩
  · have h := putG_sz 1 c 64 v (s.g : Nat) s.b
    exact ⟨by have := h.n; dsimp only; omega, by have := h.row; dsimp only; omega⟩
/-- a log, a list of the bodies that it took -/
def KiP (W : World) (p q P Q : Nat) (dv : Pv) (M : List Nat) (l r h c e f : Nat) (iv : Value) (j : Nat) (w : World) : Prop :=
  ∃ (k : Nat) (s : Ls) (v : Pv) (L : List Nat) (bw : Value) (ls : List (Value × List UInt8)) (O : List (Nat × TypeId × List Value)),
    InsO iv (ls.map (·.1)) O ∧ Wg W w p q P Q v dv L M l r h c bw s O ∧ Kp c v s e f (ls.map (·.2)) k ∧ (∀ x ∈ ls, Bs W x.1 x.2) ∧ ls.length ≤ j ∧ v.n ≤ j * 2000 ∧ v.m.row.length ≤ j * 1000
section
variable {W w w' : World} {p q P Q : Nat} {v u v' u' : Pv} {L M L' M' G : List Nat} {l r h c : Nat} {bw bw' : Value} {s s' : Ls} {O : List (Nat × TypeId × List Value)} {iv iv' : Value} {ls : List (Value × List UInt8)}
theorem Wg.rows (H : Wg W w p q P Q v u L M l r h c bw s O) (hO : InsO iv (ls.map (·.1)) O) (hB : ∀ x ∈ ls, Bs W x.1 x.2) : RowsF w iv ls := by
  have h1 := (H.ins hO).sl
  rw [List.length_map] at h1
  exact ⟨h1, fun x hx => (hB x hx).ext H.B.m⟩
theorem Wg.insF (H : Wg W w p q P Q v u L M l r h c bw s O) (hO : InsO iv (ls.map (·.1)) O) : ∃ ao cap, iv = .slice ao ls.length cap ∧ ls.length ≤ cap ∧ Ow w 33 1 (.slice ao ls.length cap) ls.length (ls.map (·.1)) := by
  have h1 := H.ins hO
  rw [List.length_map] at h1
  obtain ⟨ao, cap, rfl, h2, _⟩ := Sl.form h1.sl
  exact ⟨ao, cap, rfl, h2, h1⟩
/-- one body more is listed -/
theorem Wg.insC {x : Value × List UInt8} (H : Wg W w p q P Q v u L M l r h c bw s O) (hO : InsO iv (ls.map (·.1)) O) (hm : Mod (blks iv) w w') (ho : Ow w' 33 1 iv' (ls.length + 1) (ls.map (·.1) ++ [x.1])) (hn : ∀ k ∈ blks iv', k ∈ blks iv ∨ w.heap.size ≤ k) : ∃ O', Wg W w' p q P Q v u L M l r h c bw s O' ∧ InsO iv' ((ls ++ [x]).map (·.1)) O' := by
  refine H.insT hO hm ?_ hn
  rw [List.map_append, List.map_singleton, List.length_append, List.length_map]
  exact ho
end
/-- a log that was not flushed, a list of the bodies that it took -/
def KiE (W : World) (p q P Q : Nat) (v u : Pv) (L M : List Nat) (l r h c e f : Nat) (iv : Value) (j : Nat) (w : World) : Prop :=
  ∃ (s : Ls) (bw : Value) (ls : List (Value × List UInt8)) (O : List (Nat × TypeId × List Value)),
    InsO iv (ls.map (·.1)) O ∧ Wg W w p q P Q v u L M l r h c bw s O ∧ Kp c v s e f (ls.map (·.2)) 0 ∧ (∀ x ∈ ls, Bs W x.1 x.2) ∧ ls.length ≤ j
theorem Wg.drop {W w : World} {p q P Q : Nat} {v u : Pv} {L M : List Nat} {l r h c : Nat} {bw : Value} {s : Ls} {O : List (Nat × TypeId × List Value)} (H : Wg W w p q P Q v u L M l r h c bw s O) : Wg W w p q P Q v u L M l r h c bw s [] :=
  ⟨⟨H.B.D, H.B.E, H.B.ap, fun x hx => H.B.O x (by rw [List.append_nil] at hx; exact List.mem_append_left _ hx), H.B.m, H.B.dn, H.B.rn⟩, H.o, H.a, fun y hy => nomatch hy⟩
/-- what a Flush and a Scan behind it tell -/
theorem epoch_end {c n e f i : Nat} {m : Dm} {s : Ls} {LS : List (List UInt8)} (K : Kp c (Lv m n) s e f LS 0) (he0 : e ≠ 0) (h0 : i = 0 → m = dev0 (c + 1) 64 ∧ n = 0) : ∃ m2 n2 s2 B n3, flG c (Lv m n) s = (Lv m2 n2, s2, 0) ∧ Kp c (Lv m2 n2) s2 e f LS LS.length ∧ n2 ≤ n + (2 * (c * 64) + 1) ∧ m2.row.length ≤ m.row.length + c * 64 ∧
    rdA 1 c 64 (Lv m2 n2) (0 : Nat) (c * 64 : Nat) = (Lv m2 n3, 0, B) ∧ n3 ≤ n2 + (c * 64 + 2) ∧ (∃ T, B = catB e f LS ++ T) ∧ (i = 0 → rowS B e f 0 = rowB e f 0 LS) := by
  obtain ⟨m2, n2, k1, k2, _, k4, _, _, k7⟩ := K.live
  obtain ⟨r1, r2, r3⟩ := k1.scan
  rw [List.take_length] at r3
  refine ⟨m2, n2, _, abs m2 64 64 (c * 64), _, k2, k1, k4, k7, r1, by omega, r3, fun hi => ?_⟩
  obtain ⟨rfl, rfl⟩ := h0 hi
  obtain ⟨m3, n3, s3, B3, g1, g2, _, _, _, g6, g7⟩ := fresh_scan K he0
  rw [k2] at g1
  injection g1 with g1 _
  rw [g1, g6] at r1
  injection r1 with _ r1
  injection r1 with _ r1
  rw [← r1]
  exact g7
theorem Wg.one {W w w' : World} {p q P Q : Nat} {v u : Pv} {L M : List Nat} {l r h c g : Nat} {bw : Value} {s : Ls} {O : List (Nat × TypeId × List Value)} (H : Wg W w p q P Q v u L M l r h c bw s O) (hm : Mod [g] w w') (hg : W.heap.size ≤ g) (h1 : g ∉ p :: L) (h2 : g ∉ P :: M) (h3 : g ∉ blks bw) (h4 : ∀ y ∈ wO l r h p P c bw s ++ O, y.1 ≠ g) : Wg W w' p q P Q v u L M l r h c bw s O := by
  have hk : ∀ k ∈ [g], k = g := fun k hk => by simpa using hk
  exact ⟨⟨H.B.D.keep0 hm (fun k hk' hh => h1 (hk k hh ▸ hk')), H.B.E.keep1 hm (fun k hk' hh => h2 (hk k hh ▸ hk')), H.B.ap, fun x hx => ⟨(H.B.O x hx).1, (H.B.O x hx).2.1, (H.B.O x hx).2.2.1, (H.B.O x hx).2.2.2.mod hm (fun hh => h4 x hx (hk _ hh))⟩, H.B.m.fresh hm (fun k hk' => hk k hk' ▸ hg), H.B.dn, H.B.rn⟩, H.o.mod hm (fun k hk' hh => h3 (hk k hh ▸ hk')), H.a, H.nl⟩
theorem Wg.far {W w0 w w' : World} {p q P Q : Nat} {v0 u0 v u : Pv} {L M G : List Nat} {l r h c : Nat} {bw : Value} {s : Ls} {O : List (Nat × TypeId × List Value)} (H0 : Wg W w0 p q P Q v0 u0 L M l r h c bw s O) (H : Wg W w p q P Q v u L M l r h c bw s O) (hm : Mod G w w') (hG : ∀ k ∈ G, w0.heap.size ≤ k) : Wg W w' p q P Q v u L M l r h c bw s O :=
  ⟨⟨H.B.D.keep0 hm (fun k hk hh => by have := H0.B.D.lt0 k hk; have := hG k hh; omega), H.B.E.keep1 hm (fun k hk hh => by have := H0.B.E.lt1 k hk; have := hG k hh; omega), H.B.ap, fun x hx => ⟨(H.B.O x hx).1, (H.B.O x hx).2.1, (H.B.O x hx).2.2.1, (H.B.O x hx).2.2.2.mod hm (fun hh => by have := (H0.B.O x hx).2.2.2.lt; have := hG _ hh; omega)⟩, H.B.m.fresh hm (fun k hk => by have := hG k hk; have := H0.B.m.size; omega), H.B.dn, H.B.rn⟩, H.o.mod hm (fun k hk hh => by have := Ow.lt H0.o k hk; have := hG k hh; omega), H.a, H.nl⟩
end Go.Proofs.YtfepggdljhiemaaGreatDoor
