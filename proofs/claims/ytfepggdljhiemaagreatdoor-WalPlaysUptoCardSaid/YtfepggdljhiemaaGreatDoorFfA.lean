import Derived.Test.YtfepggdljhiemaaGreatDoorFrQ
import Derived.Test.YtfepggdljhiemaaGreatDoorGFl
/-! Lists of frames that lie apart: the cells of a list. -/
set_option linter.unusedVariables false
set_option linter.unusedSimpArgs false
set_option maxRecDepth 100000
namespace Go.Proofs.YtfepggdljhiemaaGreatDoor
open Go.RowKit Gw

structure Ce where
  e : Nat
  s : Nat
  v : Value
def Ce.cells (x : Ce) : List Value := [.int .u64 (x.e : Nat), .int .u64 (x.s : Nat), x.v]
def cv (l : List Ce) : List Value := l.flatMap Ce.cells
theorem cv_length : ∀ l : List Ce, (cv l).length = l.length * 3
  | [] => rfl
  | x :: l => by
    have h := cv_length l
    unfold cv at h ⊢
    rw [List.flatMap_cons, List.length_append, h, List.length_cons]
    show 3 + l.length * 3 = _
    omega
theorem cv_append (a b : List Ce) : cv (a ++ b) = cv a ++ cv b := by simp [cv]
theorem cv_rep (n : Nat) (x : Ce) : cv (List.replicate n x) = (List.replicate n x.cells).flatten := by unfold cv; rw [List.flatMap_def, List.map_replicate]
theorem cv_at (rest : List Value) : ∀ (l : List Ce) (i : Nat) (x : Ce), l[i]? = some x → (cv l ++ rest)[i * 3]? = some (.int .u64 (x.e : Nat)) ∧ (cv l ++ rest)[i * 3 + 1]? = some (.int .u64 (x.s : Nat)) ∧ (cv l ++ rest)[i * 3 + 2]? = some x.v
  | [], _, _, h => by simp at h
  | y :: l, 0, x, h => by
    have e : y = x := by simpa using h
    subst e
    exact ⟨rfl, rfl, rfl⟩
  | y :: l, i + 1, x, h => by
    have h1 := cv_at rest l i x (by simpa using h)
    have e : ∀ k, (cv (y :: l) ++ rest)[(i + 1) * 3 + k]? = (cv l ++ rest)[i * 3 + k]? := fun k => by
      rw [show (i + 1) * 3 + k = (i * 3 + k) + 3 by omega]
      rfl
    exact ⟨(e 0).trans h1.1, (e 1).trans h1.2.1, (e 2).trans h1.2.2⟩
theorem cv_set (rest : List Value) : ∀ (l : List Ce) (i : Nat) (x : Ce), i < l.length → (cv l ++ rest).take (i * 3) ++ x.cells ++ (cv l ++ rest).drop (i * 3 + 3) = cv (l.set i x) ++ rest
  | [], _, _, h => by simp at h
  | y :: l, 0, x, _ => by
    show [] ++ x.cells ++ (cv l ++ rest) = _
    rw [List.nil_append]
    rfl
  | y :: l, i + 1, x, h => by
    have h1 := cv_set rest l i x (by simpa using h)
    have e1 : (i + 1) * 3 = i * 3 + 3 := by omega
    rw [e1]
    have e2 : (cv (y :: l) ++ rest).take (i * 3 + 3) = y.cells ++ (cv l ++ rest).take (i * 3) := rfl
    have e3 : (cv (y :: l) ++ rest).drop (i * 3 + 3 + 3) = (cv l ++ rest).drop (i * 3 + 3) := rfl
    rw [e2, e3, List.append_assoc, List.append_assoc, ← List.append_assoc ((cv l ++ rest).take (i * 3)), h1]
    rfl
/-- the marks -/
def ms (k i : Int) : Nat := (1000003 * (k + 7) + i).toNat
def mce (k i : Int) : Ce := ⟨0, ms k i, .slice none 0 0⟩
def zce : Ce := ⟨0, 0, .slice none 0 0⟩
def cmarks (k : Int) (n : Nat) : List Ce := (List.range n).map fun i : Nat => mce k i
theorem cmarks_length (k : Int) (n : Nat) : (cmarks k n).length = n := by simp [cmarks]
theorem cmarks_succ (k : Int) (n : Nat) : cmarks k (n + 1) = cmarks k n ++ [mce k n] := by simp [cmarks, List.range_succ]
theorem cmarks_at (k : Int) {n i : Nat} (h : i < n) : (cmarks k n)[i]? = some (mce k i) := by simp [cmarks, h]
theorem cmarks_atl (k : Int) {n i : Nat} (h : i < n) (l : List Ce) : (cmarks k n ++ l)[i]? = some (mce k i) := by rw [List.getElem?_append_left (by rw [cmarks_length]; exact h)]; exact cmarks_at k h
theorem take_cmarks {l : List Ce} {k : Int} {i : Nat} (h : l.take i = cmarks k i) (hi : i < l.length) : (l.set i (mce k i)).take (i + 1) = cmarks k (i + 1) := by
  rw [List.take_succ_eq_append_getElem (by simpa using hi), List.getElem_set_self, List.take_set_of_le (Nat.le_refl _), h, cmarks_succ]
theorem cmarks_set (k : Int) (i N : Nat) (hi : i < N) : (cmarks k i ++ List.replicate (N - i) zce).set i (mce k i) = cmarks k (i + 1) ++ List.replicate (N - (i + 1)) zce := by
  obtain ⟨m, hm⟩ : ∃ m, N - i = m + 1 := ⟨N - i - 1, by omega⟩
  rw [List.set_append_right _ _ (by simp [cmarks_length])]
  rw [hm, cmarks_length, Nat.sub_self, List.replicate_succ, List.set_cons_zero, cmarks_succ, List.append_assoc]
  rw [show N - (i + 1) = m by omega]
  rfl
theorem cm_one (k : Int) (n : Nat) : ∀ u ∈ cv (cmarks k n), u.oneCell' = true := by
  intro u hu
  obtain ⟨x, hx, hu⟩ := List.mem_flatMap.1 hu
  obtain ⟨i, _, rfl⟩ := List.mem_map.1 hx
  simp only [mce, Ce.cells, List.mem_cons, List.not_mem_nil, or_false] at hu
  rcases hu with rfl | rfl | rfl <;> rfl
/-- a list of frames that the call owns -/
def Of (w : World) (v : Value) (l : List Ce) : Prop := Ow w 97 3 v l.length (cv l)
theorem Of.ext {w w' : World} {v : Value} {l : List Ce} (h : Of w v l) (hm : Mod [] w w') : Of w' v l := Ow.ext h hm
theorem Of.n {w : World} {v : Value} {l : List Ce} {n : Nat} (h : Of w v l) (hl : l.length = n) : ∃ ao cap, v = .slice ao n cap ∧ n ≤ cap ∧ cap ≤ 9223372036854775807 := by
  subst hl
  exact Sl.form (Ow.sl h)
theorem Of.blk {w : World} {ao : Option Addr} {n cap : Nat} {l : List Ce} (h : Of w (.slice ao n cap) l) (hn : 0 < n) : ∃ g rest, ao = some ⟨g, 0, none⟩ ∧ Blk w g 97 (cv l ++ rest) ∧ l.length = n ∧ (cv l ++ rest).length = cap * 3 ∧ cap ≤ 9223372036854775807 := by
  rcases Ow.blk h with ⟨h1, _⟩ | ⟨g, c, r, h1, hB, h2, h3, h4, h5⟩
  · injection h1 with _ h1
    omega
  · injection h1 with e1 e2 e3
    subst e1 e3
    exact ⟨g, r, rfl, hB, e2.symm, h4, h3⟩
theorem Of.mk3 {w : World} {ao : Option Addr} {n cap : Nat} {l : List Ce} {i : Nat} {k : Int} (h : Of w (.slice ao n cap) l) (hi : l[i]? = some (mce k i)) :
    ∃ g cs, ao = some ⟨g, 0, none⟩ ∧ Blk w g 97 cs ∧ cs[i * 3]? = some (.int .u64 0) ∧ cs[i * 3 + 1]? = some (.int .u64 (ms k i : Nat)) ∧ cs[i * 3 + 2]? = some (.slice none 0 0) := by
  rcases Ow.blk h with ⟨_, h1, h2⟩ | ⟨g, c, r, h1, hB, h2, h3, h4, h5⟩
  · rw [List.eq_nil_of_length_eq_zero h1] at hi
    simp at hi
  · injection h1 with e1 e2 e3
    obtain ⟨c0, c1, c2⟩ := cv_at r l i _ hi
    exact ⟨g, _, e1, hB, c0, c1, c2⟩
/-- lists that lie apart: their contents -/
def RSf (w : World) (N : Nat) (V : Nat → Value) (c : Nat → List Ce) : Prop := ∀ a, a < N → Of w (V a) (c a)
def updF (c : Nat → List Ce) (k : Nat) (d : List Ce) (a : Nat) : List Ce := if a = k then d else c a
theorem RSf.set {w w' : World} {N k : Nat} {V : Nat → Value} {c : Nat → List Ce} {d : List Ce} (h : RSf w N V c) (hd : Dj N V) (hk : k < N) (hm : Mod (blks (V k)) w w') (ho : Of w' (V k) d) : RSf w' N V (updF c k d) := by
  intro a ha
  unfold updF
  by_cases hak : a = k
  · subst hak
    rw [if_pos rfl]
    exact ho
  · rw [if_neg hak]
    exact Ow.mod (h a ha) hm (hd a k ha hk hak)
theorem RSf.ext {w w' : World} {N : Nat} {V : Nat → Value} {c : Nat → List Ce} (h : RSf w N V c) (hm : Mod [] w w') : RSf w' N V c := fun a ha => (h a ha).ext hm
theorem stFrow : ST Tryz.prog 46 40 (.slice none 0 0) 1 24 := ⟨Tryz.underlying46, by kernel_rfl, rfl, by decide⟩
theorem ne_frows : 97 ≠ 40 := by decide
theorem frows_mod {w w' : World} {N : Nat} {V : Nat → Value} {u : Value} {l : List Ce} {lv : Value} (hl : Ow w 40 1 lv N (rc V N)) (ho : Of w u l) (hm : Mod (blks u) w w') : Ow w' 40 1 lv N (rc V N) :=
  Ow.mod hl hm fun b hb hbu => ow_apart ho hl ne_frows b hbu hb
theorem frow_at {w : World} {N : Nat} {V : Nat → Value} {ao : Option Addr} {n cap : Nat} (hl : Ow w 40 1 (.slice ao n cap) N (rc V N)) {a : Nat} (ha : a < N) : ∃ b, ao = some ⟨b, 0, none⟩ ∧ w.cell? ⟨b, a, none⟩ = some (V a) := by
  rcases hl.blk with ⟨_, h, _⟩ | ⟨g, c, r, h, hB, _⟩
  · omega
  · injection h with e1
    exact ⟨g, e1, hB.cell' (by rw [List.getElem?_append_left (by rw [rc_length]; exact ha)]; exact rc_at V ha)⟩
theorem frow_blk {w : World} {N : Nat} {V : Nat → Value} {lb n cap : Nat} (hl : Ow w 40 1 (.slice (some ⟨lb, 0, none⟩) n cap) N (rc V N)) {a : Nat} (ha : a < N) : ∃ cs, Blk w lb 40 cs ∧ cs[a]? = some (V a) := by
  rcases hl.blk with ⟨_, h, _⟩ | ⟨g, c, r, h, hB, _⟩
  · omega
  · injection h with e1
    injection e1 with e1
    injection e1 with e1
    subst e1
    exact ⟨_, hB, by rw [List.getElem?_append_left (by rw [rc_length]; exact ha)]; exact rc_at V ha⟩
/-- the mark of a place, at numbers -/
theorem markFr_any (k i : Int) (w : World) (h1 : 0 ≤ k) (h2 : k ≤ 1099511627776) (h3 : 0 ≤ i) (h4 : i ≤ 281474976710656) :
    Calls Tryz.prog 154 #[.int .i64 k, .int .i64 i] w fun e w' => e = .returned (.agg #[.int .u64 0, .int .u64 (ms k i : Nat), .slice none 0 0]) ∧ Mod [] w w' := by
  obtain ⟨k, rfl⟩ := Int.eq_ofNat_of_zero_le h1
  obtain ⟨i, rfl⟩ := Int.eq_ofNat_of_zero_le h3
  have h := markFrame_any k i w (by omega) (by omega)
  have e : ms (k : Nat) (i : Nat) = 1000003 * (k + 7) + i := by unfold ms; omega
  unfold Fv.v mfr at h
  dsimp only at h
  rw [← e] at h
  exact h
theorem sameM (k i : Int) (w : World) : Calls Tryz.prog 45 #[.agg #[.int .u64 0, .int .u64 (ms k i : Nat), .slice none 0 0], .agg #[.int .u64 0, .int .u64 (ms k i : Nat), .slice none 0 0]] w fun e w' => e = .returned (.bool true) ∧ Mod [] w w' :=
  sameF_yes ⟨0, ms k i, []⟩ (.slice none 0 0) (.slice none 0 0) w (Sl.nil _ _) (Sl.nil _ _)
end Go.Proofs.YtfepggdljhiemaaGreatDoor
