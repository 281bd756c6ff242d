import Derived.Test.YtfepggdljhiemaaGreatDoorGOct
import Derived.Deep.DeepAppendRoom
import Derived.Test.YtfepggdljhiemaaGreatDoorGMem
/-! Lists that lie apart: an append keeps whatever is not longer than what it goes on from. -/
set_option linter.unusedVariables false
set_option linter.unusedSimpArgs false
set_option maxRecDepth 100000
namespace Go.Proofs.YtfepggdljhiemaaGreatDoor
open Go.RowKit Gw

section
variable {P : Program} {t e : TypeId} {z : Value} {sz bytes : Nat}
/-- what the call owns keeps through an append in place to a slice that is as long or longer, or lies elsewhere -/
theorem ow_keep {w w' : World} {g n m cap : Nat} {xs ys : List Value} (hp : 0 < sz) (hv : Ow w e sz (.slice (some ⟨g, 0, none⟩) n cap) n xs) (hv' : Ow w' e sz (.slice (some ⟨g, 0, none⟩) (n + m) cap) (n + m) (xs ++ ys)) (hm : Mod [g] w w')
    {u : Value} {k : Nat} {zs : List Value} (hu : Ow w e sz u k zs) (hk : k ≤ n ∨ ∀ b ∈ blks u, b ≠ g) : Ow w' e sz u k zs := by
  by_cases hg : g ∈ blks u
  · have hkn : k ≤ n := hk.resolve_right fun h => h g hg rfl
    rcases hu.blk with ⟨rfl, _⟩ | ⟨g', c, rest, rfl, hB, h1, h2, h3, h4⟩
    · simp [blks] at hg
    · obtain rfl : g = g' := by simpa [blks] using hg
      rcases hv.blk with ⟨h, _⟩ | ⟨g2, c2, rest2, h, hB2, k1, k2, k3, k4⟩
      · cases h
      · injection h with e1 e2 e3
        injection e1 with e1
        injection e1 with e1
        subst e1 e3
        have hcs := (hB.inj hB2).2
        have hcc : c = cap := by
          rw [hcs, k3] at h3
          exact (Nat.eq_of_mul_eq_mul_right hp h3).symm
        subst hcc
        have hz : zs = xs.take (k * sz) := by
          have : (zs ++ rest).take (k * sz) = (xs ++ rest2).take (k * sz) := by rw [hcs]
          rw [← h4, List.take_left, List.take_append_of_le_length (by rw [h4, k4]; exact Nat.mul_le_mul_right _ hkn)] at this
          rw [this, h4]
        rcases hv'.blk with ⟨h, _⟩ | ⟨g3, c3, rest3, h, hB3, q1, q2, q3, q4⟩
        · cases h
        · injection h with e1 e2 e3
          injection e1 with e1
          injection e1 with e1
          subst e1 e3
          have : Blk w' g e (zs ++ ((xs.drop (k * sz) ++ ys) ++ rest3)) := by
            rw [hz, ← List.append_assoc, ← List.append_assoc, List.take_append_drop]
            exact hB3
          refine Ow.of_blk this h1 h2 ?_ h4
          rw [← q3, hz, ← List.append_assoc, ← List.append_assoc, List.take_append_drop]
  · exact hu.mod hm fun b hb hbg => hg (by
      have : b = g := by simpa using hbg
      exact this ▸ hb)

/-- append onto what the call owns; what else it owns stays. -/
theorem wp_append_kp {a : Act} {w : World} {K : Act → World → Prop} {Q : Exit → Act → World → Prop} {d : Option Tmp} {ty : TypeId} {ps : String} {af : Array Edge} {gd : Option (Nat × Bool)}
    (st : ST P t e z sz bytes) {s x : Operand} {v xv : Value} {n m : Nat} {xs ys : List Value} (hs : a.eval s = v) (hx : a.eval x = xv)
    (hv : Ow w e sz v n xs) (hy : Sl w sz xv m ys) (h1 : ∀ u ∈ ys, u.oneCell' = true) (hb : (n + m) * bytes ≤ 140737488355328) (hn : n + m ≤ 9223372036854775807) (hm0 : 0 < m)
    (h : ∀ v' w', Ow w' e sz v' (n + m) (xs ++ ys) → Mod (blks v) w w' → (∀ k ∈ blks v', k ∈ blks v ∨ w.heap.size ≤ k) → (∀ u k zs, Ow w e sz u k zs → (k ≤ n ∨ ∀ b ∈ blks u, b ∉ blks v) → Ow w' e sz u k zs) → K (a.put d v') w') :
    Oper.wp P { dst := d, op := .call { callee := .builtin .append, args := #[s, x], argTypes := #[t, t] }, type := ty, pos := ps, after := af, guard := gd } a w K Q := by
  have hys : ys ≠ [] := fun h0 => by
    have := hy.len
    rw [h0] at this
    have := Nat.mul_pos hm0 st.pos
    simp at *
    omega
  rcases hv.blk with ⟨rfl, rfl, rfl⟩ | ⟨g, cap, rest, rfl, hB, k1, k2, k3, k4⟩
  · refine wp_append_cp st hs hx (Sl.nil w sz) hy h1 hb hn (.inr (by omega)) fun v' w' h2 h3 h4 h5 => ?_
    obtain ⟨h6, h7⟩ := h5 (by omega)
    exact h v' w' h6 h3 (fun k hk => .inr (h7 k hk)) fun u k zs hu _ => hu.ext h3
  · by_cases hr : n + m ≤ cap
    · obtain ⟨i, hi, hz, hsi, hby⟩ := info_parts st.info
      obtain ⟨b, off, cp, rfl, _, _, hcell⟩ := hy.at hys
      refine wp_append_own_spare w s x t rfl 0 e i sz st.under hi hsi g n cap xs hs hv ⟨b, off, none⟩ m cp ys hx hy.len (fun j u hu => by rw [Addr.add_lit]; exact hcell j u hu) h1 hr fun w' h2 h3 => ?_
      have hm : Mod [g] w w' := Mod.grown h3
      exact h _ w' h2 hm (fun k hk => .inl (by simpa [blks] using hk)) fun u k zs hu hk => ow_keep st.pos hv h2 hm hu (hk.imp id fun h b hb hbg => h b hb (by simp [blks, hbg]))
    · refine wp_append_cp st hs hx hv.sl hy h1 hb hn (.inr (by omega)) fun v' w' h2 h3 h4 h5 => ?_
      obtain ⟨h6, h7⟩ := h5 (by omega)
      exact h v' w' h6 (h3.weak (by simp)) (fun k hk => .inr (h7 k hk)) fun u k zs hu _ => hu.ext h3
end

theorem ow_apart {w : World} {e1 e2 : TypeId} {s1 s2 n1 n2 : Nat} {v1 v2 : Value} {xs ys : List Value} (h1 : Ow w e1 s1 v1 n1 xs) (h2 : Ow w e2 s2 v2 n2 ys) (hne : e1 ≠ e2) : ∀ b ∈ blks v1, b ∉ blks v2 := by
  intro b hb
  rcases h1.blk with ⟨rfl, _⟩ | ⟨g, c, r, rfl, hB, _⟩
  · simp [blks] at hb
  · obtain rfl : b = g := by simpa [blks] using hb
    exact Ow.ne h2 hB (Ne.symm hne)

theorem stRow : ST Tryz.prog 22 33 (.slice none 0 0) 1 24 := ⟨Tryz.underlying22, by kernel_rfl, rfl, by decide⟩
theorem ne_rows : 5 ≠ 33 := by decide

/-- the blocks of some rows -/
def LB (V : Nat → Value) (N : Nat) : List Nat := (List.range N).flatMap fun a => blks (V a)
theorem mem_LB {V : Nat → Value} {N a : Nat} {b : Nat} (ha : a < N) (hb : b ∈ blks (V a)) : b ∈ LB V N := List.mem_flatMap.2 ⟨a, List.mem_range.2 ha, hb⟩
theorem of_LB {V : Nat → Value} {N : Nat} {b : Nat} (h : b ∈ LB V N) : ∃ a, a < N ∧ b ∈ blks (V a) := by
  obtain ⟨a, ha, hb⟩ := List.mem_flatMap.1 h
  exact ⟨a, List.mem_range.1 ha, hb⟩
/-- the cells of a list of rows -/
def rc (V : Nat → Value) (N : Nat) : List Value := (List.range N).map V
theorem rc_length (V : Nat → Value) (N : Nat) : (rc V N).length = N := by simp [rc]
theorem rc_at (V : Nat → Value) {N a : Nat} (h : a < N) : (rc V N)[a]? = some (V a) := by simp [rc, h]

/-- rows that lie apart: their contents -/
def RS (w : World) (N : Nat) (V : Nat → Value) (c : Nat → List UInt8) : Prop := ∀ a, a < N → Ob w (V a) (c a)
def Dj (N : Nat) (V : Nat → Value) : Prop := ∀ a b, a < N → b < N → a ≠ b → ∀ k ∈ blks (V a), k ∉ blks (V b)
def upd (c : Nat → List UInt8) (k : Nat) (d : List UInt8) (a : Nat) : List UInt8 := if a = k then d else c a
theorem RS.set {w w' : World} {N k : Nat} {V : Nat → Value} {c : Nat → List UInt8} {d : List UInt8} (h : RS w N V c) (hd : Dj N V) (hk : k < N) (hm : Mod (blks (V k)) w w') (ho : Ob w' (V k) d) : RS w' N V (upd c k d) := by
  intro a ha
  unfold upd
  by_cases hak : a = k
  · subst hak
    rw [if_pos rfl]
    exact ho
  · rw [if_neg hak]
    exact Ow.mod (h a ha) hm (hd a k ha hk hak)
theorem RS.ext {w w' : World} {N : Nat} {V : Nat → Value} {c : Nat → List UInt8} (h : RS w N V c) (hm : Mod [] w w') : RS w' N V c := fun a ha => (h a ha).ext hm
/-- the list of rows stays -/
theorem rows_mod {w w' : World} {N : Nat} {V : Nat → Value} {u : Value} {l : List UInt8} {lv : Value} (hl : Ow w 33 1 lv N (rc V N)) (ho : Ob w u l) (hm : Mod (blks u) w w') : Ow w' 33 1 lv N (rc V N) :=
  Ow.mod hl hm fun b hb hbu => ow_apart ho hl ne_rows b hbu hb
/-- a row's value, and a cell of the list -/
theorem row_at {w : World} {N : Nat} {V : Nat → Value} {ao : Option Addr} {n cap : Nat} (hl : Ow w 33 1 (.slice ao n cap) N (rc V N)) {a : Nat} (ha : a < N) : ∃ b, ao = some ⟨b, 0, none⟩ ∧ w.cell? ⟨b, a, none⟩ = some (V a) := by
  rcases hl.blk with ⟨_, h, _⟩ | ⟨g, c, r, h, hB, _⟩
  · omega
  · injection h with e1
    exact ⟨g, e1, hB.cell' (by rw [List.getElem?_append_left (by rw [rc_length]; exact ha)]; exact rc_at V ha)⟩
end Go.Proofs.YtfepggdljhiemaaGreatDoor

namespace Go.Proofs.YtfepggdljhiemaaGreatDoor
open Go.RowKit Gw

theorem Ob.n {w : World} {v : Value} {l : List UInt8} {n : Nat} (h : Ob w v l) (hl : l.length = n) : ∃ ao cap, v = .slice ao n cap ∧ n ≤ cap ∧ cap ≤ 9223372036854775807 := by
  subst hl
  exact Sl.form h.bs
/-- at a place of it: its block -/
theorem Ob.blk {w : World} {ao : Option Addr} {n cap : Nat} {l : List UInt8} (h : Ob w (.slice ao n cap) l) (hn : 0 < n) : ∃ g rest, ao = some ⟨g, 0, none⟩ ∧ Blk w g 5 (bv l ++ rest) ∧ l.length = n ∧ (bv l ++ rest).length = cap ∧ cap ≤ 9223372036854775807 := by
  rcases Ow.blk h with ⟨h1, _⟩ | ⟨g, c, r, h1, hB, h2, h3, h4, h5⟩
  · injection h1 with _ h1
    omega
  · injection h1 with e1 e2 e3
    subst e1 e3
    exact ⟨g, r, rfl, hB, e2.symm, by simpa using h4, h3⟩
theorem take_marks {l : List UInt8} {k : Int} {i : Nat} (h : l.take i = marks k i) (hi : i < l.length) : (l.set i (mb k i)).take (i + 1) = marks k (i + 1) := by
  rw [List.take_succ_eq_append_getElem (by simpa using hi), List.getElem_set_self, List.take_set_of_le (Nat.le_refl _), h, marks_succ]
theorem bv_set (l : List UInt8) (r : List Value) (i : Nat) (b : UInt8) (hi : i < l.length) : (bv l ++ r).set i (.int .u8 (b.toNat : Nat)) = bv (l.set i b) ++ r := by
  rw [List.set_append_left _ _ (by rw [bv_length]; exact hi)]
  unfold bv
  rw [List.map_set]

def updV (H : Nat → Value) (k : Nat) (v : Value) (a : Nat) : Value := if a = k then v else H a
theorem rc_set (H : Nat → Value) {N k : Nat} (v : Value) (hk : k < N) : (rc H N).set k v = rc (updV H k v) N := by
  apply List.ext_getElem?
  intro a
  rw [List.getElem?_set, rc_length]
  by_cases hak : k = a
  · subst hak
    rw [if_pos rfl, if_pos hk, rc_at _ hk]
    simp [updV]
  · rw [if_neg hak]
    by_cases haN : a < N
    · rw [rc_at _ haN, rc_at _ haN]
      simp [updV, Ne.symm hak]
    · rw [List.getElem?_eq_none (by rw [rc_length]; omega), List.getElem?_eq_none (by rw [rc_length]; omega)]
theorem updV_ne (H : Nat → Value) {k a : Nat} (v : Value) (h : a < k) : updV H k v a = H a := by
  unfold updV
  rw [if_neg (by omega)]
theorem updV_eq (H : Nat → Value) (k : Nat) (v : Value) : updV H k v k = v := by simp [updV]
theorem Ob.kp {w w' : World} {u x : Value} {l lx : List UInt8} (hk : ∀ y k zs, Ow w 5 1 y k zs → (k ≤ lx.length ∨ ∀ b ∈ blks y, b ∉ blks x) → Ow w' 5 1 y k zs) (h : Ob w u l) (hc : l.length ≤ lx.length ∨ ∀ b ∈ blks u, b ∉ blks x) : Ob w' u l := hk _ _ _ h hc
theorem marks_set (k : Int) (i N : Nat) (hi : i < N) : (bv (marks k i) ++ List.replicate (N - i) (Value.int .u8 0)).set i (.int .u8 ((mb k i).toNat : Nat)) = bv (marks k (i + 1)) ++ List.replicate (N - (i + 1)) (.int .u8 0) := by
  obtain ⟨m, hm⟩ : ∃ m, N - i = m + 1 := ⟨N - i - 1, by omega⟩
  rw [List.set_append_right _ _ (by simp [bv_length, marks_length])]
  rw [hm, bv_length, marks_length, Nat.sub_self, List.replicate_succ, List.set_cons_zero, marks_succ, bv_append, List.append_assoc]
  rw [show N - (i + 1) = m by omega]
  rfl

set_option maxRecDepth 1000000 in
set_option maxHeartbeats 16000000 in
theorem flatBytes_any (V : Nat → Value) (c : Nat → List UInt8) (n : Nat → Nat) (N : Nat) (lv : Value) (w : World) (hl : Ow w 33 1 lv N (rc V N)) (hr : RS w N V c) (hd : Dj N V) (hN : N ≤ 1048576) (hn : ∀ a, (c a).length = n a) (hn2 : ∀ a, a < N → n a ≤ 140737488355000) :
    Calls Tryz.prog 107 #[lv] w fun e w' => e = .returned (.bool true) ∧ Mod (LB V N) w w' := by
  obtain ⟨lao, lcap, rfl, hlc, hlc2⟩ := hl.sl.form
  go_enter Tryz.func107, Tryz.ntmps107
  go_wp2_with fail
  go_loopw [3] (fun i wr => ∃ (j : Nat) (c' : Nat → List UInt8), j ≤ N ∧ i = .int .i64 j ∧ Mod (LB V N) w wr ∧ Ow wr 33 1 (.slice lao N lcap) N (rc V N) ∧ RS wr N V c' ∧ (∀ a, (c' a).length = n a) ∧ (∀ a, a < j → c' a = marks a (n a))) (fun i _ => N - (intOf i).toNat)
  case atStart => exact ⟨0, c, by omega, rfl, Mod.refl _ _, hl, hr, hn, fun a ha => by omega⟩
  case round =>
    obtain ⟨j, c1, hj, rfl, hm1, hl1, hr1, hn1, hk1⟩ := hrel
    by_cases hlt : j < N
    · have y1 : (j : Int) < N := by omega
      have hnj := hn2 j hlt
      obtain ⟨lb, rfl, hc⟩ := row_at hl1 hlt
      obtain ⟨ao, cap, hv, hv1, hv2⟩ := (hr1 j hlt).n (hn1 j)
      rw [hv] at hc
      have Hv := Lib.hid hv
      clear hv
      obtain ⟨m, hmj⟩ : ∃ m, m = n j := ⟨_, rfl⟩
      rw [← hmj] at hc Hv hnj hv1
      have Hmj := Lib.hid hmj
      clear hmj
      go_wp2_with fail
      go_loopw [4] (fun i wr => ∃ (i' : Nat) (c' : Nat → List UInt8), i' ≤ m ∧ i = .int .i64 i' ∧ Mod (LB V N) w wr ∧ Ow wr 33 1 (.slice (some ⟨lb, 0, none⟩) N lcap) N (rc V N) ∧ RS wr N V c' ∧ (∀ a, (c' a).length = n a) ∧ (∀ a, a < j → c' a = marks a (n a)) ∧ (c' j).take i' = marks j i') (fun i _ => m - (intOf i).toNat)
      case atStart => exact ⟨0, c1, by omega, rfl, hm1, hl1, hr1, hn1, hk1, rfl⟩
      case round =>
        obtain ⟨i, c2, hi, rfl, hm2, hl2, hr2, hn2', hk2, ht2⟩ := hrel
        obtain ⟨lb', hlb', hc2⟩ := row_at hl2 hlt
        injection hlb' with hlb'
        injection hlb' with hlb'
        subst hlb'
        rw [Hv.out] at hc2
        by_cases hil : i < m
        · have z1 : (i : Int) < m := by omega
          have ho := hr2 j hlt
          have hlm : (c2 j).length = m := by rw [hn2', Hmj.out]
          rw [Hv.out] at ho
          obtain ⟨g, rest, rfl, hB, hlen, hcl, _⟩ := ho.blk (by omega)
          have Hlm := Lib.hid hlm
          clear hlm hlen hcl
          go_wp2_with fail
          refine wp_region_T [⟨0, true, []⟩, ⟨1, true, []⟩, ⟨2, true, []⟩, ⟨3, true, []⟩, ⟨4, true, []⟩, ⟨5, true, []⟩, ⟨6, true, []⟩, ⟨7, false, [3]⟩, ⟨8, true, []⟩, ⟨9, false, []⟩] (by kernel_rfl) (by kernel_rfl) ?_
          iterate 7 (refine wpT_n rfl rfl (fun K hK => ?_); go_wp2_with fail)
          refine wpT_callh rfl rfl (fun K hK => ?_)
          go_wp2_with (go_at_call 34; refine (markByte_any j i _ (by omega) (by omega) (by omega) (by omega)).mono ?_; rintro e w3 ⟨rfl, rfl⟩)
          refine ⟨agains_same, ?_⟩
          refine wpT_n rfl rfl (fun K hK => ?_)
          go_wp2_with fail
          refine wpT_e0 rfl rfl (fun K hK => ?_)
          refine wp_store1 (by kernel_rfl) (by rfl) (u := .int .u8 ((mb j i).toNat : Nat)) (by rfl) ⟨rfl, rfl⟩ (hB.ext (Mod.drew [] wr)) (by rw [List.length_append, bv_length, Hlm.out]; omega) ?_
          intro w4 hm4 hB4
          refine hK _ _ ?_
          clear hK K
          refine wpT_nil ?_
          go_wp2_with fail
          go_roundw
          case rel =>
            rw [bv_set _ _ _ _ (by rw [Hlm.out]; exact hil)] at hB4
            have hmg : Mod (blks (V j)) wr w4 := by rw [Hv.out]; exact (Mod.drew [g] wr).trans hm4
            have ho4 : Ob w4 (V j) ((c2 j).set i (mb j i)) := by
              rw [Hv.out]
              have h5 := hr2 j hlt
              rw [Hv.out] at h5
              obtain ⟨g', rest', hg', hB', _, hcl', hcm'⟩ := h5.blk (by omega)
              injection hg' with hg'
              injection hg' with hg'
              subst hg'
              have hrr := (hB'.inj hB).2
              rw [List.append_cancel_left hrr] at hcl'
              unfold Ob
              rw [List.length_set, Hlm.out]
              exact Ow.of_blk hB4 hv1 hcm' (by rw [List.length_append, bv_length, List.length_set, Nat.mul_one, ← hcl', List.length_append, bv_length]) (by rw [bv_length, List.length_set, Hlm.out, Nat.mul_one])
            refine ⟨i + 1, upd c2 j ((c2 j).set i (mb j i)), by omega, by go_num, hm2.then hmg fun b hb => .inl (mem_LB hlt hb), rows_mod hl2 (hr2 j hlt) hmg, hr2.set hd hlt hmg ho4, fun a => ?_, fun a ha => ?_, ?_⟩
            · unfold upd
              split
              · rename_i h; rw [List.length_set, hn2', h]
              · exact hn2' a
            · unfold upd
              rw [if_neg (by omega)]
              exact hk2 a ha
            · unfold upd
              rw [if_pos rfl]
              exact take_marks ht2 (by rw [Hlm.out]; exact hil)
          case measure => simp [intOf]; omega
        · obtain rfl : i = m := by omega
          go_wp2_with fail
          go_roundw
          case rel =>
            refine ⟨j + 1, c2, by omega, by go_num, hm2, hl2, hr2, hn2', fun a ha => ?_⟩
            by_cases haj : a < j
            · exact hk2 a haj
            · obtain rfl : a = j := by omega
              rw [List.take_of_length_le (by rw [hn2', Hmj.out]; exact Nat.le_refl _)] at ht2
              rw [ht2, Hmj.out]
          case measure => simp [intOf]; omega
    · obtain rfl : j = N := by omega
      have hrM : RS wr j V (fun a => marks a (n a)) := fun a ha => by show Ob wr (V a) (marks a (n a)); rw [← hk1 a ha]; exact hr1 a ha
      clear hr1 hk1 hn1 hr hl hn
      go_wp2_with (with_reducible refine st_make ?_)
      refine StopOp.go rfl fun K hK => ?_
      refine wp_make (nl := j) (nc := j) stRow (by rfl) (by rfl) rfl rfl (Nat.le_refl _) (by omega) (by omega) ?_
      intro gb w2 hgb1 hgb2 hm2 hB2
      simp only [put_some, List.set_cons_succ, List.set_cons_zero]
      refine hK _ _ ?_
      clear hK K
      have hBH : ∃ H, Blk w2 gb 33 (rc H j) := ⟨fun _ => .slice none 0 0, by simpa [rc, Value.cells, List.flatten_replicate_singleton, List.map_const'] using hB2⟩
      obtain ⟨H0, hB2'⟩ := hBH
      have hVlt : ∀ a, a < j → ∀ b ∈ blks (V a), b < w2.heap.size := fun a ha b hb => Nat.lt_of_lt_of_le (Ow.lt (hrM a ha) b hb) hm2.size
      have hgbV : w.heap.size ≤ gb := Nat.le_trans hm1.size hgb1
      have hrM2 := hrM.ext hm2
      have hl2 := hl1.ext hm2
      have hm12 := hm1.ext hm2
      have hlgb : ∀ b ∈ blks (.slice lao j lcap), b < gb := fun b hb => Nat.lt_of_lt_of_le (Ow.lt hl1 b hb) hgb1
      clear hB2 hrM hl1 hm1 hm2
      go_wp2_with fail
      go_loopw [6] (fun i wr => ∃ (k : Nat) (H : Nat → Value), k ≤ j ∧ i = .int .i64 k ∧ Mod (LB V j) w wr ∧ w2.heap.size ≤ wr.heap.size ∧ Ow wr 33 1 (.slice lao j lcap) j (rc V j) ∧ RS wr j V (fun a => marks a (n a)) ∧ Blk wr gb 33 (rc H j) ∧ (∀ a, a < k → Ob wr (H a) (marks a (n a + 64)) ∧ ∀ b ∈ blks (H a), b ∈ blks (V a) ∨ w2.heap.size ≤ b)) (fun i _ => j - (intOf i).toNat)
      case atStart => exact ⟨0, H0, by omega, rfl, hm12, Nat.le_refl _, hl2, hrM2, hB2', fun a ha => by omega⟩
      case round =>
        obtain ⟨k, H, hk, rfl, hm3, hs3, hl3, hr3, hB3, hH3⟩ := hrel
        by_cases hlt : k < j
        · have y1 : (k : Int) < j := by omega
          have hnj := hn2 k hlt
          obtain ⟨lb, rfl, hc⟩ := row_at hl3 hlt
          obtain ⟨ao, cap, hv, hv1, hv2⟩ := (hr3 k hlt).n (marks_length _ _)
          rw [hv] at hc
          have Hv := Lib.hid hv
          clear hv
          obtain ⟨m, hmj⟩ : ∃ m, m = n k := ⟨_, rfl⟩
          rw [← hmj] at hc Hv hnj hv1
          have Hmj := Lib.hid hmj
          clear hmj
          go_wp2_with fail
          go_loopw [7, 8] (fun x i wr => ∃ (i' : Nat) (ao' : Option Addr) (cap' : Nat), i' ≤ 64 ∧ i = .int .i64 i' ∧ x = .slice ao' (m + i') cap' ∧ Mod (LB V j) w wr ∧ w2.heap.size ≤ wr.heap.size ∧ Ow wr 33 1 (.slice (some ⟨lb, 0, none⟩) j lcap) j (rc V j) ∧ RS wr j V (fun a => marks a (n a)) ∧ Blk wr gb 33 (rc H j) ∧ (∀ a, a < k → Ob wr (H a) (marks a (n a + 64)) ∧ ∀ b ∈ blks (H a), b ∉ blks (.slice ao' (m + i') cap')) ∧ Ob wr (.slice ao' (m + i') cap') (marks k (m + i')) ∧ (∀ b ∈ blks (.slice ao' (m + i') cap'), b ∈ blks (V k) ∨ w2.heap.size ≤ b)) (fun _ i _ => 64 - (intOf i).toNat)
          case atStart =>
            have ho := hr3 k hlt
            rw [Hv.out] at ho
            dsimp only at ho
            refine ⟨0, ao, cap, by omega, rfl, by rw [Nat.add_zero], hm3, hs3, hl3, hr3, hB3, fun a ha => ⟨(hH3 a ha).1, fun b hb hb2 => ?_⟩, by rw [Nat.add_zero, Hmj.out]; rw [Hmj.out] at ho; exact ho, fun b hb => .inl (by rw [Hv.out]; simpa using hb)⟩
            have hbk : b ∈ blks (V k) := by rw [Hv.out]; simpa using hb2
            rcases (hH3 a ha).2 b hb with h | h
            · exact hd a k (by omega) hlt (by omega) b h hbk
            · have := hVlt k hlt b hbk
              omega
          case round =>
            obtain ⟨i, ao4, cap4, hi, rfl, rfl, hm4, hs4, hl4, hr4, hB4, hH4, ho4, hb4⟩ := hrel
            obtain ⟨lb', hlb', hc4⟩ := row_at hl4 hlt
            injection hlb' with hlb'
            injection hlb' with hlb'
            subst hlb'
            rw [Hv.out] at hc4
            by_cases hil : i < 64
            · have z1 : (i : Int) < 64 := by omega
              go_wp2_with (first | (with_reducible refine st_bslice ?_) | (go_at_call 34; refine (markByte_any k ((m : Int) + i) _ (by omega) (by omega) (by omega) (by omega)).mono ?_; rintro e w3 ⟨rfl, rfl⟩))
              refine StopOp.go rfl fun K hK => ?_
              refine wp_bslice stB [.int .u8 ((mb k ((m : Int) + i)).toNat : Nat)] rfl (by decide) (by rfl) (by simp [Value.cells]) ?_
              intro q w5 hq1 hq2 hm5 hB5
              simp only [put_some, List.set_cons_succ, List.set_cons_zero]
              refine hK _ _ ?_
              clear hK K
              have hb5 : Bs w5 (.slice (some ⟨q, 0, none⟩) 1 1) [mb k ((m : Int) + i)] := Bs.of_blk (l := [mb k ((m : Int) + i)]) (rest := []) hB5 (by simp) (by omega)
              have ho5 : Ow w5 5 1 (.slice ao4 (m + i) cap4) (m + i) (bv (marks k (m + i))) := by
                have := ho4.ext hm5
                unfold Ob at this
                rwa [marks_length] at this
              go_wp2_with (with_reducible refine st_append ?_)
              refine StopOp.go rfl fun K hK => ?_
              refine wp_append_kp stB (by rfl) (by rfl) ho5 hb5 (bv_one _) (by simp; omega) (by simp; omega) (by simp) ?_
              intro v6 w6 ho6 hm6 hb6 hkp
              simp only [put_some, List.set_cons_succ, List.set_cons_zero]
              refine hK _ _ ?_
              clear hK K
              rw [List.length_singleton, Nat.add_assoc] at ho6
              obtain ⟨ao6, cap6, rfl, _, _⟩ := ho6.sl.form
              go_wp2_with fail
              go_roundw
              case rel =>
                have s5 := hm5.size
                have hL : ∀ b ∈ blks (.slice ao4 (m + i) cap4), b ∈ LB V j ∨ w.heap.size ≤ b := fun b hb => (hb4 b hb).imp (mem_LB hlt) fun h => by have := hm12.size; omega
                refine ⟨i + 1, ao6, cap6, by omega, by go_num, rfl, (hm4.ext hm5).then hm6 hL, by have := hm6.size; omega, rows_mod (hl4.ext hm5) (ho4.ext hm5) hm6, fun a ha => ?_, (hB4.ext hm5).mod hm6 (Ow.ne ho5 (hB4.ext hm5) ne_rows), fun a ha => ⟨?_, fun b hb hb2 => ?_⟩, ?_, fun b hb => ?_⟩
                · refine hkp _ _ _ ((hr4 a ha).ext hm5) ?_
                  by_cases hak : a = k
                  · left
                    subst hak
                    rw [marks_length, ← Hmj.out]
                    omega
                  · right
                    intro b hb hb2
                    rcases hb4 b hb2 with h | h
                    · exact hd a k ha hlt hak b hb h
                    · have := hVlt a ha b hb
                      omega
                · exact hkp _ _ _ ((hH4 a ha).1.ext hm5) (.inr (hH4 a ha).2)
                · rcases hb6 b hb2 with h | h
                  · exact (hH4 a ha).2 b hb h
                  · have := Ow.lt (hH4 a ha).1 b hb
                    omega
                · unfold Ob
                  rw [marks_length, ← Nat.add_assoc, marks_succ, bv_append]
                  exact ho6
                · rcases hb6 b hb with h | h
                  · exact hb4 b h
                  · right
                    omega
              case measure => simp [intOf]; omega
            · obtain rfl : i = 64 := by omega
              have cg := hB4.cell' (rc_at H hlt)
              go_wp2_with (with_reducible refine st_store ?_)
              refine StopOp.go rfl fun K hK => ?_
              refine wp_store1 (by kernel_rfl) (by rfl) (u := .slice ao4 (m + 64) cap4) (by rfl) ⟨rfl, rfl⟩ hB4 (by rw [rc_length]; exact hlt) ?_
              intro w7 hm7 hB7
              refine hK _ _ ?_
              clear hK K
              rw [rc_set _ _ hlt] at hB7
              go_wp2_with fail
              go_roundw
              case rel =>
                have hne : ∀ (u : Value) (l : List UInt8), Ob wr u l → Ob w7 u l := fun u l hu => Ow.mod hu hm7 fun b hb hg => Ow.ne hu hB4 ne_rows (by
                  have : b = gb := by simpa using hg
                  exact this ▸ hb)
                have hlb : lb ≠ gb := fun h => by
                  have h1 := hlgb lb (by simp [blks])
                  omega
                refine ⟨k + 1, _, by omega, by go_num, hm4.then hm7 (by simpa using .inr hgbV), by have := hm7.size; omega, Ow.mod hl4 hm7 (by simpa [blks] using hlb), fun a ha => hne _ _ (hr4 a ha), hB7, fun a ha => ?_⟩
                by_cases hak : a < k
                · rw [updV_ne _ _ hak]
                  exact ⟨hne _ _ (hH4 a hak).1, (hH3 a hak).2⟩
                · obtain rfl : a = k := by omega
                  rw [updV_eq, ← Hmj.out]
                  exact ⟨hne _ _ ho4, hb4⟩
              case measure => simp [intOf]; omega
        · obtain rfl : k = j := by omega
          clear hB2' hrM2 hm12
          obtain ⟨wr0, hwr0⟩ : ∃ x, x = wr := ⟨_, rfl⟩
          subst hwr0
          go_wp2_with fail
          go_loopw [9] (fun i wr => ∃ k' : Nat, k' ≤ k ∧ i = .int .i64 k' ∧ Mod (LB V k) w wr ∧ Mod [] wr0 wr) (fun i _ => k - (intOf i).toNat)
          case atStart => exact ⟨0, by omega, rfl, hm3, Mod.refl _ _⟩
          case round =>
            obtain ⟨a, ha, rfl, hm4, hx4⟩ := hrel
            by_cases hlt : a < k
            · have y1 : (a : Int) < k := by omega
              have hnj := hn2 a hlt
              have hl4 := hl3.ext hx4
              have ho := (hr3 a hlt).ext hx4
              have hoH := (hH3 a hlt).1.ext hx4
              have ho0 := hr3 a hlt
              have hoH0 := (hH3 a hlt).1
              obtain ⟨lb, rfl, hc⟩ := row_at hl4 hlt
              obtain ⟨ao, cap, hv, hv1, hv2⟩ := ho.n (marks_length _ _)
              obtain ⟨aoh, caph, hvh, hvh1, hvh2⟩ := hoH.n (marks_length _ _)
              have hch := (hB3.ext hx4).cell' (rc_at H hlt)
              rw [hv] at hc ho0
              rw [hvh] at hch hoH0
              dsimp only at ho0
              have Hv := Lib.hid (And.intro hv hvh)
              clear hv hvh ho hoH
              obtain ⟨m, hmj⟩ : ∃ m, m = n a := ⟨_, rfl⟩
              rw [← hmj] at hc hch ho0 hoH0 Hv hnj hv1 hvh1
              clear hmj
              go_wp2_with fail
              go_loopw [10] (fun i wr => ∃ i' : Nat, i' ≤ m + 64 ∧ i = .int .i64 i' ∧ Mod (LB V k) w wr ∧ Mod [] wr0 wr) (fun i _ => m + 64 - (intOf i).toNat)
              case atStart => exact ⟨0, by omega, rfl, hm4, hx4⟩
              case round =>
                obtain ⟨i, hi, rfl, hm5, hx5⟩ := hrel
                obtain ⟨lb', hlb', hc5⟩ := row_at (hl3.ext hx5) hlt
                injection hlb' with hlb'
                injection hlb' with hlb'
                subst hlb'
                have hch5 := (hB3.ext hx5).cell' (rc_at H hlt)
                rw [Hv.out.1] at hc5
                rw [Hv.out.2] at hch5
                have ho5 : Ob wr (.slice ao m cap) (marks a m) := by
                  have := ho0.ext hx5
                  exact this
                have hoH5 : Ob wr (.slice aoh (m + 64) caph) (marks a (m + 64)) := hoH0.ext hx5
                by_cases hil : i < m + 64
                · have z1 : (i : Int) < m + 64 := by omega
                  obtain ⟨bh, oh, rfl, hcH⟩ := hoH5.bs.byte (j := i) (by rw [marks_length]; exact hil)
                  rw [marks_at] at hcH
                  by_cases him : i < m
                  · have z2 : (i : Int) < m := by omega
                    obtain ⟨bv_, ov, rfl, hcV⟩ := ho5.bs.byte (j := i) (by rw [marks_length]; exact him)
                    rw [marks_at] at hcV
                    go_wp2_with fail
                    refine wp_region_T [⟨0, true, []⟩, ⟨1, true, []⟩, ⟨2, true, []⟩, ⟨3, true, []⟩, ⟨4, true, []⟩, ⟨5, true, []⟩, ⟨6, true, []⟩, ⟨7, true, []⟩, ⟨8, true, []⟩, ⟨9, false, [3, 6]⟩, ⟨10, true, []⟩, ⟨11, true, []⟩, ⟨12, true, []⟩, ⟨13, true, []⟩, ⟨14, true, []⟩, ⟨15, true, []⟩, ⟨16, true, []⟩, ⟨17, true, []⟩, ⟨18, true, []⟩, ⟨19, true, []⟩, ⟨20, true, []⟩, ⟨21, true, []⟩, ⟨22, true, []⟩, ⟨23, true, []⟩, ⟨24, true, []⟩, ⟨25, true, []⟩, ⟨26, true, []⟩, ⟨27, true, []⟩, ⟨28, true, []⟩, ⟨29, true, []⟩, ⟨30, false, [24, 27]⟩, ⟨31, true, []⟩, ⟨32, true, []⟩, ⟨33, true, []⟩, ⟨34, true, []⟩] (by kernel_rfl) (by kernel_rfl) ?_
                    iterate 9 (refine wpT_n rfl rfl (fun K hK => ?_); go_wp2_with fail)
                    refine wpT_callh rfl rfl (fun K hK => ?_)
                    go_wp2_with (go_at_call 34; refine (markByte_any a i _ (by omega) (by omega) (by omega) (by omega)).mono ?_; rintro e w3 ⟨rfl, rfl⟩)
                    refine ⟨agains_same, ?_⟩
                    iterate 3 (refine wpT_n rfl rfl (fun K hK => ?_); go_wp2_with fail)
                    iterate 8 (refine wpT_gq (gi := 12) rfl rfl rfl rfl rfl (fun K hK => ?_); go_wp2_with fail)
                    iterate 9 (refine wpT_gq (gi := 20) rfl rfl rfl rfl rfl (fun K hK => ?_); go_wp2_with fail)
                    refine wpT_gcallh (gi := 20) rfl rfl rfl rfl (fun K hK => ?_)
                    go_wp2_with (go_at_call 34; refine (markByte_any a i _ (by omega) (by omega) (by omega) (by omega)).mono ?_; rintro e w3 ⟨rfl, rfl⟩)
                    refine ⟨agains_same, ?_⟩
                    iterate 2 (refine wpT_gq (gi := 20) rfl rfl rfl rfl rfl (fun K hK => ?_); go_wp2_with fail)
                    refine wpT_gq (gi := 12) rfl rfl rfl rfl rfl (fun K hK => ?_)
                    go_wp2_with fail
                    refine wpT_n rfl rfl (fun K hK => ?_)
                    go_wp2_with fail
                    refine wpT_nil ?_
                    go_wp2_with fail
                    go_roundw
                    case rel => exact ⟨i + 1, by omega, by go_num, hm5.ext (Mod.drew [] _), hx5.ext (Mod.drew [] _)⟩
                    case measure => simp [intOf]; omega
                  · have z2 : decide (i < m) = false := decide_eq_false him
                    go_wp2_with fail
                    refine wp_region_T [⟨0, true, []⟩, ⟨1, true, []⟩, ⟨2, true, []⟩, ⟨3, true, []⟩, ⟨4, true, []⟩, ⟨5, true, []⟩, ⟨6, true, []⟩, ⟨7, true, []⟩, ⟨8, true, []⟩, ⟨9, false, [3, 6]⟩, ⟨10, true, []⟩, ⟨11, true, []⟩, ⟨12, true, []⟩, ⟨13, true, []⟩, ⟨14, true, []⟩, ⟨15, true, []⟩, ⟨16, true, []⟩, ⟨17, true, []⟩, ⟨18, true, []⟩, ⟨19, true, []⟩, ⟨20, true, []⟩, ⟨21, true, []⟩, ⟨22, true, []⟩, ⟨23, true, []⟩, ⟨24, true, []⟩, ⟨25, true, []⟩, ⟨26, true, []⟩, ⟨27, true, []⟩, ⟨28, true, []⟩, ⟨29, true, []⟩, ⟨30, false, [24, 27]⟩, ⟨31, true, []⟩, ⟨32, true, []⟩, ⟨33, true, []⟩, ⟨34, true, []⟩] (by kernel_rfl) (by kernel_rfl) ?_
                    iterate 9 (refine wpT_n rfl rfl (fun K hK => ?_); go_wp2_with fail)
                    refine wpT_callh rfl rfl (fun K hK => ?_)
                    go_wp2_with (go_at_call 34; refine (markByte_any a i _ (by omega) (by omega) (by omega) (by omega)).mono ?_; rintro e w3 ⟨rfl, rfl⟩)
                    refine ⟨agains_same, ?_⟩
                    iterate 3 (refine wpT_n rfl rfl (fun K hK => ?_); go_wp2_with fail)
                    iterate 8 (refine wpT_gq (gi := 12) rfl rfl rfl rfl rfl (fun K hK => ?_); go_wp2_with fail)
                    iterate 12 (refine wpT_gk (gi := 20) rfl rfl rfl rfl rfl rfl (fun K hK => ?_); go_wp2_with fail)
                    refine wpT_gq (gi := 12) rfl rfl rfl rfl rfl (fun K hK => ?_)
                    go_wp2_with fail
                    refine wpT_n rfl rfl (fun K hK => ?_)
                    go_wp2_with fail
                    refine wpT_nil ?_
                    go_wp2_with fail
                    go_roundw
                    case rel => exact ⟨i + 1, by omega, by go_num, hm5.ext (Mod.drew [] _), hx5.ext (Mod.drew [] _)⟩
                    case measure => simp [intOf]; omega
                · obtain rfl : i = m + 64 := by omega
                  go_wp2_with fail
                  go_roundw
                  case rel => exact ⟨a + 1, by omega, by go_num, hm5, hx5⟩
                  case measure => simp [intOf]; omega
            · obtain rfl : a = k := by omega
              have hl4 := hl3.ext hx4
              have hr4 : RS wr a V (fun x => marks x (n x)) := hr3.ext hx4
              have hB4 := hB3.ext hx4
              have hs4 := hx4.size
              have hs2 : w2.heap.size ≤ wr.heap.size := Nat.le_trans hs3 hs4
              clear hl3 hr3 hB3 hH3 hm3 hs3
              obtain ⟨wr4, hwr4⟩ : ∃ x, x = wr := ⟨_, rfl⟩
              subst hwr4
              go_wp2_with fail
              go_loopw [11] (fun i wr => ∃ (b : Nat) (H' : Nat → Value), b ≤ a ∧ i = .int .i64 b ∧ Mod (LB V a) w wr ∧ wr4.heap.size ≤ wr.heap.size ∧ Ow wr 33 1 (.slice lao a lcap) a (rc V a) ∧ RS wr a V (fun x => marks x (n x)) ∧ Blk wr gb 33 (rc H' a) ∧ (∀ x, x < b → Ob wr (H' x) (marks x (n x) ++ marks ((x : Int) + a) 64) ∧ ∀ y ∈ blks (H' x), y ∈ blks (V x) ∨ wr4.heap.size ≤ y)) (fun i _ => a - (intOf i).toNat)
              case atStart => exact ⟨0, H, by omega, rfl, hm4, Nat.le_refl _, hl4, hr4, hB4, fun x hx => by omega⟩
              case round =>
                obtain ⟨b, H5, hb, rfl, hm5, hs5, hl5, hr5, hB5, hH5⟩ := hrel
                by_cases hlt : b < a
                · have y1 : (b : Int) < a := by omega
                  have hnj := hn2 b hlt
                  obtain ⟨lb, rfl, hc⟩ := row_at hl5 hlt
                  obtain ⟨ao, cap, hv, hv1, hv2⟩ := (hr5 b hlt).n (marks_length _ _)
                  have hvb := hr5 b hlt
                  rw [hv] at hc hvb
                  dsimp only at hvb
                  have Hv := Lib.hid hv
                  clear hv
                  obtain ⟨m, hmj⟩ : ∃ m, m = n b := ⟨_, rfl⟩
                  rw [← hmj] at hc Hv hnj hv1 hvb
                  have Hmj := Lib.hid hmj
                  clear hmj
                  go_wp2_with (with_reducible refine st_make ?_)
                  refine StopOp.go rfl fun K hK => ?_
                  refine wp_make (nl := 64) (nc := 64) stB (by rfl) (by rfl) rfl rfl (Nat.le_refl _) (by omega) (by omega) ?_
                  intro q w6 hq1 hq2 hm6 hB6
                  simp only [put_some, List.set_cons_succ, List.set_cons_zero]
                  refine hK _ _ ?_
                  clear hK K
                  obtain ⟨wb, hwb⟩ : ∃ x, x = wr := ⟨_, rfl⟩
                  subst hwb
                  go_wp2_with fail
                  go_loopw [13] (fun i wr => ∃ i' : Nat, i' ≤ 64 ∧ i = .int .i64 i' ∧ Mod [] wb wr ∧ Blk wr q 5 (bv (marks ((b : Int) + a) i') ++ List.replicate (64 - i') (.int .u8 0))) (fun i _ => 64 - (intOf i).toNat)
                  case atStart => exact ⟨0, by omega, rfl, hm6, by simpa [marks, bv, Value.cells, List.flatten_replicate_singleton] using hB6⟩
                  case round =>
                    obtain ⟨i, hi, rfl, hm7, hB7⟩ := hrel
                    by_cases hil : i < 64
                    · have z1 : (i : Int) < 64 := by omega
                      go_wp2_with (first | (with_reducible refine st_store ?_) | (go_at_call 34; refine (markByte_any ((b : Int) + a) i _ (by omega) (by omega) (by omega) (by omega)).mono ?_; rintro e w3 ⟨rfl, rfl⟩))
                      refine StopOp.go rfl fun K hK => ?_
                      refine wp_store1 (by kernel_rfl) (by rfl) (u := .int .u8 ((mb ((b : Int) + a) i).toNat : Nat)) (by rfl) ⟨rfl, rfl⟩ hB7 (by simp [bv_length, marks_length]; omega) ?_
                      intro w8 hm8 hB8
                      refine hK _ _ ?_
                      clear hK K
                      rw [marks_set _ _ _ hil] at hB8
                      go_wp2_with fail
                      go_roundw
                      case rel => exact ⟨i + 1, by omega, by go_num, hm7.fresh hm8 (by simpa using hq1), hB8⟩
                      case measure => simp [intOf]; omega
                    · obtain rfl : i = 64 := by omega
                      have hq64 : Bs wr (.slice (some ⟨q, 0, none⟩) 64 64) (marks ((b : Int) + a) 64) := by
                        have := Bs.of_blk (l := marks ((b : Int) + a) 64) hB7 (c := 64) (by simp [marks_length]) (by omega)
                        rwa [marks_length] at this
                      have hc7 := (row_at (hl5.ext hm7) hlt)
                      obtain ⟨lb', hlb', hc8⟩ := hc7
                      injection hlb' with hlb'
                      injection hlb' with hlb'
                      subst hlb'
                      rw [Hv.out] at hc8
                      have hl7 := hl5.ext hm7
                      have hr7 := hr5.ext hm7
                      have hBg7 := hB5.ext hm7
                      have hvb7 : Ow wr 5 1 (.slice ao m cap) m (bv (marks b m)) := by
                        have := hvb.ext hm7
                        unfold Ob at this
                        rwa [marks_length] at this
                      have hq64' : Sl wr 1 (.slice (some ⟨q, 0, none⟩) 64 64) 64 (bv (marks ((b : Int) + a) 64)) := by
                        have := hq64
                        unfold Bs at this
                        rwa [marks_length] at this
                      clear hm6 hB6 hB7 hc
                      go_wp2_with (with_reducible refine st_append ?_)
                      refine StopOp.go rfl fun K hK => ?_
                      refine wp_append_kp stB (by rfl) (by rfl) hvb7 hq64' (bv_one _) (by omega) (by omega) (by omega) ?_
                      intro v9 w9 ho9 hm9 hb9 hkp
                      simp only [put_some, List.set_cons_succ, List.set_cons_zero]
                      refine hK _ _ ?_
                      clear hK K
                      obtain ⟨ao9, cap9, rfl, _, _⟩ := ho9.sl.form
                      have hBg9 := hBg7.mod hm9 (Ow.ne hvb7 hBg7 ne_rows)
                      have hl9 := rows_mod (u := .slice ao m cap) (l := marks b m) hl7 (by unfold Ob; rw [marks_length]; exact hvb7) hm9
                      have hLb : ∀ y ∈ blks (.slice ao m cap), y ∈ LB V a ∨ w.heap.size ≤ y := fun y hy => .inl (mem_LB hlt (by rw [Hv.out]; exact hy))
                      go_wp2_with (with_reducible refine st_store ?_)
                      refine StopOp.go rfl fun K hK => ?_
                      refine wp_store1 (by kernel_rfl) (by rfl) (u := .slice ao9 (m + 64) cap9) (by rfl) ⟨rfl, rfl⟩ hBg9 (by rw [rc_length]; exact hlt) ?_
                      intro w10 hm10 hB10
                      refine hK _ _ ?_
                      clear hK K
                      rw [rc_set _ _ hlt] at hB10
                      go_wp2_with fail
                      go_roundw
                      case rel =>
                        have s7 := hm7.size
                        have s9 := hm9.size
                        have s10 := hm10.size
                        have hne : ∀ (u : Value) (l : List UInt8), Ob w9 u l → Ob w10 u l := fun u l hu => Ow.mod hu hm10 fun y hy hg => Ow.ne hu hBg9 ne_rows (by
                          have : y = gb := by simpa using hg
                          exact this ▸ hy)
                        have hlb : lb ≠ gb := fun h => by
                          have h1 := hlgb lb (by simp [blks])
                          omega
                        have hVk : ∀ x, x < a → x ≠ b → ∀ y ∈ blks (V x), y ∉ blks (.slice ao m cap) := fun x hx hxb y hy hy2 => hd x b hx hlt hxb y hy (by rw [Hv.out]; exact hy2)
                        refine ⟨b + 1, _, by omega, by go_num, ((hm5.ext hm7).then hm9 hLb).then hm10 (by simpa using .inr hgbV), by omega, Ow.mod hl9 hm10 (by simpa [blks] using hlb), fun x hx => hne _ _ ?_, hB10, fun x hx => ?_⟩
                        · refine hkp _ _ _ (hr7 x hx) ?_
                          by_cases hxb : x = b
                          · left
                            subst hxb
                            rw [marks_length, ← Hmj.out]
                            exact Nat.le_refl _
                          · exact .inr (hVk x hx hxb)
                        · by_cases hxb : x < b
                          · rw [updV_ne _ _ hxb]
                            refine ⟨hne _ _ (hkp _ _ _ ((hH5 x hxb).1.ext hm7) (.inr fun y hy hy2 => ?_)), (hH5 x hxb).2⟩
                            rcases (hH5 x hxb).2 y hy with h | h
                            · exact hVk x (by omega) (by omega) y h hy2
                            · have h1 := Ow.lt (hr4 b hlt) y (by rw [Hv.out]; exact hy2)
                              omega
                          · obtain rfl : x = b := by omega
                            rw [updV_eq, ← Hmj.out]
                            refine ⟨hne _ _ ?_, fun y hy => ?_⟩
                            · unfold Ob
                              rw [bv_append, List.length_append, marks_length, marks_length]
                              exact ho9
                            · rcases hb9 y hy with h | h
                              · left
                                rw [Hv.out]
                                exact h
                              · right
                                omega
                      case measure => simp [intOf]; omega
                · obtain rfl : b = a := by omega
                  obtain ⟨wr5, hwr5⟩ : ∃ x, x = wr := ⟨_, rfl⟩
                  subst hwr5
                  go_wp2_with fail
                  go_loopw [14] (fun i wr => ∃ k' : Nat, k' ≤ b ∧ i = .int .i64 k' ∧ Mod [] wr5 wr) (fun i _ => b - (intOf i).toNat)
                  case atStart => exact ⟨0, by omega, rfl, Mod.refl _ _⟩
                  case round =>
                    obtain ⟨x, hx, rfl, hx6⟩ := hrel
                    by_cases hlt : x < b
                    · have y1 : (x : Int) < b := by omega
                      have hnj := hn2 x hlt
                      obtain ⟨lb, rfl, hc⟩ := row_at (hl5.ext hx6) hlt
                      have ho0 := hr5 x hlt
                      have hoH0 := (hH5 x hlt).1
                      obtain ⟨ao, cap, hv, hv1, hv2⟩ := ho0.n (marks_length _ _)
                      obtain ⟨aoh, caph, hvh, hvh1, hvh2⟩ := hoH0.n (n := n x + 64) (by rw [List.length_append, marks_length, marks_length])
                      have hch := (hB5.ext hx6).cell' (rc_at H5 hlt)
                      rw [hv] at hc ho0
                      rw [hvh] at hch hoH0
                      dsimp only at ho0
                      have Hv := Lib.hid (And.intro hv hvh)
                      clear hv hvh
                      obtain ⟨m, hmj⟩ : ∃ m, m = n x := ⟨_, rfl⟩
                      rw [← hmj] at hc hch ho0 hoH0 Hv hnj hv1 hvh1
                      clear hmj
                      go_wp2_with fail
                      go_loopw [15] (fun i wr => ∃ i' : Nat, i' ≤ m ∧ i = .int .i64 i' ∧ Mod [] wr5 wr) (fun i _ => m - (intOf i).toNat)
                      case atStart => exact ⟨0, by omega, rfl, hx6⟩
                      case round =>
                        obtain ⟨i, hi, rfl, hx7⟩ := hrel
                        obtain ⟨lb', hlb', hc7⟩ := row_at (hl5.ext hx7) hlt
                        injection hlb' with hlb'
                        injection hlb' with hlb'
                        subst hlb'
                        have hch7 := (hB5.ext hx7).cell' (rc_at H5 hlt)
                        rw [Hv.out.1] at hc7
                        rw [Hv.out.2] at hch7
                        by_cases hil : i < m
                        · have z1 : (i : Int) < m := by omega
                          have z3 : (i : Int) < m + 64 := by omega
                          obtain ⟨bh, oh, rfl, hcH⟩ := (hoH0.ext hx7).bs.byte (j := i) (by rw [List.length_append, marks_length]; omega)
                          rw [List.getElem_append_left (by rw [marks_length]; exact hil), marks_at] at hcH
                          obtain ⟨bv_, ov, rfl, hcV⟩ := (ho0.ext hx7).bs.byte (j := i) (by rw [marks_length]; exact hil)
                          rw [marks_at] at hcV
                          go_wp2_with fail
                          refine wp_region_T [⟨0, true, []⟩, ⟨1, true, []⟩, ⟨2, true, []⟩, ⟨3, true, []⟩, ⟨4, true, []⟩, ⟨5, true, []⟩, ⟨6, true, []⟩, ⟨7, true, []⟩, ⟨8, true, []⟩, ⟨9, false, [3, 6]⟩, ⟨10, true, []⟩, ⟨11, true, []⟩, ⟨12, true, []⟩, ⟨13, true, []⟩, ⟨14, true, []⟩, ⟨15, true, []⟩, ⟨16, true, []⟩, ⟨17, true, []⟩, ⟨18, true, []⟩, ⟨19, true, []⟩, ⟨20, true, []⟩, ⟨21, true, []⟩, ⟨22, false, [16, 19]⟩, ⟨23, true, []⟩, ⟨24, true, []⟩, ⟨25, true, []⟩] (by kernel_rfl) (by kernel_rfl) ?_
                          iterate 9 (refine wpT_n rfl rfl (fun K hK => ?_); go_wp2_with fail)
                          refine wpT_callh rfl rfl (fun K hK => ?_)
                          go_wp2_with (go_at_call 34; refine (markByte_any x i _ (by omega) (by omega) (by omega) (by omega)).mono ?_; rintro e w3 ⟨rfl, rfl⟩)
                          refine ⟨agains_same, ?_⟩
                          iterate 3 (refine wpT_n rfl rfl (fun K hK => ?_); go_wp2_with fail)
                          iterate 9 (refine wpT_gq (gi := 12) rfl rfl rfl rfl rfl (fun K hK => ?_); go_wp2_with fail)
                          refine wpT_gcallh (gi := 12) rfl rfl rfl rfl (fun K hK => ?_)
                          go_wp2_with (go_at_call 34; refine (markByte_any x i _ (by omega) (by omega) (by omega) (by omega)).mono ?_; rintro e w3 ⟨rfl, rfl⟩)
                          refine ⟨agains_same, ?_⟩
                          iterate 2 (refine wpT_gq (gi := 12) rfl rfl rfl rfl rfl (fun K hK => ?_); go_wp2_with fail)
                          refine wpT_n rfl rfl (fun K hK => ?_)
                          go_wp2_with fail
                          refine wpT_nil ?_
                          go_wp2_with fail
                          go_roundw
                          case rel => exact ⟨i + 1, by omega, by go_num, hx7.ext (Mod.drew [] _)⟩
                          case measure => simp [intOf]; omega
                        · obtain rfl : i = m := by omega
                          go_wp2_with fail
                          go_roundw
                          case rel => exact ⟨x + 1, by omega, by go_num, hx7⟩
                          case measure => simp [intOf]; omega
                    · obtain rfl : x = b := by omega
                      go_wp2_with fail
                      go_ret
                      exact ⟨rfl, hm5.ext hx6⟩
end Go.Proofs.YtfepggdljhiemaaGreatDoor

namespace Go.Proofs.YtfepggdljhiemaaGreatDoor
open Go.RowKit Gw

theorem stLimbs : ST Tryz.prog 104 199 (.slice none 0 0) 1 24 := ⟨Tryz.underlying104, by kernel_rfl, rfl, by decide⟩
set_option maxRecDepth 100000 in
set_option maxHeartbeats 2000000 in
theorem flatLimbs_nil (w : World) : Calls Tryz.prog 103 #[.slice none 0 0] w fun e w' => e = .returned (.bool true) ∧ Mod [] w w' := by
  go_enter Tryz.func103, Tryz.ntmps103
  go_wp2_with (first | (with_reducible refine wp_loop_once ?_) | (with_reducible refine st_make ?_))
  refine StopOp.go rfl fun K hK => ?_
  refine wp_make (nl := 0) (nc := 0) stLimbs (by rfl) (by rfl) rfl rfl (Nat.le_refl _) (by omega) (by omega) ?_
  intro b w1 hb1 hb2 hm1 hB1
  simp only [put_some, List.set_cons_succ, List.set_cons_zero]
  refine hK _ _ ?_
  clear hK K hB1
  go_wp2_with (with_reducible refine wp_loop_once ?_)
  go_ret
  exact ⟨rfl, hm1⟩
theorem stInts : ST Tryz.prog 105 200 (.slice none 0 0) 1 24 := ⟨Tryz.underlying105, by kernel_rfl, rfl, by decide⟩
set_option maxRecDepth 100000 in
set_option maxHeartbeats 2000000 in
theorem flatInts_nil (w : World) : Calls Tryz.prog 104 #[.slice none 0 0] w fun e w' => e = .returned (.bool true) ∧ Mod [] w w' := by
  go_enter Tryz.func104, Tryz.ntmps104
  go_wp2_with (first | (with_reducible refine wp_loop_once ?_) | (with_reducible refine st_make ?_))
  refine StopOp.go rfl fun K hK => ?_
  refine wp_make (nl := 0) (nc := 0) stInts (by rfl) (by rfl) rfl rfl (Nat.le_refl _) (by omega) (by omega) ?_
  intro b w1 hb1 hb2 hm1 hB1
  simp only [put_some, List.set_cons_succ, List.set_cons_zero]
  refine hK _ _ ?_
  clear hK K hB1
  go_wp2_with (with_reducible refine wp_loop_once ?_)
  go_ret
  exact ⟨rfl, hm1⟩
theorem stLongs : ST Tryz.prog 106 201 (.slice none 0 0) 1 24 := ⟨Tryz.underlying106, by kernel_rfl, rfl, by decide⟩
set_option maxRecDepth 100000 in
set_option maxHeartbeats 2000000 in
theorem flatLongs_nil (w : World) : Calls Tryz.prog 105 #[.slice none 0 0] w fun e w' => e = .returned (.bool true) ∧ Mod [] w w' := by
  go_enter Tryz.func105, Tryz.ntmps105
  go_wp2_with (first | (with_reducible refine wp_loop_once ?_) | (with_reducible refine st_make ?_))
  refine StopOp.go rfl fun K hK => ?_
  refine wp_make (nl := 0) (nc := 0) stLongs (by rfl) (by rfl) rfl rfl (Nat.le_refl _) (by omega) (by omega) ?_
  intro b w1 hb1 hb2 hm1 hB1
  simp only [put_some, List.set_cons_succ, List.set_cons_zero]
  refine hK _ _ ?_
  clear hK K hB1
  go_wp2_with (with_reducible refine wp_loop_once ?_)
  go_ret
  exact ⟨rfl, hm1⟩
theorem stTexts : ST Tryz.prog 107 202 (.slice none 0 0) 1 24 := ⟨Tryz.underlying107, by kernel_rfl, rfl, by decide⟩
set_option maxRecDepth 100000 in
set_option maxHeartbeats 2000000 in
theorem flatTexts_nil (w : World) : Calls Tryz.prog 106 #[.slice none 0 0] w fun e w' => e = .returned (.bool true) ∧ Mod [] w w' := by
  go_enter Tryz.func106, Tryz.ntmps106
  go_wp2_with (first | (with_reducible refine wp_loop_once ?_) | (with_reducible refine st_make ?_))
  refine StopOp.go rfl fun K hK => ?_
  refine wp_make (nl := 0) (nc := 0) stTexts (by rfl) (by rfl) rfl rfl (Nat.le_refl _) (by omega) (by omega) ?_
  intro b w1 hb1 hb2 hm1 hB1
  simp only [put_some, List.set_cons_succ, List.set_cons_zero]
  refine hK _ _ ?_
  clear hK K hB1
  go_wp2_with (with_reducible refine wp_loop_once ?_)
  go_ret
  exact ⟨rfl, hm1⟩
theorem stReals : ST Tryz.prog 108 204 (.slice none 0 0) 1 24 := ⟨Tryz.underlying108, by kernel_rfl, rfl, by decide⟩
set_option maxRecDepth 100000 in
set_option maxHeartbeats 2000000 in
theorem flatReals_nil (w : World) : Calls Tryz.prog 108 #[.slice none 0 0] w fun e w' => e = .returned (.bool true) ∧ Mod [] w w' := by
  go_enter Tryz.func108, Tryz.ntmps108
  go_wp2_with (first | (with_reducible refine wp_loop_once ?_) | (with_reducible refine st_make ?_))
  refine StopOp.go rfl fun K hK => ?_
  refine wp_make (nl := 0) (nc := 0) stReals (by rfl) (by rfl) rfl rfl (Nat.le_refl _) (by omega) (by omega) ?_
  intro b w1 hb1 hb2 hm1 hB1
  simp only [put_some, List.set_cons_succ, List.set_cons_zero]
  refine hK _ _ ?_
  clear hK K hB1
  go_wp2_with (with_reducible refine wp_loop_once ?_)
  go_ret
  exact ⟨rfl, hm1⟩
theorem stFates : ST Tryz.prog 109 56 (.slice none 0 0) 1 24 := ⟨Tryz.underlying109, by kernel_rfl, rfl, by decide⟩
set_option maxRecDepth 100000 in
set_option maxHeartbeats 2000000 in
theorem flatFates_nil (w : World) : Calls Tryz.prog 109 #[.slice none 0 0] w fun e w' => e = .returned (.bool true) ∧ Mod [] w w' := by
  go_enter Tryz.func109, Tryz.ntmps109
  go_wp2_with (first | (with_reducible refine wp_loop_once ?_) | (with_reducible refine st_make ?_))
  refine StopOp.go rfl fun K hK => ?_
  refine wp_make (nl := 0) (nc := 0) stFates (by rfl) (by rfl) rfl rfl (Nat.le_refl _) (by omega) (by omega) ?_
  intro b w1 hb1 hb2 hm1 hB1
  simp only [put_some, List.set_cons_succ, List.set_cons_zero]
  refine hK _ _ ?_
  clear hK K hB1
  go_wp2_with (with_reducible refine wp_loop_once ?_)
  go_ret
  exact ⟨rfl, hm1⟩
theorem stSpans : ST Tryz.prog 110 207 (.slice none 0 0) 1 24 := ⟨Tryz.underlying110, by kernel_rfl, rfl, by decide⟩
set_option maxRecDepth 100000 in
set_option maxHeartbeats 2000000 in
theorem flatSpans_nil (w : World) : Calls Tryz.prog 110 #[.slice none 0 0] w fun e w' => e = .returned (.bool true) ∧ Mod [] w w' := by
  go_enter Tryz.func110, Tryz.ntmps110
  go_wp2_with (first | (with_reducible refine wp_loop_once ?_) | (with_reducible refine st_make ?_))
  refine StopOp.go rfl fun K hK => ?_
  refine wp_make (nl := 0) (nc := 0) stSpans (by rfl) (by rfl) rfl rfl (Nat.le_refl _) (by omega) (by omega) ?_
  intro b w1 hb1 hb2 hm1 hB1
  simp only [put_some, List.set_cons_succ, List.set_cons_zero]
  refine hK _ _ ?_
  clear hK K hB1
  go_wp2_with (with_reducible refine wp_loop_once ?_)
  go_ret
  exact ⟨rfl, hm1⟩
theorem stCabins : ST Tryz.prog 111 210 (.slice none 0 0) 1 24 := ⟨Tryz.underlying111, by kernel_rfl, rfl, by decide⟩
set_option maxRecDepth 100000 in
set_option maxHeartbeats 2000000 in
theorem flatCabins_nil (w : World) : Calls Tryz.prog 112 #[.slice none 0 0] w fun e w' => e = .returned (.bool true) ∧ Mod [] w w' := by
  go_enter Tryz.func112, Tryz.ntmps112
  go_wp2_with (first | (with_reducible refine wp_loop_once ?_) | (with_reducible refine st_make ?_))
  refine StopOp.go rfl fun K hK => ?_
  refine wp_make (nl := 0) (nc := 0) stCabins (by rfl) (by rfl) rfl rfl (Nat.le_refl _) (by omega) (by omega) ?_
  intro b w1 hb1 hb2 hm1 hB1
  simp only [put_some, List.set_cons_succ, List.set_cons_zero]
  refine hK _ _ ?_
  clear hK K hB1
  go_wp2_with (with_reducible refine wp_loop_once ?_)
  go_ret
  exact ⟨rfl, hm1⟩
theorem stRecords : ST Tryz.prog 112 215 (.slice none 0 0) 1 24 := ⟨Tryz.underlying112, by kernel_rfl, rfl, by decide⟩
set_option maxRecDepth 100000 in
set_option maxHeartbeats 2000000 in
theorem flatRecords_nil (w : World) : Calls Tryz.prog 113 #[.slice none 0 0] w fun e w' => e = .returned (.bool true) ∧ Mod [] w w' := by
  go_enter Tryz.func113, Tryz.ntmps113
  go_wp2_with (first | (with_reducible refine wp_loop_once ?_) | (with_reducible refine st_make ?_))
  refine StopOp.go rfl fun K hK => ?_
  refine wp_make (nl := 0) (nc := 0) stRecords (by rfl) (by rfl) rfl rfl (Nat.le_refl _) (by omega) (by omega) ?_
  intro b w1 hb1 hb2 hm1 hB1
  simp only [put_some, List.set_cons_succ, List.set_cons_zero]
  refine hK _ _ ?_
  clear hK K hB1
  go_wp2_with (with_reducible refine wp_loop_once ?_)
  go_ret
  exact ⟨rfl, hm1⟩
theorem stBookings : ST Tryz.prog 113 220 (.slice none 0 0) 1 24 := ⟨Tryz.underlying113, by kernel_rfl, rfl, by decide⟩
set_option maxRecDepth 100000 in
set_option maxHeartbeats 2000000 in
theorem flatBookings_nil (w : World) : Calls Tryz.prog 114 #[.slice none 0 0] w fun e w' => e = .returned (.bool true) ∧ Mod [] w w' := by
  go_enter Tryz.func114, Tryz.ntmps114
  go_wp2_with (first | (with_reducible refine wp_loop_once ?_) | (with_reducible refine st_make ?_))
  refine StopOp.go rfl fun K hK => ?_
  refine wp_make (nl := 0) (nc := 0) stBookings (by rfl) (by rfl) rfl rfl (Nat.le_refl _) (by omega) (by omega) ?_
  intro b w1 hb1 hb2 hm1 hB1
  simp only [put_some, List.set_cons_succ, List.set_cons_zero]
  refine hK _ _ ?_
  clear hK K hB1
  go_wp2_with (with_reducible refine wp_loop_once ?_)
  go_ret
  exact ⟨rfl, hm1⟩
theorem stRequests : ST Tryz.prog 114 224 (.slice none 0 0) 1 24 := ⟨Tryz.underlying114, by kernel_rfl, rfl, by decide⟩
set_option maxRecDepth 100000 in
set_option maxHeartbeats 2000000 in
theorem flatRequests_nil (w : World) : Calls Tryz.prog 115 #[.slice none 0 0] w fun e w' => e = .returned (.bool true) ∧ Mod [] w w' := by
  go_enter Tryz.func115, Tryz.ntmps115
  go_wp2_with (first | (with_reducible refine wp_loop_once ?_) | (with_reducible refine st_make ?_))
  refine StopOp.go rfl fun K hK => ?_
  refine wp_make (nl := 0) (nc := 0) stRequests (by rfl) (by rfl) rfl rfl (Nat.le_refl _) (by omega) (by omega) ?_
  intro b w1 hb1 hb2 hm1 hB1
  simp only [put_some, List.set_cons_succ, List.set_cons_zero]
  refine hK _ _ ?_
  clear hK K hB1
  go_wp2_with (with_reducible refine wp_loop_once ?_)
  go_ret
  exact ⟨rfl, hm1⟩
theorem stReplies : ST Tryz.prog 115 229 (.slice none 0 0) 1 24 := ⟨Tryz.underlying115, by kernel_rfl, rfl, by decide⟩
set_option maxRecDepth 100000 in
set_option maxHeartbeats 2000000 in
theorem flatReplies_nil (w : World) : Calls Tryz.prog 116 #[.slice none 0 0] w fun e w' => e = .returned (.bool true) ∧ Mod [] w w' := by
  go_enter Tryz.func116, Tryz.ntmps116
  go_wp2_with (first | (with_reducible refine wp_loop_once ?_) | (with_reducible refine st_make ?_))
  refine StopOp.go rfl fun K hK => ?_
  refine wp_make (nl := 0) (nc := 0) stReplies (by rfl) (by rfl) rfl rfl (Nat.le_refl _) (by omega) (by omega) ?_
  intro b w1 hb1 hb2 hm1 hB1
  simp only [put_some, List.set_cons_succ, List.set_cons_zero]
  refine hK _ _ ?_
  clear hK K hB1
  go_wp2_with (with_reducible refine wp_loop_once ?_)
  go_ret
  exact ⟨rfl, hm1⟩
theorem stFares : ST Tryz.prog 116 233 (.slice none 0 0) 1 24 := ⟨Tryz.underlying116, by kernel_rfl, rfl, by decide⟩
set_option maxRecDepth 100000 in
set_option maxHeartbeats 2000000 in
theorem flatFares_nil (w : World) : Calls Tryz.prog 117 #[.slice none 0 0] w fun e w' => e = .returned (.bool true) ∧ Mod [] w w' := by
  go_enter Tryz.func117, Tryz.ntmps117
  go_wp2_with (first | (with_reducible refine wp_loop_once ?_) | (with_reducible refine st_make ?_))
  refine StopOp.go rfl fun K hK => ?_
  refine wp_make (nl := 0) (nc := 0) stFares (by rfl) (by rfl) rfl rfl (Nat.le_refl _) (by omega) (by omega) ?_
  intro b w1 hb1 hb2 hm1 hB1
  simp only [put_some, List.set_cons_succ, List.set_cons_zero]
  refine hK _ _ ?_
  clear hK K hB1
  go_wp2_with (with_reducible refine wp_loop_once ?_)
  go_ret
  exact ⟨rfl, hm1⟩
theorem stWaits : ST Tryz.prog 117 238 (.slice none 0 0) 1 24 := ⟨Tryz.underlying117, by kernel_rfl, rfl, by decide⟩
set_option maxRecDepth 100000 in
set_option maxHeartbeats 2000000 in
theorem flatWaits_nil (w : World) : Calls Tryz.prog 118 #[.slice none 0 0] w fun e w' => e = .returned (.bool true) ∧ Mod [] w w' := by
  go_enter Tryz.func118, Tryz.ntmps118
  go_wp2_with (first | (with_reducible refine wp_loop_once ?_) | (with_reducible refine st_make ?_))
  refine StopOp.go rfl fun K hK => ?_
  refine wp_make (nl := 0) (nc := 0) stWaits (by rfl) (by rfl) rfl rfl (Nat.le_refl _) (by omega) (by omega) ?_
  intro b w1 hb1 hb2 hm1 hB1
  simp only [put_some, List.set_cons_succ, List.set_cons_zero]
  refine hK _ _ ?_
  clear hK K hB1
  go_wp2_with (with_reducible refine wp_loop_once ?_)
  go_ret
  exact ⟨rfl, hm1⟩
theorem stLines : ST Tryz.prog 118 242 (.slice none 0 0) 1 24 := ⟨Tryz.underlying118, by kernel_rfl, rfl, by decide⟩
set_option maxRecDepth 100000 in
set_option maxHeartbeats 2000000 in
theorem flatLines_nil (w : World) : Calls Tryz.prog 119 #[.slice none 0 0] w fun e w' => e = .returned (.bool true) ∧ Mod [] w w' := by
  go_enter Tryz.func119, Tryz.ntmps119
  go_wp2_with (first | (with_reducible refine wp_loop_once ?_) | (with_reducible refine st_make ?_))
  refine StopOp.go rfl fun K hK => ?_
  refine wp_make (nl := 0) (nc := 0) stLines (by rfl) (by rfl) rfl rfl (Nat.le_refl _) (by omega) (by omega) ?_
  intro b w1 hb1 hb2 hm1 hB1
  simp only [put_some, List.set_cons_succ, List.set_cons_zero]
  refine hK _ _ ?_
  clear hK K hB1
  go_wp2_with (with_reducible refine wp_loop_once ?_)
  go_ret
  exact ⟨rfl, hm1⟩
theorem stTurns : ST Tryz.prog 119 246 (.slice none 0 0) 1 24 := ⟨Tryz.underlying119, by kernel_rfl, rfl, by decide⟩
set_option maxRecDepth 100000 in
set_option maxHeartbeats 2000000 in
theorem flatTurns_nil (w : World) : Calls Tryz.prog 120 #[.slice none 0 0] w fun e w' => e = .returned (.bool true) ∧ Mod [] w w' := by
  go_enter Tryz.func120, Tryz.ntmps120
  go_wp2_with (first | (with_reducible refine wp_loop_once ?_) | (with_reducible refine st_make ?_))
  refine StopOp.go rfl fun K hK => ?_
  refine wp_make (nl := 0) (nc := 0) stTurns (by rfl) (by rfl) rfl rfl (Nat.le_refl _) (by omega) (by omega) ?_
  intro b w1 hb1 hb2 hm1 hB1
  simp only [put_some, List.set_cons_succ, List.set_cons_zero]
  refine hK _ _ ?_
  clear hK K hB1
  go_wp2_with (with_reducible refine wp_loop_once ?_)
  go_ret
  exact ⟨rfl, hm1⟩
theorem stCommands : ST Tryz.prog 120 250 (.slice none 0 0) 1 24 := ⟨Tryz.underlying120, by kernel_rfl, rfl, by decide⟩
set_option maxRecDepth 100000 in
set_option maxHeartbeats 2000000 in
theorem flatCommands_nil (w : World) : Calls Tryz.prog 121 #[.slice none 0 0] w fun e w' => e = .returned (.bool true) ∧ Mod [] w w' := by
  go_enter Tryz.func121, Tryz.ntmps121
  go_wp2_with (first | (with_reducible refine wp_loop_once ?_) | (with_reducible refine st_make ?_))
  refine StopOp.go rfl fun K hK => ?_
  refine wp_make (nl := 0) (nc := 0) stCommands (by rfl) (by rfl) rfl rfl (Nat.le_refl _) (by omega) (by omega) ?_
  intro b w1 hb1 hb2 hm1 hB1
  simp only [put_some, List.set_cons_succ, List.set_cons_zero]
  refine hK _ _ ?_
  clear hK K hB1
  go_wp2_with (with_reducible refine wp_loop_once ?_)
  go_ret
  exact ⟨rfl, hm1⟩
end Go.Proofs.YtfepggdljhiemaaGreatDoor

namespace Go.Proofs.YtfepggdljhiemaaGreatDoor
open Go.RowKit Gw

theorem ne_bag : 33 ≠ 122 := by decide
theorem ne_bag2 : 5 ≠ 122 := by decide
theorem rc_succ (V : Nat → Value) (k : Nat) : rc V (k + 1) = rc V k ++ [V k] := by simp [rc, List.range_succ]

end Go.Proofs.YtfepggdljhiemaaGreatDoor

/-! Slices of bytes that lie apart, as a list; ApartBytes of them. -/
namespace Go.Proofs.YtfepggdljhiemaaGreatDoor
open Go.RowKit Gw

section
variable {w w' : World} {base : Nat} {L A B : List (Value × List UInt8)} {v : Value} {l : List UInt8}
theorem getD_mem {α : Type} (d : α) (l : List α) (a : Nat) (h : a < l.length) : l.getD a d ∈ l := by
  rw [List.getD_eq_getElem?_getD, List.getElem?_eq_getElem h]
  exact List.getElem_mem h
theorem Fam.dj' (h : Fam w base L) (d : Value × List UInt8) : Dj L.length fun a => (L.getD a d).1 := by
  have hp := List.pairwise_iff_getElem.1 h.dj
  intro a b ha hb hab k hk hk2
  have ea : L.getD a d = L[a] := by rw [List.getD_eq_getElem?_getD, List.getElem?_eq_getElem ha]; rfl
  have eb : L.getD b d = L[b] := by rw [List.getD_eq_getElem?_getD, List.getElem?_eq_getElem hb]; rfl
  dsimp only at hk hk2
  rw [ea] at hk
  rw [eb] at hk2
  rcases Nat.lt_or_gt_of_ne hab with h1 | h1
  · exact hp a b ha hb h1 k hk hk2
  · exact hp b a hb ha h1 k hk2 hk
theorem rc_getD (d : Value × List UInt8) (L : List (Value × List UInt8)) : rc (fun a => (L.getD a d).1) L.length = L.map (·.1) := by
  apply List.ext_getElem?
  intro i
  by_cases hi : i < L.length
  · rw [rc_at _ hi, List.getElem?_map, List.getElem?_eq_getElem hi, List.getD_eq_getElem?_getD, List.getElem?_eq_getElem hi]
    rfl
  · rw [List.getElem?_eq_none (by rw [rc_length]; omega), List.getElem?_eq_none (by simp; omega)]
end

/-- the walk of Pick -/
def pick (x n : Int) : Int := if n < 1 then 0 else if x.tmod n < 0 then x.tmod n + n else x.tmod n
theorem pick_ge (x n : Int) : 0 ≤ pick x n := by
  unfold pick
  split
  · exact Int.le_refl _
  · rename_i h
    have := Int.lt_tmod_of_pos x (show 0 < n by omega)
    split <;> omega
theorem pick_lt (x n : Int) (h : 1 ≤ n) : pick x n < n := by
  unfold pick
  rw [if_neg (by omega)]
  have := Int.tmod_lt_of_pos x (show 0 < n by omega)
  split <;> omega
set_option maxHeartbeats 1000000 in
theorem pick_any (x n : Int) (w : World) (h1 : -9223372036854775808 ≤ x) (h2 : x ≤ 9223372036854775807) (h3 : -9223372036854775808 ≤ n) (h4 : n ≤ 9223372036854775807) :
    Calls Tryz.prog 26 #[.int .i64 x, .int .i64 n] w fun e w' => e = .returned (.int .i64 (pick x n)) ∧ w = w' := by
  by_cases hn : n < 1
  · have hp : pick x n = 0 := by unfold pick; rw [if_pos hn]
    rw [hp]
    clear hp
    go_enter Tryz.func26, Tryz.ntmps26
    go_wp2_with fail
    go_ret
    exact ⟨rfl, rfl⟩
  · have hm1 := Int.lt_tmod_of_pos x (show 0 < n by omega)
    have hm2 := Int.tmod_lt_of_pos x (show 0 < n by omega)
    have hn1 : 1 ≤ n := by omega
    by_cases hr : x.tmod n < 0
    · have hp : pick x n = x.tmod n + n := by unfold pick; rw [if_neg hn, if_pos hr]
      rw [hp]
      clear hp hn
      go_enter Tryz.func26, Tryz.ntmps26
      go_wp2_with fail
      go_ret
      exact ⟨rfl, rfl⟩
    · have hp : pick x n = x.tmod n := by unfold pick; rw [if_neg hn, if_neg hr]
      rw [hp]
      clear hp hn
      go_enter Tryz.func26, Tryz.ntmps26
      go_wp2_with fail
      go_ret
      exact ⟨rfl, rfl⟩
end Go.Proofs.YtfepggdljhiemaaGreatDoor
