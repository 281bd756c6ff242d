import Derived.Test.YtfcoaiggpcjldaaRqH
/-! What is read of bytes is written as these, and what is written is read: plain law. -/
set_option linter.unusedVariables false
set_option linter.unusedSimpArgs false
set_option maxRecDepth 100000
namespace Go.Proofs.Ytfcoaiggpcjldaa
open Go.RowKit Gw

theorem low_cons (n k : Nat) : low n (k + 1) = UInt8.ofNat n :: low (n / 256) k := by
  unfold low
  rw [List.range_succ_eq_map, List.map_cons, List.map_map]
  congr 1
  · simp
  · apply List.map_congr_left
    intro i _
    simp [Function.comp, Nat.pow_succ, Nat.div_div_eq_div_mul, Nat.mul_comm]
theorem low_val : ∀ (l : List UInt8), low (val l) l.length = l
  | [] => rfl
  | b :: l => by
    have hb := b.toNat_lt
    rw [List.length_cons, low_cons, val_cons]
    rw [show (b.toNat + 256 * val l) / 256 = val l by omega, low_val l]
    congr 1
    apply UInt8.toNat_inj.1
    rw [UInt8.toNat_ofNat']
    omega
theorem val_low' : ∀ (k n : Nat), n < 256 ^ k → val (low n k) = n
  | 0, n, h => by simp at h; subst h; rfl
  | k + 1, n, h => by
    rw [low_cons, val_cons, val_low' k (n / 256) (by rw [Nat.pow_succ] at h; omega), UInt8.toNat_ofNat']
    omega

theorem tk_app (x y : List UInt8) (w : Nat) (h : x.length = w) : tkGot (x ++ y) 0 w = x ∧ tkRest (x ++ y) 0 w = y ∧ tkErr (x ++ y) 0 w = 0 := by
  subst h
  have h1 : (0 : Int) ≤ (x.length : Int) ∧ (x.length : Int) ≤ ((x ++ y).length : Int) := by rw [List.length_append]; omega
  refine ⟨?_, ?_, ?_⟩
  · unfold tkGot; rw [if_pos ⟨rfl, h1.1, h1.2⟩]; simp
  · unfold tkRest; rw [if_pos rfl, if_pos h1]; simp
  · unfold tkErr; rw [if_pos rfl, if_neg (by omega), if_neg (by omega)]
theorem tk_inv (l : List UInt8) (e : Int) (w : Nat) (h : tkErr l e w = 0) : e = 0 ∧ ∃ x y, l = x ++ y ∧ x.length = w := by
  unfold tkErr at h
  by_cases he : e = 0
  · rw [if_pos he, if_neg (by omega)] at h
    by_cases hl : (l.length : Int) < w
    · rw [if_pos hl] at h; cases h
    · exact ⟨he, l.take w, l.drop w, by rw [List.take_append_drop], by rw [List.length_take]; omega⟩
  · rw [if_neg he] at h; exact absurd h he

/-- how wide a field is, and a request with a field set to what was read -/
def wd (i : Int) : Nat := if i = 0 then 4 else if i = 1 then 2 else 8
def setF (q : Rq) (i : Int) (n : Nat) : Rq := if i = 0 then { q with id := n } else if i = 1 then { q with seat := n } else { q with ttl := wrap64 n }
theorem step_app (q : Rq) (x y : List UInt8) (i : Int) (h : x.length = wd i) : stepG ⟨q, x ++ y, 0⟩ i = ⟨setF q i (val x), y, 0⟩ := by
  unfold stepG setF wd at *
  by_cases h0 : i = 0
  · rw [if_pos h0] at h ⊢
    obtain ⟨h1, h2, h3⟩ := tk_app x y 4 h
    simp only [got, h0, if_true]
    rw [h1, h2, h3]
  · rw [if_neg h0] at h ⊢
    by_cases h1 : i = 1
    · rw [if_pos h1] at h ⊢
      obtain ⟨g1, g2, g3⟩ := tk_app x y 2 h
      simp only [got, if_neg h0, if_pos h1]
      rw [g1, g2, g3]
    · rw [if_neg h1] at h ⊢
      obtain ⟨g1, g2, g3⟩ := tk_app x y 8 h
      simp only [got, if_neg h0, if_neg h1]
      rw [g1, g2, g3]
theorem step_inv (s : Ps) (i : Int) (h : (stepG s i).e = 0) : s.e = 0 ∧ ∃ x y, s.l = x ++ y ∧ x.length = wd i := by
  unfold stepG wd at *
  by_cases h0 : i = 0
  · rw [if_pos h0] at h ⊢
    exact tk_inv _ _ _ h
  · rw [if_neg h0] at h ⊢
    by_cases h1 : i = 1
    · rw [if_pos h1] at h ⊢
      exact tk_inv _ _ _ h
    · rw [if_neg h1] at h ⊢
      exact tk_inv _ _ _ h
theorem parse0_app (x y z : List UInt8) (hx : x.length = 1) (hy : y.length = 4) : parse0 (x ++ (y ++ z)) = ⟨⟨val x, val y, 0, 0, 0⟩, z, 0⟩ := by
  obtain ⟨a1, a2, a3⟩ := tk_app x (y ++ z) 1 hx
  obtain ⟨b1, b2, b3⟩ := tk_app y z 4 hy
  unfold parse0 got
  dsimp only
  rw [a1, a2, a3, b1, b2, b3]
theorem parse0_inv (b : List UInt8) (h : (parse0 b).e = 0) : ∃ x y z, b = x ++ (y ++ z) ∧ x.length = 1 ∧ y.length = 4 := by
  obtain ⟨h1, y, z, h2, h3⟩ := tk_inv _ _ _ h
  obtain ⟨_, x, l, h4, h5⟩ := tk_inv _ _ _ h1
  subst h4
  rw [(tk_app x l 1 h5).2.1] at h2
  subst h2
  exact ⟨x, y, z, rfl, h5, h3⟩
/-- the fields that were read, out of what was left -/
theorem fold_inv : ∀ (H : List Int) (s : Ps), (H.foldl stepG s).e = 0 → s.e = 0 ∧ ∃ (F : List (List UInt8)) (z : List UInt8), s.l = F.flatten ++ z ∧ F.length = H.length ∧ (∀ (i : Nat) (h1 : i < F.length) (h2 : i < H.length), F[i].length = wd H[i]) ∧ H.foldl stepG s = ⟨(H.zip F).foldl (fun q p => setF q p.1 (val p.2)) s.q, z, 0⟩
  | [], ⟨q, l, e⟩, h => by
    dsimp only [List.foldl_nil] at h
    subst h
    exact ⟨rfl, [], l, by simp, rfl, fun i h1 => by simp at h1, rfl⟩
  | i :: H, ⟨q, l, e⟩, h => by
    rw [List.foldl_cons] at h
    obtain ⟨h1, F, z, h2, h3, h4, h5⟩ := fold_inv H _ h
    obtain ⟨he, x, y, hl, hx⟩ := step_inv _ _ h1
    dsimp only at he hl
    subst he hl
    rw [step_app q x y i hx] at h2 h5
    refine ⟨rfl, x :: F, z, by dsimp only at h2 ⊢; rw [h2]; simp, by simp [h3], fun j a1 a2 => ?_, ?_⟩
    · cases j with
      | zero => exact hx
      | succ j => simpa using h4 j (by simpa using a1) (by simpa using a2)
    · rw [List.foldl_cons, step_app q x y i hx, h5]
      rfl

theorem has_cases (k : Int) : has k = [] ∨ has k = [0] ∨ has k = [1] ∨ has k = [2] ∨ has k = [0, 1] ∨ has k = [1, 2] := by
  unfold has
  repeat' split
  all_goals simp
theorem fits0 {q : Rq} (h : mayB q = true) : q.id = 0 ∨ (0 : Int) ∈ has q.kind := by
  unfold mayB at h
  simp only [Bool.and_eq_true] at h
  have := h.1.1.2
  unfold fits zeroF at this
  simp only [Bool.or_eq_true, decide_eq_true_eq, beq_iff_eq] at this
  exact this.imp (fun h => by omega) id
theorem fits1 {q : Rq} (h : mayB q = true) : q.seat = 0 ∨ (1 : Int) ∈ has q.kind := by
  unfold mayB at h
  simp only [Bool.and_eq_true] at h
  have := h.1.2
  unfold fits zeroF at this
  simp only [Bool.or_eq_true, decide_eq_true_eq, beq_iff_eq] at this
  exact this
theorem fits2 {q : Rq} (h : mayB q = true) : q.ttl = 0 ∨ (2 : Int) ∈ has q.kind := by
  unfold mayB at h
  simp only [Bool.and_eq_true] at h
  have := h.2
  unfold fits zeroF at this
  simp only [Bool.or_eq_true, decide_eq_true_eq, beq_iff_eq] at this
  exact this
theorem mayB_of {q : Rq} (h1 : 1 ≤ q.kind ∧ q.kind ≤ 10) (h2 : 0 ≤ q.seat ∧ q.seat ≤ 65535 ∧ 0 ≤ q.ttl) (a : q.id = 0 ∨ (0 : Int) ∈ has q.kind) (b : q.seat = 0 ∨ (1 : Int) ∈ has q.kind) (c : q.ttl = 0 ∨ (2 : Int) ∈ has q.kind) : mayB q = true := by
  unfold mayB preB okB fits zeroF
  simp only [Bool.and_eq_true, Bool.or_eq_true, decide_eq_true_eq, beq_iff_eq]
  exact ⟨⟨⟨⟨h1, h2⟩, a.imp (fun h => by omega) id⟩, b⟩, c⟩
theorem wrap64_in {n : Nat} (h : (n : Int) ≤ 9223372036854775807) : wrap64 n = n := by
  unfold wrap64; omega
theorem wrap64_pos {n : Nat} (h1 : n < 18446744073709551616) (h : 0 ≤ wrap64 n) : wrap64 n = n ∧ (n : Int) ≤ 9223372036854775807 := by
  unfold wrap64 at h ⊢; omega
theorem set0 (p q : Rq) (h : q.ok) : setF p 0 (val (fieldB q 0)) = { p with id := q.id } := by
  unfold setF fieldB
  rw [if_pos rfl, if_pos rfl, val_low' 4 _ (by have := h.i; omega)]
theorem set1 (p q : Rq) (h : 0 ≤ q.seat) (h2 : q.seat ≤ 65535) : setF p 1 (val (fieldB q 1)) = { p with seat := q.seat } := by
  have e : fieldB q 1 = low q.seat.toNat 2 := by simp [fieldB]
  have e2 : ∀ n, setF p 1 n = { p with seat := n } := fun n => by simp [setF]
  rw [e, e2, val_low' 2 _ (by omega), Int.toNat_of_nonneg h]
theorem set2 (p q : Rq) (h : q.ok) (h2 : 0 ≤ q.ttl) : setF p 2 (val (fieldB q 2)) = { p with ttl := q.ttl } := by
  have hh := h.l2
  have e : ((q.ttl.toNat : Nat) : Int) = q.ttl := Int.toNat_of_nonneg h2
  have e1 : fieldB q 2 = low q.ttl.toNat 8 := by simp [fieldB]
  have e2 : ∀ n : Nat, setF p 2 n = { p with ttl := wrap64 n } := fun n => by simp [setF]
  rw [e1, e2, val_low' 8 _ (by omega), wrap64_in (by omega), e]
theorem fieldB_len (q : Rq) (i : Int) : (fieldB q i).length = wd i := by
  unfold fieldB wd
  repeat' split
  all_goals simp [low_length]
theorem parse0_of (q : Rq) (h : q.ok) (h1 : 1 ≤ q.kind ∧ q.kind ≤ 10) : parse0 (bytesOf q) = ⟨⟨q.kind, q.tag, 0, 0, 0⟩, (has q.kind).flatMap (fieldB q), 0⟩ := by
  unfold bytesOf
  rw [List.append_assoc, parse0_app _ _ _ (low_length _ _) (low_length _ _), val_low' 1 _ (by omega), val_low' 4 _ (by have := h.t; omega), Int.toNat_of_nonneg (by omega)]
/-- What is written is read as it was. -/
theorem getS_of (q : Rq) (h : q.ok) (hm : mayB q = true) : getS (bytesOf q) = ⟨q, [], 0⟩ := by
  obtain ⟨k1, k2, s1, s2, t1⟩ := mayB_parts hm
  unfold getS
  rw [parse0_of q h ⟨k1, k2⟩]
  dsimp only
  have f0 := fits0 hm
  have f1 := fits1 hm
  have f2 := fits2 hm
  have L := fieldB_len q
  rcases has_cases q.kind with e | e | e | e | e | e <;> rw [e] at f0 f1 f2 ⊢ <;> simp at f0 f1 f2
  · obtain ⟨k, t, i, s, l⟩ := q
    dsimp only at f0 f1 f2
    subst f0 f1 f2
    rfl
  · rw [List.flatMap_cons, List.foldl_cons, step_app _ _ _ _ (L 0), set0 _ _ h]
    obtain ⟨k, t, i, s, l⟩ := q
    dsimp only at f1 f2
    subst f1 f2
    rfl
  · rw [List.flatMap_cons, List.foldl_cons, step_app _ _ _ _ (L 1), set1 _ _ s1 s2]
    obtain ⟨k, t, i, s, l⟩ := q
    dsimp only at f0 f2
    subst f0 f2
    rfl
  · rw [List.flatMap_cons, List.foldl_cons, step_app _ _ _ _ (L 2), set2 _ _ h t1]
    obtain ⟨k, t, i, s, l⟩ := q
    dsimp only at f0 f1
    subst f0 f1
    rfl
  · rw [List.flatMap_cons, List.flatMap_cons, List.foldl_cons, List.foldl_cons, step_app _ _ _ _ (L 0), step_app _ _ _ _ (L 1), set0 _ _ h, set1 _ _ s1 s2]
    obtain ⟨k, t, i, s, l⟩ := q
    dsimp only at f2
    subst f2
    rfl
  · rw [List.flatMap_cons, List.flatMap_cons, List.foldl_cons, List.foldl_cons, step_app _ _ _ _ (L 1), step_app _ _ _ _ (L 2), set1 _ _ s1 s2, set2 _ _ h t1]
    obtain ⟨k, t, i, s, l⟩ := q
    dsimp only at f0
    subst f0
    rfl
theorem getOk_of (q : Rq) (h : q.ok) (hm : mayB q = true) : getOk (bytesOf q) = true := by
  obtain ⟨k1, k2, s1, s2, t1⟩ := mayB_parts hm
  unfold getOk okB
  rw [getS_of q h hm, parse0_of q h ⟨k1, k2⟩]
  dsimp only
  rw [decide_eq_true (show 1 ≤ q.kind ∧ q.kind ≤ 10 from ⟨k1, k2⟩), decide_eq_true t1]
  rfl
theorem val_wd {x : List UInt8} {n : Nat} (h : x.length = n) : val x < 256 ^ n := h ▸ val_lt x
/-- What is read is such as may be, and written as it was. -/
theorem getOk_inv (b : List UInt8) (h : getOk b = true) : ∃ q, getS b = ⟨q, [], 0⟩ ∧ q.ok ∧ mayB q = true ∧ bytesOf q = b := by
  unfold getOk at h
  simp only [Bool.and_eq_true, beq_iff_eq, decide_eq_true_eq] at h
  obtain ⟨⟨h1, h2⟩, h3⟩ := h
  have h4 : (getS b).e = 0 ∧ (getS b).l = [] := by
    unfold endOf at h2
    by_cases he : (getS b).e = 0
    · rw [if_pos he] at h2
      by_cases hl : (getS b).l = []
      · exact ⟨he, hl⟩
      · rw [if_neg hl] at h2; cases h2
    · rw [if_neg he] at h2; exact absurd h2 he
  obtain ⟨he, hl⟩ := h4
  obtain ⟨hp, F, z, g1, g2, g3, g4⟩ := fold_inv (has (parse0 b).q.kind) (parse0 b) he
  have g4' : getS b = ⟨((has (parse0 b).q.kind).zip F).foldl (fun q p => setF q p.1 (val p.2)) (parse0 b).q, z, 0⟩ := g4
  obtain ⟨x, y, z', rfl, hx, hy⟩ := parse0_inv b hp
  rw [g4'] at hl h3 ⊢
  dsimp only at hl h3
  subst hl
  rw [parse0_app x y z' hx hy] at g1 g2 g3 h1 h3 ⊢
  dsimp only at g1 g2 g3 h1 h3 ⊢
  rw [List.append_nil] at g1
  subst g1
  have vx := val_wd hx
  have vy := val_wd hy
  have k : 1 ≤ (val x : Int) ∧ (val x : Int) ≤ 10 := of_decide_eq_true h1
  have lx : low (val x) 1 = x := by have := low_val x; rwa [hx] at this
  have ly : low (val y) 4 = y := by have := low_val y; rwa [hy] at this
  refine ⟨_, rfl, ?_⟩
  have e0 : ∀ n : Nat, n < 18446744073709551616 → -9223372036854775808 ≤ wrap64 n ∧ wrap64 n ≤ 9223372036854775807 := fun n hn => by unfold wrap64; omega
  rcases has_cases (val x : Int) with e | e | e | e | e | e <;> rw [e] at g2 g3 h3 ⊢
  · obtain rfl : F = [] := List.eq_nil_of_length_eq_zero g2
    refine ⟨⟨by dsimp; omega, by dsimp; omega, by dsimp; omega, by simp, by simp, by simp, by simp, by simp⟩, mayB_of (by simpa using k) (by simp) (by simp) (by simp) (by simp), ?_⟩
    unfold bytesOf
    simp [e, lx, ly]
  · match F, g2, g3 with
    | [f], _, g3 =>
      have l0 : f.length = 4 := g3 0 (by simp) (by simp)
      have v0 := val_wd l0
      have lf := low_val f
      rw [l0] at lf
      refine ⟨⟨by simp [setF] <;> omega, by simp [setF] <;> omega, by simp [setF] <;> omega, by simp [setF] <;> omega, by simp [setF], by simp [setF], by simp [setF], by simp [setF]⟩, mayB_of (by simpa [setF] using k) (by simp [setF]) (by simp [setF, e]) (by simp [setF]) (by simp [setF]), ?_⟩
      unfold bytesOf
      simp [setF, e, lx, ly, fieldB, lf]
  · match F, g2, g3 with
    | [f], _, g3 =>
      have l0 : f.length = 2 := g3 0 (by simp) (by simp)
      have v0 := val_wd l0
      have lf := low_val f
      rw [l0] at lf
      refine ⟨⟨by simp [setF] <;> omega, by simp [setF] <;> omega, by simp [setF] <;> omega, by simp [setF], by simp [setF] <;> omega, by simp [setF] <;> omega, by simp [setF], by simp [setF]⟩, mayB_of (by simpa [setF] using k) (by simp [setF] <;> omega) (by simp [setF]) (by simp [setF, e]) (by simp [setF]), ?_⟩
      unfold bytesOf
      simp [setF, e, lx, ly, fieldB, lf]
  · match F, g2, g3, h3 with
    | [f], _, g3, h3 =>
      have l0 : f.length = 8 := g3 0 (by simp) (by simp)
      have v0 := val_wd l0
      have lf := low_val f
      rw [l0] at lf
      obtain ⟨w1, w2⟩ := wrap64_pos v0 (by simpa [setF] using h3)
      refine ⟨⟨by simp [setF] <;> omega, by simp [setF] <;> omega, by simp [setF] <;> omega, by simp [setF], by simp [setF], by simp [setF], by simp [setF, w1], by simp [setF, w1] <;> omega⟩, mayB_of (by simpa [setF] using k) (by simp [setF, w1]) (by simp [setF]) (by simp [setF]) (by simp [setF, e]), ?_⟩
      unfold bytesOf
      simp [setF, e, lx, ly, fieldB, lf, w1]
  · match F, g2, g3 with
    | [f, f'], _, g3 =>
      have l0 : f.length = 4 := g3 0 (by simp) (by simp)
      have l1 : f'.length = 2 := g3 1 (by simp) (by simp)
      have v0 := val_wd l0
      have v1 := val_wd l1
      have lf := low_val f
      have lf' := low_val f'
      rw [l0] at lf
      rw [l1] at lf'
      refine ⟨⟨by simp [setF] <;> omega, by simp [setF] <;> omega, by simp [setF] <;> omega, by simp [setF] <;> omega, by simp [setF] <;> omega, by simp [setF] <;> omega, by simp [setF], by simp [setF]⟩, mayB_of (by simpa [setF] using k) (by simp [setF] <;> omega) (by simp [setF, e]) (by simp [setF, e]) (by simp [setF]), ?_⟩
      unfold bytesOf
      simp [setF, e, lx, ly, fieldB, lf, lf']
  · match F, g2, g3, h3 with
    | [f, f'], _, g3, h3 =>
      have l0 : f.length = 2 := g3 0 (by simp) (by simp)
      have l1 : f'.length = 8 := g3 1 (by simp) (by simp)
      have v0 := val_wd l0
      have v1 := val_wd l1
      have lf := low_val f
      have lf' := low_val f'
      rw [l0] at lf
      rw [l1] at lf'
      obtain ⟨w1, w2⟩ := wrap64_pos v1 (by simpa [setF] using h3)
      refine ⟨⟨by simp [setF] <;> omega, by simp [setF] <;> omega, by simp [setF] <;> omega, by simp [setF], by simp [setF] <;> omega, by simp [setF] <;> omega, by simp [setF, w1], by simp [setF, w1] <;> omega⟩, mayB_of (by simpa [setF] using k) (by simp [setF, w1] <;> omega) (by simp [setF]) (by simp [setF, e]) (by simp [setF, e]), ?_⟩
      unfold bytesOf
      simp [setF, e, lx, ly, fieldB, lf, lf', w1]
theorem bytesOf_len (q : Rq) : (bytesOf q).length = 5 + ((has q.kind).map wd).sum := by
  unfold bytesOf
  have : ∀ l : List Int, (l.flatMap (fieldB q)).length = (l.map wd).sum := fun l => by
    induction l with
    | nil => rfl
    | cons a l ih => simp [fieldB_len, ih]
  rw [List.length_append, List.length_append, low_length, low_length, this]
theorem bytesOf_head (q : Rq) : (bytesOf q)[0]? = some (UInt8.ofNat q.kind.toNat) := by
  unfold bytesOf
  rw [show low q.kind.toNat 1 = [UInt8.ofNat q.kind.toNat] by simp [low]]
  rfl
/-- Of two readable ones is none the beginning of the other. -/
theorem getOk_pre (a b : List UInt8) (ha : getOk a = true) (hb : getOk b = true) (h : a <+: b) : a = b := by
  obtain ⟨q, _, _, m1, rfl⟩ := getOk_inv a ha
  obtain ⟨p, _, _, m2, rfl⟩ := getOk_inv b hb
  obtain ⟨k1, k2, _⟩ := mayB_parts m1
  obtain ⟨k3, k4, _⟩ := mayB_parts m2
  obtain ⟨t, ht⟩ := h
  have e1 := bytesOf_head q
  have e2 := bytesOf_head p
  have l1 := bytesOf_len q
  have l2 := bytesOf_len p
  rw [← ht, List.getElem?_append_left (by omega), e1] at e2
  injection e2 with e2
  have e3 := congrArg UInt8.toNat e2
  rw [UInt8.toNat_ofNat', UInt8.toNat_ofNat'] at e3
  have e4 : q.kind = p.kind := by omega
  rw [e4] at l1
  have := congrArg List.length ht
  rw [List.length_append] at this
  obtain rfl : t = [] := List.eq_nil_of_length_eq_zero (by omega)
  rw [← ht, List.append_nil]
theorem getOk_cut (b : List UInt8) (hb : getOk b = true) (k : Nat) (hk : k < b.length) : getOk (b.take k) = false := by
  cases h : getOk (b.take k) with
  | false => rfl
  | true =>
    have := congrArg List.length (getOk_pre _ _ h hb (List.take_prefix k b))
    rw [List.length_take] at this
    omega
theorem getOk_long (b t : List UInt8) (hb : getOk b = true) (ht : t ≠ []) : getOk (b ++ t) = false := by
  cases h : getOk (b ++ t) with
  | false => rfl
  | true =>
    have := getOk_pre _ _ hb h (List.prefix_append b t)
    exact absurd (List.append_right_eq_self.1 this.symm) ht
end Go.Proofs.Ytfcoaiggpcjldaa
