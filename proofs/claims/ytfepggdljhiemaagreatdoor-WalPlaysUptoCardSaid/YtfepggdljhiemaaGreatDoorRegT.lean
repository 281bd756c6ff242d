import Derived.Test.YtfepggdljhiemaaGreatDoorGMem
/-! Regions in which two effects may come in either order: one walk of each of two scripts serves every order. No program is named here. -/
set_option linter.unusedVariables false
set_option linter.unusedSimpArgs false
set_option maxRecDepth 100000
namespace Go.Proofs.YtfepggdljhiemaaGreatDoor.Gw
open Go

section
variable {P : Program} {ops : Array Oper} {Q : Exit → Act → World → Prop}
def looseB (ops : Array Oper) (T : List Nat) (ps : Nat → Nat) (u v : Nat) (x y : Stp) : Bool :=
  match ops[x.i]?, ops[y.i]? with
  | some ox, some _ => decide (ps x.i < ps y.i) && ox.after.all (fun e => !(Region.binds .any e) || e.on != y.i) && (x.i == u && (y.i == v || Ord T v y.i))
  | _, _ => false
def pairW (P : Program) (ops : Array Oper) (T : List Nat) (ps : Nat → Nat) (u v : Nat) (x y : Stp) : Bool := pairB P ops T ps x y || looseB ops T ps u v x y
def pairsW (P : Program) (ops : Array Oper) (T : List Nat) (ps : Nat → Nat) (u v : Nat) : List Stp → Bool
  | [] => true
  | x :: r => r.all (pairW P ops T ps u v x) && pairsW P ops T ps u v r
def scriptW (P : Program) (ops : Array Oper) (u v : Nat) (l : List Stp) : Bool :=
  Region.noSelect ops && pairsW P ops (ancs ops.toList []) (pos l) u v l && (List.range ops.size).all (fun i => l.any fun s => s.i == i) &&
    (l.all fun s => match ops[s.i]? with
      | some o => o.after.all (fun e => e.on != s.i && decide (e.on < ops.size)) && (!s.q || plainOp o.op)
      | none => false) &&
    l.all fun s => s.q || s.i == u || s.i == v || (Ord (ancs ops.toList []) u s.i && Ord (ancs ops.toList []) v s.i)
theorem pairsW_spec {T : List Nat} {ps : Nat → Nat} {u v : Nat} : ∀ {l : List Stp}, pairsW P ops T ps u v l = true → l.Pairwise fun x y => pairW P ops T ps u v x y = true
  | [], _ => List.Pairwise.nil
  | x :: r, h => by
    simp only [pairsW, Bool.and_eq_true, List.all_eq_true] at h
    exact List.Pairwise.cons h.1 (pairsW_spec h.2)
theorem pairB_lt {T : List Nat} {ps : Nat → Nat} {x y : Stp} (h : pairB P ops T ps x y = true) : ps x.i < ps y.i := by
  unfold pairB at h
  split at h
  · simp only [Bool.and_eq_true, decide_eq_true_eq] at h; exact h.1.1
  · cases h
theorem pairB_after {T : List Nat} {ps : Nat → Nat} {x y : Stp} {ox : Oper} (hx : ops[x.i]? = some ox) (h : pairB P ops T ps x y = true) : ∀ e ∈ ox.after, Region.binds .any e = true → e.on ≠ y.i := by
  unfold pairB at h
  cases hy : ops[y.i]? with
  | none => simp [hx, hy] at h
  | some oy =>
    simp only [hx, hy, Bool.and_eq_true] at h
    intro e he hb heq
    have := Array.all_eq_true_iff_forall_mem.1 h.1.2 e he
    simp [hb, heq] at this
theorem looseB_parts {T : List Nat} {ps : Nat → Nat} {u v : Nat} {x y : Stp} {ox : Oper} (hx : ops[x.i]? = some ox) (h : looseB ops T ps u v x y = true) : ps x.i < ps y.i ∧ (∀ e ∈ ox.after, Region.binds .any e = true → e.on ≠ y.i) ∧ x.i = u ∧ (y.i = v ∨ Ord T v y.i = true) := by
  unfold looseB at h
  cases hy : ops[y.i]? with
  | none => simp [hx, hy] at h
  | some oy =>
    simp only [hx, hy, Bool.and_eq_true, Bool.or_eq_true, decide_eq_true_eq, beq_iff_eq] at h
    refine ⟨h.1.1, fun e he hb heq => ?_, h.2.1, h.2.2⟩
    have := Array.all_eq_true_iff_forall_mem.1 h.1.2 e he
    simp [hb, heq] at this
theorem pairW_lt {T : List Nat} {ps : Nat → Nat} {u v : Nat} {x y : Stp} {ox : Oper} (hx : ops[x.i]? = some ox) (h : pairW P ops T ps u v x y = true) : ps x.i < ps y.i := by
  unfold pairW at h
  simp only [Bool.or_eq_true] at h
  exact h.elim pairB_lt fun h => (looseB_parts hx h).1
theorem pairW_after {T : List Nat} {ps : Nat → Nat} {u v : Nat} {x y : Stp} {ox : Oper} (hx : ops[x.i]? = some ox) (h : pairW P ops T ps u v x y = true) : ∀ e ∈ ox.after, Region.binds .any e = true → e.on ≠ y.i := by
  unfold pairW at h
  simp only [Bool.or_eq_true] at h
  exact h.elim (pairB_after hx) fun h => (looseB_parts hx h).2.1
theorem pairW_tight {T : List Nat} {ps : Nat → Nat} {u v : Nat} {x y : Stp} {ox : Oper} (hx : ops[x.i]? = some ox) (h : pairW P ops T ps u v x y = true) (hn : x.i ≠ u ∨ (y.i ≠ v ∧ Ord T v y.i = false)) : pairB P ops T ps x y = true := by
  unfold pairW at h
  simp only [Bool.or_eq_true] at h
  rcases h with h | h
  · exact h
  · have := looseB_parts hx h
    exact (hn.elim (fun h => h this.2.2.1) (fun h => this.2.2.2.elim h.1 (fun h2 => by rw [h.2] at h2; cases h2))).elim
/-- what is known of a script whose steps are still to come -/
structure RestT (P : Program) (ops : Array Oper) (u v : Nat) (ps : Nat → Nat) (l : List Stp) (listed : Array Bool) : Prop where
  pw : l.Pairwise (fun x y => pairW P ops (ancs ops.toList []) ps u v x y = true)
  ok : ∀ s ∈ l, ∃ o, ops[s.i]? = some o ∧ (∀ e ∈ o.after, e.on ≠ s.i ∧ e.on < ops.size) ∧ (s.q = true → plainOp o.op = true)
  un : ∀ s ∈ l, listed.getD s.i true = false
  al : ∀ i, i < ops.size → listed.getD i true = false → ∃ s ∈ l, s.i = i
theorem RestT.front {u v : Nat} {ps : Nat → Nat} {listed : Array Bool} {l1 l2 : List Stp} {y : Stp} {o : Oper} (hns : Region.noSelect ops = true) (h : RestT P ops u v ps (l1 ++ y :: l2) listed) (hsz : listed.size = ops.size) (hdc : DC ops listed)
    (ho : ops[y.i]? = some o) (hdeps : ∀ e ∈ o.after, Region.binds .any e = true → listed.getD e.on false = true) (hy : (y.i ≠ v ∧ ∃ s ∈ l1 ++ y :: l2, s.i = v) ∨ ∀ x ∈ l1, x.i ≠ u) {a : Act} {w : World} (hw : wpT P ops Q (l1 ++ y :: l2) a w) :
    elemT P ops Q { y with held := y.held.filter fun i => ps i < 0 } (wpT P ops Q (l1 ++ l2)) a w ∧ RestT P ops u v ps (l1 ++ l2) (listed.setIfInBounds y.i true) ∧ ∀ s ∈ l1 ++ l2, y.i ≠ s.i := by
  have hp' := List.pairwise_append.1 h.pw
  have hp2 := List.pairwise_cons.1 hp'.2.1
  have oks : ∀ s ∈ l1 ++ y :: l2, ∃ o, ops[s.i]? = some o := fun s hs => by obtain ⟨o, ho, _⟩ := h.ok s hs; exact ⟨o, ho⟩
  have hmem : ∀ s, s ∈ l1 ++ l2 → s ∈ l1 ++ y :: l2 := fun s hs => (List.mem_append.1 hs).elim (List.mem_append_left _) fun h => List.mem_append_right _ (List.mem_cons_of_mem _ h)
  have hneq : ∀ s ∈ l1 ++ l2, y.i ≠ s.i := by
    intro s hs he
    rcases List.mem_append.1 hs with hs | hs
    · obtain ⟨os, hos⟩ := oks s (List.mem_append_left _ hs)
      have := pairW_lt hos (hp'.2.2 s hs y (List.mem_cons_self ..)); rw [he] at this; omega
    · have := pairW_lt ho (hp2.1 s hs); rw [he] at this; omega
  have hlt : y.i < listed.size := by rw [hsz]; exact (Array.getElem?_eq_some_iff.1 ho).1
  refine ⟨?_, ⟨?_, fun s hs => h.ok s (hmem s hs), ?_, ?_⟩, hneq⟩
  · refine frontT (P := P) (Q := Q) (ps := ps) hns (y := y) (l2 := l2) l1 0 (fun _ _ => Nat.zero_le _) ?_ ?_ a w hw
    · refine List.Pairwise.imp_of_mem ?_ hp'.1
      intro x z hx hz hxz
      obtain ⟨ox, hox⟩ := oks x (List.mem_append_left _ hx)
      exact pairW_lt hox hxz
    · intro x hx
      have hxy := hp'.2.2 x hx y (List.mem_cons_self ..)
      obtain ⟨ox, hox⟩ := oks x (List.mem_append_left _ hx)
      have hno : (∃ s ∈ l1 ++ y :: l2, s.i = v) → Ord (ancs ops.toList []) v y.i = false := fun ⟨s, hs, hsv⟩ => by
        cases hO : Ord (ancs ops.toList []) v y.i with
        | false => rfl
        | true =>
          exfalso
          have h1 := ord_listed hdc ho hdeps hO
          have h2 := h.un s hs
          rw [hsv] at h2
          rcases Nat.lt_or_ge v listed.size with h' | h'
          · simp [h'] at h1 h2; rw [h2] at h1; cases h1
          · simp [Array.getElem?_eq_none h'] at h1
      replace hxy := pairW_tight hox hxy (hy.elim (fun k => .inr ⟨k.1, hno k.2⟩) fun h => .inl (h x hx))
      refine ⟨ox, o, hox, ho, ?_⟩
      unfold pairB at hxy
      simp only [hox, ho, Bool.and_eq_true, Bool.or_eq_true] at hxy
      rcases hxy.2 with hord | ⟨hc, hh⟩
      · have h1 := ord_listed hdc ho hdeps hord
        have h2 := h.un x (List.mem_append_left _ hx)
        exfalso
        rcases Nat.lt_or_ge x.i listed.size with h' | h'
        · simp [h'] at h1 h2; rw [h2] at h1; cases h1
        · simp [Array.getElem?_eq_none h'] at h1
      · refine ⟨hc, fun j hj hlt oi hoi d hd => ?_⟩
        have := List.all_eq_true.1 hh j hj
        simpa [hlt, hoi, hd] using this
  · exact List.pairwise_append.2 ⟨hp'.1, hp2.2, fun x hx z hz => hp'.2.2 x hx z (List.mem_cons_of_mem _ hz)⟩
  · intro s hs
    rw [getD_set_ne true (hneq s hs)]
    exact h.un s (hmem s hs)
  · intro j hj hjl
    by_cases hjy : y.i = j
    · subst hjy
      simp [hlt] at hjl
    · rw [getD_set_ne true hjy] at hjl
      obtain ⟨s, hs, hsj⟩ := h.al j hj hjl
      refine ⟨s, ?_, hsj⟩
      rcases List.mem_append.1 hs with hs | hs
      · exact List.mem_append_left _ hs
      · rcases List.mem_cons.1 hs with rfl | hs
        · exact absurd hsj hjy
        · exact List.mem_append_right _ hs
theorem dc_set {listed : Array Bool} {y : Nat} {o : Oper} (ho : ops[y]? = some o) (hdeps : ∀ e ∈ o.after, Region.binds .any e = true → listed.getD e.on false = true) (hdc : DC ops listed) : DC ops (listed.setIfInBounds y true) := by
  intro j oj hoj hj e he hb
  by_cases hjy : y = j
  · subst hjy
    rw [ho] at hoj; cases hoj
    exact getD_set_true (hdeps e he hb)
  · rw [getD_set_ne false hjy] at hj
    exact getD_set_true (hdc j oj hoj hj e he hb)
/-- no step is loose any more -/
theorem RestT.any {u v : Nat} {ps : Nat → Nat} {listed : Array Bool} {l : List Stp} {n : Nat} (hns : Region.noSelect ops = true) (h : RestT P ops u v ps l listed) (hn : l.length = n) (hsz : listed.size = ops.size) (hdc : DC ops listed) (hu : ∀ x ∈ l, x.i ≠ u)
    {a : Act} {w : World} (hw : wpT P ops Q l a w) : wpAny P .any ops (NoPanic Q) n listed a w :=
  any_of_script (P := P) (Q := Q) (ps := ps) hns n l hn (List.Pairwise.imp_of_mem (fun {x y} hx hy hxy => by
      obtain ⟨ox, hox, _⟩ := h.ok x hx
      exact pairW_tight hox hxy (.inl (hu x hx))) h.pw) h.ok listed hsz h.un h.al hdc a w hw
theorem any_of_two {u v : Nat} {ps1 ps2 : Nat → Nat} (hns : Region.noSelect ops = true) : ∀ (n : Nat) (l1 l2 : List Stp), l1.length = n → l2.length = n → ∀ (listed : Array Bool), listed.size = ops.size → DC ops listed →
    RestT P ops u v ps1 l1 listed → RestT P ops v u ps2 l2 listed → (∀ s ∈ l1, ∀ s' ∈ l2, s.i = s'.i → s.q = s'.q) →
    (∀ s ∈ l1, s.q = false → s.i = u ∨ s.i = v ∨ (Ord (ancs ops.toList []) u s.i = true ∧ Ord (ancs ops.toList []) v s.i = true)) → (∃ s ∈ l1, s.i = u) → (∃ s ∈ l1, s.i = v) → u ≠ v →
    ∀ a w, wpT P ops Q l1 a w → wpT P ops Q l2 a w → wpAny P .any ops (NoPanic Q) n listed a w := by
  intro n
  induction n with
  | zero =>
    intro l1 l2 hl1 _ listed _ _ _ _ _ _ ⟨s, hs, _⟩ _
    have : l1 = [] := List.eq_nil_of_length_eq_zero hl1
    subst this; cases hs
  | succ n ih =>
    intro l1 l2 hl1 hl2 listed hsz hdc R1 R2 hqq hq hu hv huv a w h1 h2
    refine ⟨fun hr0 => ?_, fun i hi => ?_⟩
    · cases l1 with
      | nil => simp at hl1
      | cons x r =>
        exfalso
        obtain ⟨ox, hox, hdx, _⟩ := R1.ok x (List.mem_cons_self ..)
        have hx : x.i ∈ Region.ready .any ops listed := by
          refine mem_ready.2 ⟨R1.un x (List.mem_cons_self ..), ox, hox, fun e he hb => ?_⟩
          obtain ⟨hne, hlt⟩ := hdx e he
          cases hle : listed.getD e.on true with
          | true =>
            have : e.on < listed.size := by omega
            simp [this] at hle ⊢
            exact hle
          | false =>
            exfalso
            obtain ⟨s, hs, hse⟩ := R1.al e.on hlt hle
            rcases List.mem_cons.1 hs with rfl | hs
            · exact hne hse.symm
            · exact pairW_after hox ((List.pairwise_cons.1 R1.pw).1 s hs) e he hb hse.symm
        rw [hr0] at hx
        cases hx
    · obtain ⟨h0, o, ho, hdeps⟩ := mem_ready.1 hi
      obtain ⟨y, hy, hyi⟩ := R1.al i (Array.getElem?_eq_some_iff.1 ho).1 h0
      obtain ⟨z, hz, hzi⟩ := R2.al i (Array.getElem?_eq_some_iff.1 ho).1 h0
      obtain ⟨A1, B1, rfl⟩ := List.append_of_mem hy
      obtain ⟨A2, B2, rfl⟩ := List.append_of_mem hz
      have hlen1 : (A1 ++ B1).length = n := by simp at hl1 ⊢; omega
      have hlen2 : (A2 ++ B2).length = n := by simp at hl2 ⊢; omega
      have hsz' : (listed.setIfInBounds i true).size = ops.size := by simpa using hsz
      have hdc' : DC ops (listed.setIfInBounds i true) := dc_set ho hdeps hdc
      have hpy : y.q = true → plainOp o.op = true := fun hqy => by
        obtain ⟨o', ho', _, hp⟩ := R1.ok y hy
        rw [hyi, ho] at ho'; cases ho'; exact hp hqy
      have hpz : z.q = true → plainOp o.op = true := fun hqz => by
        obtain ⟨o', ho', _, hp⟩ := R2.ok z hz
        rw [hzi, ho] at ho'; cases ho'; exact hp hqz
      by_cases hiu : i = u
      · obtain ⟨hf, R', hne⟩ := R1.front hns hsz hdc (by rw [hyi]; exact ho) hdeps (.inr (fun x hx => by rw [← hiu, ← hyi]; exact fun e => by obtain ⟨ox, hox, _⟩ := R1.ok x (List.mem_append_left _ hx); have := pairW_lt hox ((List.pairwise_append.1 R1.pw).2.2 x hx y (List.mem_cons_self ..)); rw [e] at this; omega)) h1
        rw [hyi] at R' hne
        have := wpOp_of_elemT (s := { y with held := y.held.filter fun i => ps1 i < 0 }) (P := P) (Q := Q) (K' := wpAny P .any ops (NoPanic Q) n (listed.setIfInBounds i true)) (by show ops[y.i]? = some o; rw [hyi]; exact ho) hpy (fun a' w' h' => R'.any hns hlen1 hsz' hdc' (fun x hx => by have := hne x hx; rw [← hiu]; exact fun h => this h.symm) h') hf
        rw [show ({ y with held := y.held.filter fun i => ps1 i < 0 } : Stp).i = i from hyi] at this
        exact this
      · by_cases hiv : i = v
        · obtain ⟨hf, R', hne⟩ := R2.front hns hsz hdc (by rw [hzi]; exact ho) hdeps (.inr (fun x hx => by rw [← hiv, ← hzi]; exact fun e => by obtain ⟨ox, hox, _⟩ := R2.ok x (List.mem_append_left _ hx); have := pairW_lt hox ((List.pairwise_append.1 R2.pw).2.2 x hx z (List.mem_cons_self ..)); rw [e] at this; omega)) h2
          rw [hzi] at R' hne
          have := wpOp_of_elemT (s := { z with held := z.held.filter fun i => ps2 i < 0 }) (P := P) (Q := Q) (K' := wpAny P .any ops (NoPanic Q) n (listed.setIfInBounds i true)) (by show ops[z.i]? = some o; rw [hzi]; exact ho) hpz (fun a' w' h' => R'.any hns hlen2 hsz' hdc' (fun x hx => by have := hne x hx; rw [← hiv]; exact fun h => this h.symm) h') hf
          rw [show ({ z with held := z.held.filter fun i => ps2 i < 0 } : Stp).i = i from hzi] at this
          exact this
        · have hyq : y.q = true := by
            cases hyq : y.q with
            | true => rfl
            | false =>
              exfalso
              rcases hq y hy hyq with h | h | ⟨h, _⟩
              · exact hiu (hyi.symm.trans h)
              · exact hiv (hyi.symm.trans h)
              · rw [hyi] at h
                have h1 := ord_listed hdc ho hdeps h
                obtain ⟨s, hs, hsu⟩ := hu
                have h2 := R1.un s hs
                rw [hsu] at h2
                rcases Nat.lt_or_ge u listed.size with h' | h'
                · simp [h'] at h1 h2; rw [h2] at h1; cases h1
                · simp [Array.getElem?_eq_none h'] at h1
          have hzq : z.q = true := by rw [← hqq y hy z hz (hyi.trans hzi.symm)]; exact hyq
          have hu2 : ∃ s ∈ A2 ++ z :: B2, s.i = u := by
            obtain ⟨s, hs, hsu⟩ := hu
            have h3 := R1.un s hs
            obtain ⟨os, hos, _⟩ := R1.ok s hs
            rw [hsu] at h3 hos
            exact R2.al u (Array.getElem?_eq_some_iff.1 hos).1 h3
          obtain ⟨hf1, R1', hne1⟩ := R1.front hns hsz hdc (by rw [hyi]; exact ho) hdeps (.inl ⟨by rw [hyi]; exact hiv, hv⟩) h1
          obtain ⟨hf2, R2', hne2⟩ := R2.front hns hsz hdc (by rw [hzi]; exact ho) hdeps (.inl ⟨by rw [hzi]; exact hiu, hu2⟩) h2
          rw [hyi] at R1' hne1
          rw [hzi] at R2' hne2
          obtain ⟨v1, hv1, hk1⟩ := (elemT_quiet (s := { y with held := y.held.filter fun i => ps1 i < 0 }) (by show ops[y.i]? = some o; rw [hyi]; exact ho) hyq (hpy hyq)).1 hf1
          obtain ⟨v2, hv2, hk2⟩ := (elemT_quiet (s := { z with held := z.held.filter fun i => ps2 i < 0 }) (by show ops[z.i]? = some o; rw [hzi]; exact ho) hzq (hpz hzq)).1 hf2
          have hvv : v2 = v1 := by
            rcases hv1 with ⟨a1, b1⟩ | ⟨a1, b1⟩ <;> rcases hv2 with ⟨a2, b2⟩ | ⟨a2, b2⟩
            · rw [b1] at b2; cases b2; rfl
            · rw [a1] at a2; cases a2
            · rw [a1] at a2; cases a2
            · rw [b1, b2]
          subst hvv
          have hA : ∀ s, s ∈ A1 ++ B1 → s ∈ A1 ++ y :: B1 := fun s hs => (List.mem_append.1 hs).elim (List.mem_append_left _) fun h => List.mem_append_right _ (List.mem_cons_of_mem _ h)
          have hB : ∀ s, s ∈ A2 ++ B2 → s ∈ A2 ++ z :: B2 := fun s hs => (List.mem_append.1 hs).elim (List.mem_append_left _) fun h => List.mem_append_right _ (List.mem_cons_of_mem _ h)
          have hu' : ∃ s ∈ A1 ++ B1, s.i = u := by
            obtain ⟨s, hs, hsu⟩ := hu
            refine ⟨s, ?_, hsu⟩
            rcases List.mem_append.1 hs with hs | hs
            · exact List.mem_append_left _ hs
            · rcases List.mem_cons.1 hs with rfl | hs
              · exact (hiu (hyi.symm.trans hsu)).elim
              · exact List.mem_append_right _ hs
          have hv' : ∃ s ∈ A1 ++ B1, s.i = v := by
            obtain ⟨s, hs, hsu⟩ := hv
            refine ⟨s, ?_, hsu⟩
            rcases List.mem_append.1 hs with hs | hs
            · exact List.mem_append_left _ hs
            · rcases List.mem_cons.1 hs with rfl | hs
              · exact (hiv (hyi.symm.trans hsu)).elim
              · exact List.mem_append_right _ hs
          have hboth : elemT P ops Q y (fun a w => wpT P ops Q (A1 ++ B1) a w ∧ wpT P ops Q (A2 ++ B2) a w) a w := (elemT_quiet (by rw [hyi]; exact ho) hyq (hpy hyq)).2 ⟨_, hv1, hk1, hk2⟩
          have := wpOp_of_elemT (P := P) (Q := Q) (K' := wpAny P .any ops (NoPanic Q) n (listed.setIfInBounds i true)) (by rw [hyi]; exact ho) hpy (fun a' w' h' => ih _ _ hlen1 hlen2 _ hsz' hdc' R1' R2' (fun s hs s' hs' => hqq s (hA s hs) s' (hB s' hs')) (fun s hs => hq s (hA s hs)) hu' hv' huv a' w' h'.1 h'.2) hboth
          rw [hyi] at this
          exact this
theorem scriptW_parts {u v : Nat} {l : List Stp} (hB : scriptW P ops u v l = true) : Region.noSelect ops = true ∧ l.length = ops.size ∧ RestT P ops u v (pos l) l (Array.replicate ops.size false) ∧
    (∀ s ∈ l, s.q = false → s.i = u ∨ s.i = v ∨ (Ord (ancs ops.toList []) u s.i = true ∧ Ord (ancs ops.toList []) v s.i = true)) := by
  unfold scriptW at hB
  simp only [Bool.and_eq_true] at hB
  obtain ⟨⟨⟨⟨hns, hp⟩, hall⟩, hok⟩, hq⟩ := hB
  have hok' : ∀ s ∈ l, ∃ o, ops[s.i]? = some o ∧ (∀ e ∈ o.after, e.on ≠ s.i ∧ e.on < ops.size) ∧ (s.q = true → plainOp o.op = true) := by
    intro s hs
    have := List.all_eq_true.1 hok s hs
    cases ho : ops[s.i]? with
    | none => rw [ho] at this; cases this
    | some o =>
      rw [ho] at this
      simp only [Bool.and_eq_true] at this
      refine ⟨o, rfl, fun e he => ?_, fun hq => ?_⟩
      · have := Array.all_eq_true_iff_forall_mem.1 this.1 e he
        simpa using this
      · have := this.2
        simpa [hq] using this
  have hrep : ∀ (b : Bool) (i : Nat), i < ops.size → (Array.replicate ops.size false).getD i b = false := fun b i hi => by simp [hi]
  have key : ∀ s ∈ l, s.i < ops.size := fun s hs => by obtain ⟨o, ho, _⟩ := hok' s hs; exact (Array.getElem?_eq_some_iff.1 ho).1
  have hpw := pairsW_spec hp
  have hlen : l.length = ops.size := by
    have hnd : (l.map (·.i)).Nodup := by
      rw [List.Nodup, List.pairwise_map]
      refine List.Pairwise.imp_of_mem (fun {x z} hx hz hxz => ?_) hpw
      obtain ⟨ox, hox, _⟩ := hok' x hx
      intro he
      have := pairW_lt hox hxz
      rw [he] at this
      omega
    have h1 : (l.map (·.i)).length ≤ (List.range ops.size).length := (List.Nodup.length_le_of_subset hnd fun i hi => by
      obtain ⟨s, hs, rfl⟩ := List.mem_map.1 hi
      exact List.mem_range.2 (key s hs))
    have h2 : (List.range ops.size).length ≤ (l.map (·.i)).length := (List.Nodup.length_le_of_subset List.nodup_range fun i hi => by
      obtain ⟨s, hs, hsi⟩ := List.any_eq_true.1 (List.all_eq_true.1 hall i hi)
      exact List.mem_map.2 ⟨s, hs, by simpa using hsi⟩)
    simp at h1 h2
    omega
  refine ⟨hns, hlen, ⟨hpw, hok', fun s hs => hrep _ _ (key s hs), fun i hi _ => ?_⟩, fun s hs hsq => ?_⟩
  · obtain ⟨s, hs, hsi⟩ := List.any_eq_true.1 (List.all_eq_true.1 hall i (List.mem_range.2 hi))
    exact ⟨s, hs, by simpa using hsi⟩
  · have := List.all_eq_true.1 hq s hs
    simp only [hsq, Bool.or_eq_true, Bool.and_eq_true, beq_iff_eq] at this
    rcases this with ((h | h) | h) | h
    · cases h
    · exact .inl h
    · exact .inr (.inl h)
    · exact .inr (.inr h)
/-- ONE WALK OF EACH OF TWO CHECKED SCRIPTS, in which the effects u and v come in either order, serves every order. -/
theorem wp_region_T2 {id : Nat} {a : Act} {w : World} (u v : Nat) (l1 l2 : List Stp) (hm : P.follows .mixedOrders = true) (huv : (u != v && decide (u < ops.size) && decide (v < ops.size)) = true) (h1 : scriptW P ops u v l1 = true) (h2 : scriptW P ops v u l2 = true)
    (hq : (l1.all fun s => l2.all fun s' => s.i != s'.i || s.q == s'.q) = true) (k1 : WpT P ops Q l1 a w.drew) (k2 : WpT P ops Q l2 a w.drew) : (Code.region id ops true).wp P Q a w := by
  obtain ⟨hns, hl1, R1, hq1⟩ := scriptW_parts h1
  obtain ⟨_, hl2, R2, _⟩ := scriptW_parts h2
  simp only [Bool.and_eq_true, bne_iff_ne, decide_eq_true_eq] at huv
  refine wp_region_noPanic (wp_region_any hm ?_)
  refine any_of_two hns ops.size l1 l2 hl1 hl2 _ (by simp) (fun i o ho hi => ?_) R1 R2 (fun s hs s' hs' he => ?_) hq1 (R1.al u huv.1.2 (by simp [huv.1.2])) (R1.al v huv.2 (by simp [huv.2])) huv.1.1 a _ k1.out k2.out
  · have := (Array.getElem?_eq_some_iff.1 ho).1
    simp [this] at hi
  · have := List.all_eq_true.1 (List.all_eq_true.1 hq s hs) s' hs'
    simpa [he] using this
end
end Go.Proofs.YtfepggdljhiemaaGreatDoor.Gw
