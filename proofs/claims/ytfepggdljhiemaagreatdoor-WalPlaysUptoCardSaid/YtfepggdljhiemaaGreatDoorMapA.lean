import Derived.Test.YtfepggdljhiemaaGreatDoorGMem
import Derived.MapKept
set_option linter.unusedVariables false
set_option linter.unusedSimpArgs false
set_option maxRecDepth 100000
/- Maps of integer keys: what they hold, key by key; laws at single operations. No program is named here. -/
namespace Go.Proofs.YtfepggdljhiemaaGreatDoor.Gw
open Go MapKept

/-- block b is a map; f tells what it holds at each key -/
def Mp (w : World) (b : Nat) (f : Int → Option Value) : Prop :=
  ∃ es clock, w.heap[b]? = some (.map es clock) ∧ Stamped es clock ∧ (∀ x ∈ es.toList, IsKey (.int .i64) x.key) ∧ ∀ k v, f k = some v ↔ ∃ x ∈ es.toList, x.key = .int .i64 k ∧ x.val = v
/-- the same while an entry waits for its value -/
def MpE (w : World) (b : Nat) (k st : Int) (f : Int → Option Value) : Prop :=
  ∃ es clock, w.heap[b]? = some (.map es clock) ∧ Stamped es clock ∧ (∀ x ∈ es.toList, IsKey (.int .i64) x.key) ∧ (∃ (j : Nat) (e : MapEntry), es[j]? = some e ∧ e.key = .int .i64 k ∧ (e.born : Int) = st) ∧
    ∀ k', k' ≠ k → ∀ v, f k' = some v ↔ ∃ x ∈ es.toList, x.key = .int .i64 k' ∧ x.val = v
section
variable {w w' : World} {b : Nat} {f : Int → Option Value} {L : List Nat} {P : Program}
theorem Mp.lt (h : Mp w b f) : b < w.heap.size := by
  obtain ⟨es, clock, hb, _⟩ := h
  exact (Array.getElem?_eq_some_iff.1 hb).1
theorem Mp.mod (h : Mp w b f) (hm : Mod L w w') (hL : b ∉ L) : Mp w' b f := by
  have hlt := h.lt
  obtain ⟨es, clock, hb, r⟩ := h
  exact ⟨es, clock, (hm.block b hlt hL).trans hb, r⟩
theorem Mp.ext (h : Mp w b f) (hm : Mod [] w w') : Mp w' b f := h.mod hm (by simp)
theorem Mp.ne {g : Nat} {t : TypeId} {cs : List Value} (h : Mp w b f) (hB : Blk w g t cs) : b ≠ g := by
  rintro rfl
  obtain ⟨es, clock, hb, _⟩ := h
  unfold Blk at hB
  rw [hb] at hB
  cases hB
theorem MpE.mod {k st : Int} (h : MpE w b k st f) (hm : Mod L w w') (hL : b ∉ L) : MpE w' b k st f := by
  obtain ⟨es, clock, hb, r⟩ := h
  exact ⟨es, clock, (hm.block b (Array.getElem?_eq_some_iff.1 hb).1 hL).trans hb, r⟩
theorem Mp.new (w : World) : Mp (w.alloc (.map #[] 0)) w.heap.size (fun _ => none) :=
  ⟨#[], 0, heap_alloc_new w _, stamped_empty 0, by simp, by simp⟩
theorem Mp.congr {g : Int → Option Value} (h : Mp w b f) (hg : ∀ k, f k = g k) : Mp w b g := by
  have : f = g := funext hg
  exact this ▸ h

theorem mod_set {o o' : Obj} (hb : w.heap[b]? = some o) : Mod [b] w { w with heap := w.heap.setIfInBounds b o' } :=
  ⟨rfl, rfl, rfl, by simp, fun k _ hk => (heap_set hb).2 k (by simpa using hk)⟩
theorem run_look2 {t kt et : TypeId} {z : Value} (hm : P.underlying t = some (.map kt et)) (hd : P.underlying kt = some (.int .i64)) (hz : (P.info? et).map (·.zero) = some (some z)) (h : Mp w b f) (k : Int) :
    (Instr.lookup t (.map (some b)) (.int .i64 k) true).run P w = .ok (.tuple #[(f k).getD z, .bool (f k).isSome]) w := by
  obtain ⟨es, clock, hb, hs, hks, hf⟩ := h
  have hz' := run_zeroValue hz w
  rcases findNow_spec (d := .int .i64) (k := .int .i64 k) rfl es.toList 0 hks with ⟨h1, h2⟩ | ⟨j, e, h1, h2, h3⟩
  · have hfk : f k = none := by
      cases hq : f k with
      | none => rfl
      | some v => obtain ⟨x, hx, hxk, _⟩ := (hf k v).1 hq; exact absurd hxk (h2 x hx)
    simp [Instr.lookup, run_underlying hm, MapKept.run_getObj_map hb, MapKept.run_checkKey hd (k := .int .i64 k) rfl, MapKept.run_findKey hd h1, Result.andThen, hfk, hz']
  · have hfk : f k = some e.val := (hf k e.val).2 ⟨e, List.mem_of_getElem? h2, h3, rfl⟩
    simp [Instr.lookup, run_underlying hm, MapKept.run_getObj_map hb, MapKept.run_checkKey hd (k := .int .i64 k) rfl, MapKept.run_findKey hd h1, Result.andThen, hfk]
theorem run_entry {t kt et : TypeId} {z : Value} (hm : P.underlying t = some (.map kt et)) (hd : P.underlying kt = some (.int .i64)) (hz : (P.info? et).map (·.zero) = some (some z)) (h : Mp w b f) (k : Int) :
    ∃ v0 st w1, (Instr.mapEntry t (.map (some b)) (.int .i64 k)).run P w = .ok (.tuple #[v0, .int .i64 st]) w1 ∧ Mod [b] w w1 ∧ MpE w1 b k st f := by
  obtain ⟨es, clock, hb, hs, hks, hf⟩ := h
  have hz' := run_zeroValue hz w
  rcases findNow_spec (d := .int .i64) (k := .int .i64 k) rfl es.toList 0 hks with ⟨h1, h2⟩ | ⟨j, e, h1, h2, h3⟩
  · refine ⟨z, clock, _, ?_, mod_set hb, es.push ⟨.int .i64 k, z, clock⟩, clock + 1, (heap_set hb).1, stamped_push hs h2, ?_, ⟨es.size, ⟨.int .i64 k, z, clock⟩, by simp, rfl, rfl⟩, ?_⟩
    · simp [Instr.mapEntry, run_underlying hm, MapKept.run_getObj_map hb, MapKept.run_checkKey hd (k := .int .i64 k) rfl, MapKept.run_findKey hd h1, Result.andThen, hz', MapKept.run_setObj_map _ hb, goInt]
    · intro x hx
      simp only [Array.toList_push, List.mem_append, List.mem_singleton] at hx
      rcases hx with hx | rfl
      · exact hks x hx
      · rfl
    · intro k' hk' v
      rw [hf k' v]
      simp only [Array.toList_push, List.mem_append, List.mem_singleton]
      constructor
      · rintro ⟨x, hx, r⟩; exact ⟨x, .inl hx, r⟩
      · rintro ⟨x, hx | rfl, r1, r2⟩
        · exact ⟨x, hx, r1, r2⟩
        · injection r1 with _ r1
          exact absurd r1.symm hk'
  · have hj : es[j]? = some e := by simpa using h2
    have hmod : es.modify j (fun e => { e with key := .int .i64 k }) = es := by
      apply Array.ext'
      apply List.ext_getElem?
      intro i
      simp only [Array.getElem?_toList, Array.getElem?_modify]
      by_cases hij : j = i
      · subst hij
        rw [if_pos rfl, hj]
        simp [← h3]
      · rw [if_neg hij]
    refine ⟨e.val, e.born, { w with heap := w.heap.setIfInBounds b (.map es clock) }, ?_, mod_set hb, es, clock, (heap_set hb).1, hs, hks, ⟨j, e, hj, h3, rfl⟩, fun k' _ v => hf k' v⟩
    simp [Instr.mapEntry, run_underlying hm, MapKept.run_getObj_map hb, MapKept.run_checkKey hd (k := .int .i64 k) rfl, MapKept.run_findKey hd h1, hj, h3, MapKept.run_keyThatStays (d := .int .i64) (k := .int .i64 k) rfl, MapKept.run_setObj_map _ hb, Result.andThen, hmod, goInt]
theorem run_entryStore {t : TypeId} {k st : Int} (h : MpE w b k st f) (v : Value) :
    ∃ w', (Instr.entryStore t (.map (some b)) (.int .i64 st) v).run P w = .ok () w' ∧ Mod [b] w w' ∧ Mp w' b (fun x => if x = k then some v else f x) := by
  obtain ⟨es, clock, hb, hs, hks, ⟨j, e, hj, hk, hst⟩, hf⟩ := h
  have hfi : es.findIdx? (fun e => (e.born : Int) == st) = some j := by
    have hjl := (Array.getElem?_eq_some_iff.1 hj).1
    rw [Array.findIdx?_eq_some_iff_getElem]
    have hje : es[j] = e := (Array.getElem?_eq_some_iff.1 hj).2
    refine ⟨hjl, by simp [hje, hst], fun i hi => ?_⟩
    have hil : i < es.size := by omega
    have hn := hs.2.1
    have hne : es[i].born ≠ es[j].born := fun he => by
      have := (List.getElem_inj (i := i) (j := j) (h₀ := by simpa using hil) (h₁ := by simpa using hjl) hn).1 (by simpa using he)
      omega
    rw [hje] at hne
    simp
    omega
  have hem : e ∈ es.toList := by rw [Array.mem_toList_iff, Array.mem_iff_getElem?]; exact ⟨j, hj⟩
  refine ⟨_, ?_, mod_set hb, es.modify j (fun e => { e with val := v }), clock, (heap_set hb).1, stamped_modify hs _ _ (fun _ _ => rfl) (fun _ _ _ => rfl), isKey_modify hks _ _ (fun _ _ => rfl), ?_⟩
  · simp [Instr.entryStore, MapKept.run_getObj_map hb, asInt, asIntOf, Result.andThen, hfi, MapKept.run_setObj_map _ hb]
  · intro k' v'
    have hmem : ∀ x, x ∈ (es.modify j (fun e => { e with val := v })).toList ↔ (x ∈ es.toList ∧ x.key ≠ .int .i64 k) ∨ x = { e with val := v } := by
      intro x
      constructor
      · intro hx
        rw [Array.mem_toList_iff, Array.mem_iff_getElem?] at hx
        obtain ⟨i, hi⟩ := hx
        rw [Array.getElem?_modify] at hi
        by_cases hij : j = i
        · subst hij
          rw [if_pos rfl, hj] at hi
          right
          simpa using hi.symm
        · rw [if_neg hij] at hi
          left
          refine ⟨by rw [Array.mem_toList_iff, Array.mem_iff_getElem?]; exact ⟨i, hi⟩, fun hxk => hij ?_⟩
          have hil := (Array.getElem?_eq_some_iff.1 hi).1
          have hjl := (Array.getElem?_eq_some_iff.1 hj).1
          exact (List.getElem_inj (i := j) (j := i) (h₀ := by simpa using hjl) (h₁ := by simpa using hil) hs.2.2).1 (by
            simp only [List.getElem_map, Array.getElem_toList]
            rw [(Array.getElem?_eq_some_iff.1 hi).2, (Array.getElem?_eq_some_iff.1 hj).2, hk, hxk])
      · rintro (⟨hx, hxk⟩ | rfl)
        · rw [Array.mem_toList_iff, Array.mem_iff_getElem?] at hx ⊢
          obtain ⟨i, hi⟩ := hx
          refine ⟨i, ?_⟩
          rw [Array.getElem?_modify, if_neg (fun hij => by subst hij; rw [hj] at hi; cases hi; exact hxk hk)]
          exact hi
        · rw [Array.mem_toList_iff, Array.mem_iff_getElem?]
          exact ⟨j, by rw [Array.getElem?_modify, if_pos rfl, hj]; rfl⟩
    dsimp only
    by_cases hkk : k' = k
    · subst hkk
      rw [if_pos rfl]
      constructor
      · intro hv
        cases hv
        exact ⟨{ e with val := v }, (hmem _).2 (.inr rfl), hk, rfl⟩
      · rintro ⟨x, hx, hxk, rfl⟩
        rcases (hmem x).1 hx with ⟨_, hne⟩ | rfl
        · exact absurd hxk hne
        · rfl
    · rw [if_neg hkk, hf k' hkk v']
      constructor
      · rintro ⟨x, hx, hxk, hxv⟩
        exact ⟨x, (hmem x).2 (.inl ⟨hx, fun h => by rw [hxk] at h; injection h with _ h; exact hkk h⟩), hxk, hxv⟩
      · rintro ⟨x, hx, hxk, hxv⟩
        rcases (hmem x).1 hx with ⟨hx, _⟩ | rfl
        · exact ⟨x, hx, hxk, hxv⟩
        · rw [show ({ e with val := v } : MapEntry).key = e.key from rfl, hk] at hxk
          injection hxk with _ hxk
          exact absurd hxk.symm hkk
theorem run_clearMap {t kt et ty : TypeId} (hm : P.underlying t = some (.map kt et)) (h : Mp w b f) :
    ∃ w', (Builtin.clear_ #[t] ty #[.map (some b)]).run P w = .ok (.tuple #[]) w' ∧ Mod [b] w w' ∧ Mp w' b (fun _ => none) := by
  obtain ⟨es, clock, hb, hs, hks, hf⟩ := h
  refine ⟨{ w with heap := w.heap.setIfInBounds b (.map #[] clock) }, ?_, mod_set hb, #[], clock, (heap_set hb).1, stamped_empty _, by simp, by simp⟩
  simp [Builtin.clear_, run_underlying hm, MapKept.run_getObj_map hb, MapKept.run_setObj_map _ hb, Result.andThen]
end
section
variable {P : Program} {a : Act} {w : World} {K : Act → World → Prop} {Q : Exit → Act → World → Prop}
variable {d : Option Tmp} {ty : TypeId} {ps : String} {af : Array Edge} {gd : Option (Nat × Bool)}
theorem wp_makeMap {t : TypeId} (h : ∀ g w', w.heap.size ≤ g → g < w'.heap.size → Mod [] w w' → Mp w' g (fun _ => none) → K (a.put d (.map (some g))) w') :
    Oper.wp P { dst := d, op := .makeMap t none, type := ty, pos := ps, after := af, guard := gd } a w K Q := by
  refine wp_of_run (v := .map (some w.heap.size)) (w' := w.alloc (.map #[] 0)) ?_ ?_
  · unfold execOp
    exact run_v rfl
  · exact h _ _ (Nat.le_refl _) (by simp) (Mod.alloc [] _ _) (Mp.new w)
theorem wp_look2 {t kt et : TypeId} {z : Value} {xm xk : Operand} {b : Nat} {f : Int → Option Value} {k : Int} (hm : P.underlying t = some (.map kt et)) (hd : P.underlying kt = some (.int .i64)) (hz : (P.info? et).map (·.zero) = some (some z))
    (hxm : a.eval xm = .map (some b)) (hxk : a.eval xk = .int .i64 k) (hp : Mp w b f) (h : K (a.put d (.tuple #[(f k).getD z, .bool (f k).isSome])) w) :
    Oper.wp P { dst := d, op := .lookup t xm xk true, type := ty, pos := ps, after := af, guard := gd } a w K Q := by
  refine wp_of_run (v := .tuple #[(f k).getD z, .bool (f k).isSome]) (w' := w) ?_ h
  unfold execOp
  refine run_v ?_
  rw [hxm, hxk]
  exact run_look2 hm hd hz hp k
theorem wp_look_some {t kt et : TypeId} {z v : Value} {xm xk : Operand} {b : Nat} {f : Int → Option Value} {k : Int} (hm : P.underlying t = some (.map kt et)) (hd : P.underlying kt = some (.int .i64)) (hz : (P.info? et).map (·.zero) = some (some z))
    (hxm : a.eval xm = .map (some b)) (hxk : a.eval xk = .int .i64 k) (hp : Mp w b f) (hv : f k = some v) (h : K (a.put d (.tuple #[v, .bool true])) w) :
    Oper.wp P { dst := d, op := .lookup t xm xk true, type := ty, pos := ps, after := af, guard := gd } a w K Q :=
  wp_look2 hm hd hz hxm hxk hp (by rw [hv]; exact h)
theorem wp_look_none {t kt et : TypeId} {z : Value} {xm xk : Operand} {b : Nat} {f : Int → Option Value} {k : Int} (hm : P.underlying t = some (.map kt et)) (hd : P.underlying kt = some (.int .i64)) (hz : (P.info? et).map (·.zero) = some (some z))
    (hxm : a.eval xm = .map (some b)) (hxk : a.eval xk = .int .i64 k) (hp : Mp w b f) (hv : f k = none) (h : K (a.put d (.tuple #[z, .bool false])) w) :
    Oper.wp P { dst := d, op := .lookup t xm xk true, type := ty, pos := ps, after := af, guard := gd } a w K Q :=
  wp_look2 hm hd hz hxm hxk hp (by rw [hv]; exact h)
theorem wp_entry {t kt et : TypeId} {z : Value} {xm xk : Operand} {b : Nat} {f : Int → Option Value} {k : Int} (hm : P.underlying t = some (.map kt et)) (hd : P.underlying kt = some (.int .i64)) (hz : (P.info? et).map (·.zero) = some (some z))
    (hxm : a.eval xm = .map (some b)) (hxk : a.eval xk = .int .i64 k) (hp : Mp w b f) (h : ∀ v0 st w', Mod [b] w w' → MpE w' b k st f → K (a.put d (.tuple #[v0, .int .i64 st])) w') :
    Oper.wp P { dst := d, op := .mapEntry t xm xk, type := ty, pos := ps, after := af, guard := gd } a w K Q := by
  obtain ⟨v0, st, w1, hr, h1, h2⟩ := run_entry hm hd hz hp k
  refine wp_of_run (v := .tuple #[v0, .int .i64 st]) (w' := w1) ?_ (h v0 st w1 h1 h2)
  unfold execOp
  refine run_v ?_
  rw [hxm, hxk]
  exact hr
theorem wp_entryStore {t : TypeId} {xm xs xv : Operand} {b : Nat} {f : Int → Option Value} {k st : Int} {v : Value}
    (hxm : a.eval xm = .map (some b)) (hxs : a.eval xs = .int .i64 st) (hxv : a.eval xv = v) (hp : MpE w b k st f) (h : ∀ w', Mod [b] w w' → Mp w' b (fun x => if x = k then some v else f x) → K a w') :
    Oper.wp P { dst := none, op := .entryStore t xm xs xv, type := ty, pos := ps, after := af, guard := gd } a w K Q := by
  obtain ⟨w1, hr, h1, h2⟩ := run_entryStore (P := P) (t := t) hp v
  refine wp_of_skip (w' := w1) ?_ (h w1 h1 h2)
  unfold execOp
  dsimp only
  rw [hxm, hxs, hxv, run_bind', hr]
  rfl
theorem wp_clearMap {t kt et : TypeId} {xm : Operand} {b : Nat} {f : Int → Option Value} (hm : P.underlying t = some (.map kt et)) (hxm : a.eval xm = .map (some b)) (hp : Mp w b f)
    (h : ∀ w', Mod [b] w w' → Mp w' b (fun _ => none) → K (a.put d (.tuple #[])) w') :
    Oper.wp P { dst := d, op := .call { callee := .builtin .clear, args := #[xm], argTypes := #[t] }, type := ty, pos := ps, after := af, guard := gd } a w K Q := by
  obtain ⟨w', hr, h1, h2⟩ := run_clearMap (ty := ty) hm hp
  unfold Oper.wp execOp
  simp only [resolve, invoke, builtin, Sem.run_bind, Sem.run_pure, Result.andThen_ok, List.map_toArray, List.map_cons, List.map_nil, hxm, hr]
  exact h w' h1 h2
end
section
variable {P : Program} {ops : Array Oper} {a : Act} {w : World} {Q : Exit → Act → World → Prop} {rest : List Oper}
variable {d : Option Tmp} {ty : TypeId} {ps : String} {af : Array Edge} {gd : Option (Nat × Bool)}
theorem st_makeMap {t : TypeId} {r : Option Operand} (h : StopOp P ops Q ({ dst := d, op := .makeMap t r, type := ty, pos := ps, after := af, guard := gd } :: rest) a w) : wpList P ops Q ({ dst := d, op := .makeMap t r, type := ty, pos := ps, after := af, guard := gd } :: rest) a w := h
theorem st_lookup {t : TypeId} {x y : Operand} {c : Bool} (h : StopOp P ops Q ({ dst := d, op := .lookup t x y c, type := ty, pos := ps, after := af, guard := gd } :: rest) a w) : wpList P ops Q ({ dst := d, op := .lookup t x y c, type := ty, pos := ps, after := af, guard := gd } :: rest) a w := h
end
end Go.Proofs.YtfepggdljhiemaaGreatDoor.Gw
