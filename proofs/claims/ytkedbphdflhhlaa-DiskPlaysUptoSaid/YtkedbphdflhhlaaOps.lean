/- Laws at single operations: the world behind each is a letter, known by what has turned. No program is named here. -/
import Derived.Test.YtkedbphdflhhlaaMem
import Derived.WalkSpells
import Derived.WalkLawsBesides
set_option linter.unusedVariables false
set_option linter.unusedSimpArgs false
set_option maxRecDepth 100000
namespace Go.Proofs.Ytkedbphdflhhlaa.Gw
open Go

section
variable {P : Program} {a : Act} {w : World} {K : Act → World → Prop} {Q : Exit → Act → World → Prop}
variable {d : Option Tmp} {ty : TypeId} {ps : String} {af : Array Edge} {gd : Option (Nat × Bool)}

theorem wp_of_run {o : Oper} {v : Value} {w' : World} (h : (execOp a.eval o).run P w = .ok (.value v) w') (hK : K (a.put o.dst v) w') : o.wp P a w K Q := by
  unfold Oper.wp
  rw [h]
  exact hK
theorem wp_of_skip {o : Oper} {w' : World} (h : (execOp a.eval o).run P w = .ok .skip w') (hK : K (a.put o.dst undef) w') : o.wp P a w K Q := by
  unfold Oper.wp
  rw [h]
  exact hK
theorem run_v {e : Sem Value} {v : Value} {w' : World} (h : e.run P w = .ok v w') : (do pure (Next.value (← e)) : Sem Next).run P w = .ok (.value v) w' := by
  rw [run_bind', h]
  rfl

theorem run_newVar (T : TypeId) (z : Value) (w : World) : (newVar T z).run P w = .ok ⟨w.heap.size, 0, none⟩ (w.alloc (.cells z.cells T)) := rfl
theorem run_zeroValue {T : TypeId} {z : Value} (h : (P.info? T).map (·.zero) = some (some z)) (w : World) : (zeroValue T).run P w = .ok z w := by
  obtain ⟨i, hi, hz⟩ := Option.map_eq_some_iff.1 h
  simp [zeroValue, typeInfo, hi, hz]

/-- A new variable. -/
theorem wp_alloc {T : TypeId} {z : Value} (hz : (P.info? T).map (·.zero) = some (some z))
    (h : ∀ g w', w.heap.size ≤ g → g < w'.heap.size → Mod [] w w' → Blk w' g T z.cells.toList → K (a.put d (.pointer (some ⟨g, 0, none⟩))) w') :
    Oper.wp P { dst := d, op := .alloc T, type := ty, pos := ps, after := af, guard := gd } a w K Q := by
  refine wp_of_run (v := .pointer (some ⟨w.heap.size, 0, none⟩)) (w' := w.alloc (.cells z.cells T)) ?_ ?_
  · unfold execOp
    refine run_v ?_
    unfold Instr.alloc
    rw [run_bind', run_zeroValue hz]
    rfl
  · exact h _ _ (Nat.le_refl _) (by simp) (Mod.alloc [] _ _) (Blk.new _ _ _)
/-- '&T{..}' -/
theorem wp_box {T : TypeId} {x : Operand} {v : Value} (hx : a.eval x = v)
    (h : ∀ g w', w.heap.size ≤ g → g < w'.heap.size → Mod [] w w' → Blk w' g T v.cells.toList → K (a.put d (.pointer (some ⟨g, 0, none⟩))) w') :
    Oper.wp P { dst := d, op := .box T x, type := ty, pos := ps, after := af, guard := gd } a w K Q := by
  subst hx
  refine wp_of_run (v := .pointer (some ⟨w.heap.size, 0, none⟩)) (w' := w.alloc (.cells (a.eval x).cells T)) ?_ ?_
  · unfold execOp
    exact run_v rfl
  · exact h _ _ (Nat.le_refl _) (by simp) (Mod.alloc [] _ _) (Blk.new _ _ _)

theorem getElem?_flatten_replicate (l : List Value) (hl : 0 < l.length) : ∀ (n j : Nat), j < n * l.length → ((List.replicate n l).flatten)[j]? = l[j % l.length]?
  | 0, j, h => by omega
  | n + 1, j, h => by
    rw [List.replicate_succ, List.flatten_cons]
    by_cases hj : j < l.length
    · rw [List.getElem?_append_left hj, Nat.mod_eq_of_lt hj]
    · have hs : (n + 1) * l.length = n * l.length + l.length := by rw [Nat.add_mul]; omega
      rw [List.getElem?_append_right (by omega), getElem?_flatten_replicate l hl n (j - l.length) (by omega), ← Nat.mod_eq_sub_mod (by omega)]
theorem toList_made (z : Array Value) (hz : 0 < z.size) (n : Nat) : (madeCells z (n * z.size)).toList = (List.replicate n z.toList).flatten := by
  apply List.ext_getElem?
  intro j
  by_cases hj : j < n * z.size
  · have h1 : j % z.size < z.size := Nat.mod_lt _ hz
    rw [getElem?_flatten_replicate _ (by simpa using hz) n j (by simpa using hj)]
    simp [madeCells, hj, h1]
  · rw [List.getElem?_eq_none (by simp [madeCells]; omega), List.getElem?_eq_none (by simp; omega)]
/-- make([]T, l, c) -/
theorem wp_make {t e : TypeId} {z : Value} {sz bytes : Nat} (st : ST P t e z sz bytes) {xl xc : Operand} {kl kc : IntKind} {l c : Int} {nl nc : Nat} (hl : a.eval xl = .int kl l) (hc : a.eval xc = .int kc c) (el : l = nl) (ec : c = nc)
    (hlc : nl ≤ nc) (hb : nc * bytes ≤ 281474976710656) (hn : nc ≤ 9223372036854775807)
    (h : ∀ g w', w.heap.size ≤ g → g < w'.heap.size → Mod [] w w' → Blk w' g e ((List.replicate nc z.cells.toList).flatten) → K (a.put d (.slice (some ⟨g, 0, none⟩) nl nc)) w') :
    Oper.wp P { dst := d, op := .makeSlice t xl xc, type := ty, pos := ps, after := af, guard := gd } a w K Q := by
  subst el ec
  obtain ⟨i, hi, hz, hs, hby⟩ := info_parts st.info
  subst hs hby
  have hr := run_make (P := P) w t e i z st.under hi hz kl kc nl nc (by omega) (by omega) (by rw [← Int.natCast_mul, Nat.mul_comm]; omega) (by omega)
  have hcells := toList_made z.cells (by rw [st.cells]; exact st.pos) nc
  rw [st.cells] at hcells
  refine wp_of_run (v := .slice (some ⟨w.heap.size, 0, none⟩) nl nc) (w' := w.alloc (.cells (madeCells z.cells (nc * i.size)) e)) ?_ ?_
  · unfold execOp
    refine run_v ?_
    rw [hl, hc, hr]
    simp
  · refine h _ _ (Nat.le_refl _) (by simp) (Mod.alloc [] _ _) ?_
    rw [← hcells]
    exact Blk.new _ _ _

theorem foldl_set (off : Nat) : ∀ (l : List Value) (k : Nat) (cs : Array Value), off + k + l.length ≤ cs.size →
    (l.zipIdx k).foldl (fun cs (p : Value × Nat) => cs.setIfInBounds (off + p.2) p.1) cs = (cs.toList.take (off + k) ++ l ++ cs.toList.drop (off + k + l.length)).toArray
  | [], k, cs, _ => by simp
  | v :: l, k, cs, h => by
    simp only [List.length_cons] at h
    rw [List.zipIdx_cons, List.foldl_cons, foldl_set off l (k + 1) _ (by simp; omega)]
    apply congrArg List.toArray
    have h1 : off + k < cs.toList.length := by simp; omega
    simp only [Array.toList_setIfInBounds, List.length_cons]
    rw [show off + (k + 1) = off + k + 1 by omega, List.take_succ_eq_append_getElem (by simpa using h1), List.getElem_set_self, List.take_set_of_le (by omega), List.drop_set_of_lt (by omega)]
    rw [show off + k + 1 + l.length = off + k + (l.length + 1) by omega]
    simp
theorem fill_all (sz : Nat) : ∀ (vs : List Value) (k : Nat) (pre post : List Value), (∀ v ∈ vs, v.cells.size = sz) → pre.length = k * sz → post.length = vs.length * sz →
    Instr.fill (fun i => some (i * sz, sz)) (pre ++ post).toArray ((vs.zipIdx k).map fun p => (p.2, p.1)) = some (pre ++ vs.flatMap fun v => v.cells.toList).toArray
  | [], k, pre, post, _, _, hpost => by
    have : post = [] := List.eq_nil_of_length_eq_zero (by simpa using hpost)
    subst this
    simp [Instr.fill]
  | v :: vs, k, pre, post, hvs, hpre, hpost => by
    have hv : v.cells.size = sz := hvs v (List.mem_cons_self ..)
    have hsz : (vs.length + 1) * sz = vs.length * sz + sz := by rw [Nat.add_mul]; omega
    simp only [List.length_cons, hsz] at hpost
    rw [List.zipIdx_cons, List.map_cons]
    unfold Instr.fill
    dsimp only
    rw [if_neg (by simp [hv, hpre, hpost])]
    have hf : v.cells.zipIdx.foldl (fun cs (p : Value × Nat) => cs.setIfInBounds (k * sz + p.2) p.1) (pre ++ post).toArray = ((pre ++ v.cells.toList) ++ post.drop sz).toArray := by
      rw [← Array.foldl_toList, Array.toList_zipIdx, foldl_set (k * sz) v.cells.toList 0 _ (by simp [hv, hpre, hpost])]
      apply congrArg List.toArray
      simp only [Nat.add_zero, Array.length_toList, hv]
      rw [List.take_append_of_le_length (by omega), List.take_of_length_le (by omega), List.drop_append, hpre]
      rw [List.drop_of_length_le (by omega), show k * sz + sz - k * sz = sz by omega]
      simp
    have h2 := fill_all sz vs (k + 1) (pre ++ v.cells.toList) (post.drop sz) (fun u hu => hvs u (List.mem_cons_of_mem _ hu)) (by simp [hpre, hv, Nat.add_mul]) (by rw [List.length_drop]; omega)
    refine Eq.trans ?_ (h2.trans ?_)
    · exact congrArg (fun c => Instr.fill (fun i => some (i * sz, sz)) c ((vs.zipIdx (k + 1)).map fun p => (p.2, p.1))) hf
    · simp
/-- []T{..}, every element written out. -/
theorem wp_bslice {t e : TypeId} {z : Value} {sz bytes : Nat} (st : ST P t e z sz bytes) {xs : Array (Nat × Operand)} {n : Nat} (vs : List Value) (hvs : vs.length = n) (hn : n * sz ≤ 16777216)
    (hp : (xs.toList.map fun (y : Nat × Operand) => (y.1, a.eval y.2)) = vs.zipIdx.map fun p => (p.2, p.1)) (hs : ∀ v ∈ vs, v.cells.size = sz)
    (h : ∀ g w', w.heap.size ≤ g → g < w'.heap.size → Mod [] w w' → Blk w' g e (vs.flatMap fun v => v.cells.toList) → K (a.put d (.slice (some ⟨g, 0, none⟩) n n)) w') :
    Oper.wp P { dst := d, op := .buildSlice t n xs, type := ty, pos := ps, after := af, guard := gd } a w K Q := by
  obtain ⟨i, hi, hz, hsi, hby⟩ := info_parts st.info
  subst hsi
  have hf : Instr.fill (fun k => some (k * i.size, i.size)) ((Array.range (n * i.size)).map ((if n * i.size = 0 then #[] else z.cells)[· % (if n * i.size = 0 then #[] else z.cells).size]!)) (xs.map fun (y : Nat × Operand) => (y.1, a.eval y.2)).toList = some (vs.flatMap fun v => v.cells.toList).toArray := by
    have h1 := fill_all i.size vs 0 [] ((Array.range (n * i.size)).map ((if n * i.size = 0 then #[] else z.cells)[· % (if n * i.size = 0 then #[] else z.cells).size]!)).toList hs (by simp) (by simp [hvs])
    rw [Array.toList_map, hp]
    simpa only [List.nil_append, Array.toArray_toList] using h1
  generalize hcs : (vs.flatMap fun v => v.cells.toList) = cells at hf h
  refine wp_of_run (v := .slice (some ⟨w.heap.size, 0, none⟩) n n) (w' := w.alloc (.cells cells.toArray e)) ?_ ?_
  · unfold execOp
    refine run_v ?_
    unfold Instr.buildSlice
    have hbig : ¬ (n * i.size > 2 ^ 24) := by omega
    rw [run_bind', run_underlying_eq, st.under]
    dsimp only
    rw [run_bind', run_sizeOf_eq, hi]
    dsimp only
    rw [if_neg hbig]
    by_cases h0 : n * i.size = 0
    · simp only [if_pos h0] at hf
      rw [if_pos h0]
      simp only [Sem.run_bind, Sem.run_pure, Result.andThen_ok, hf]
      rfl
    · simp only [if_neg h0] at hf
      rw [if_neg h0]
      rw [run_bind', run_zeroValue (T := e) (z := z) (by rw [hi]; simp [hz])]
      simp only [Sem.run_bind, Sem.run_pure, Result.andThen_ok, hf]
      rfl
  · exact h _ _ (Nat.le_refl _) (by simp) (Mod.alloc [] _ _) (Blk.new _ _ _)

theorem wp_append_ow {t e : TypeId} {z : Value} {sz bytes : Nat} (st : ST P t e z sz bytes) {s x : Operand} {v xv : Value} {n m : Nat} {xs ys : List Value} (hs : a.eval s = v) (hx : a.eval x = xv)
    (hv : Ow w e sz v n xs) (hy : Sl w sz xv m ys) (h1 : ∀ u ∈ ys, u.oneCell' = true) (hb : (n + m) * bytes ≤ 140737488355328) (hn : n + m ≤ 9223372036854775807)
    (h : ∀ v' w', Ow w' e sz v' (n + m) (xs ++ ys) → Mod (blks v) w w' → (∀ k ∈ blks v', k ∈ blks v ∨ w.heap.size ≤ k) → K (a.put d v') w') :
    Oper.wp P { dst := d, op := .call { callee := .builtin .append, args := #[s, x], argTypes := #[t, t] }, type := ty, pos := ps, after := af, guard := gd } a w K Q := by
  obtain ⟨v', w', hr, h2, h3, h4⟩ := run_append_ow st w ty hv hy h1 hb hn
  unfold Oper.wp execOp
  simp only [resolve, invoke, builtin, Sem.run_bind, Sem.run_pure, Result.andThen_ok, List.map_toArray, List.map_cons, List.map_nil, hs, hx, hr]
  exact h v' w' h2 h3 h4
theorem wp_append_cp {t e : TypeId} {z : Value} {sz bytes : Nat} (st : ST P t e z sz bytes) {s x : Operand} {ao : Option Addr} {xv : Value} {n m cap : Nat} {xs ys : List Value} (hs : a.eval s = .slice ao n cap) (hx : a.eval x = xv)
    (hv : Sl w sz (.slice ao n cap) n xs) (hy : Sl w sz xv m ys) (h1 : ∀ u ∈ ys, u.oneCell' = true) (hb : (n + m) * bytes ≤ 140737488355328) (hn : n + m ≤ 9223372036854775807) (hfull : m = 0 ∨ cap < n + m)
    (h : ∀ v' w', Sl w' sz v' (n + m) (xs ++ ys) → Mod [] w w' → (m = 0 → v' = .slice ao n cap ∧ w' = w) → (m ≠ 0 → Ow w' e sz v' (n + m) (xs ++ ys) ∧ ∀ k ∈ blks v', w.heap.size ≤ k) → K (a.put d v') w') :
    Oper.wp P { dst := d, op := .call { callee := .builtin .append, args := #[s, x], argTypes := #[t, t] }, type := ty, pos := ps, after := af, guard := gd } a w K Q := by
  obtain ⟨v', w', hr, h2, h3, h4, h5⟩ := run_append_cp st w ty hv hy h1 hb hn hfull
  unfold Oper.wp execOp
  simp only [resolve, invoke, builtin, Sem.run_bind, Sem.run_pure, Result.andThen_ok, List.map_toArray, List.map_cons, List.map_nil, hs, hx, hr]
  exact h v' w' h2 h3 h4 h5

theorem setRow_list (w : World) (g : Nat) {T : TypeId} {cs : List Value} (hb : Blk w g T cs) (ds : List Value) : Blk (w.setRow g ds.toArray) g T ds ∧ Mod [g] w (w.setRow g ds.toArray) :=
  ⟨setRow_heap w g cs.toArray _ T _ hb, ⟨rfl, rfl, rfl, by simp, fun k _ hk => setRow_other w g k _ (by simpa using hk)⟩⟩

/-- A store of a value of whatever number of cells into a block that is known whole. -/
theorem wp_store {t : TypeId} {xa x : Operand} {g i : Nat} {u : Value} {T : TypeId} {cs : List Value} (ha : a.eval xa = .pointer (some ⟨g, i, none⟩)) (hx : a.eval x = u) (hsz : (P.info? t).map (·.size) = some u.cells.size)
    (hb : Blk w g T cs) (hi : i + u.cells.size ≤ cs.length) (h1 : ∀ c ∈ u.cells.toList, c.oneCell' = true)
    (h : ∀ w', Mod [g] w w' → Blk w' g T (cs.take i ++ u.cells.toList ++ cs.drop (i + u.cells.size)) → K a w') :
    Oper.wp P { dst := none, op := .store t xa x, type := ty, pos := ps, after := af, guard := gd } a w K Q := by
  obtain ⟨inf, hinf, hs⟩ := Option.map_eq_some_iff.1 hsz
  have hst := run_storeCells_at P g i T u.cells.toList 0 cs.toArray w hb (by simpa using hi) h1
  simp only [Nat.add_zero] at hst
  have hl := setRow_list w g hb (cs.take i ++ u.cells.toList ++ cs.drop (i + u.cells.size))
  refine wp_of_skip (w' := w.setRow g (cs.take i ++ u.cells.toList ++ cs.drop (i + u.cells.size)).toArray) ?_ (h _ hl.2 hl.1)
  unfold execOp
  dsimp only
  rw [ha, hx]
  have hstore : (Instr.storeAt t (.pointer (some ⟨g, i, none⟩)) u).run P w = .ok () (w.setRow g (cs.take i ++ u.cells.toList ++ cs.drop (i + u.cells.size)).toArray) := by
    unfold Instr.storeAt
    rw [run_bind']
    show (storeVar t ⟨g, i, none⟩ u).run P w = _
    unfold storeVar
    rw [run_bind', run_sizeOf_eq, hinf]
    dsimp only
    rw [if_neg (by rw [hs]; simp)]
    refine Eq.trans hst ?_
    simp
  rw [run_bind', hstore]
  rfl
/-- of one cell -/
theorem wp_store1 {t : TypeId} {xa x : Operand} {g i : Nat} {u : Value} {T : TypeId} {cs : List Value} (hsz : (P.info? t).map (·.size) = some 1) (ha : a.eval xa = .pointer (some ⟨g, i, none⟩)) (hx : a.eval x = u)
    (hu : u.cells = #[u] ∧ u.oneCell' = true) (hb : Blk w g T cs) (hi : i < cs.length)
    (h : ∀ w', Mod [g] w w' → Blk w' g T (cs.set i u) → K a w') :
    Oper.wp P { dst := none, op := .store t xa x, type := ty, pos := ps, after := af, guard := gd } a w K Q := by
  refine wp_store (u := u) ha hx (by rw [hu.1]; exact hsz) hb (by rw [hu.1]; exact hi) (by rw [hu.1]; simpa using hu.2) fun w' hm hb' => h w' hm ?_
  rw [hu.1] at hb'
  have : cs.take i ++ [u] ++ cs.drop (i + 1) = cs.set i u := by
    rw [List.set_eq_take_append_cons_drop, if_pos hi]; simp
  simpa [this] using hb'
end

/-! ### Where the walk stops: an operation that wants a law -/
/-- The list of operations, under a name at which the walk stands still. -/
def StopOp (P : Program) (ops : Array Oper) (Q : Exit → Act → World → Prop) (l : List Oper) (a : Act) (w : World) : Prop := wpList P ops Q l a w
section
variable {P : Program} {ops : Array Oper} {a : Act} {w : World} {Q : Exit → Act → World → Prop} {rest : List Oper}
variable {d : Option Tmp} {ty : TypeId} {ps : String} {af : Array Edge} {gd : Option (Nat × Bool)}
theorem StopOp.go {o : Oper} (hg : o.guard = none) (h : ∀ K : Act → World → Prop, (∀ a w, wpList P ops Q rest a w → K a w) → o.wp P a w K Q) : StopOp P ops Q (o :: rest) a w := wpList_plain hg h
theorem st_make {t : TypeId} {x y : Operand} (h : StopOp P ops Q ({ dst := d, op := .makeSlice t x y, type := ty, pos := ps, after := af, guard := gd } :: rest) a w) : wpList P ops Q ({ dst := d, op := .makeSlice t x y, type := ty, pos := ps, after := af, guard := gd } :: rest) a w := h
theorem st_append {xs : Array Operand} {ts : Array TypeId} (h : StopOp P ops Q ({ dst := d, op := .call { callee := .builtin .append, args := xs, argTypes := ts }, type := ty, pos := ps, after := af, guard := gd } :: rest) a w) : wpList P ops Q ({ dst := d, op := .call { callee := .builtin .append, args := xs, argTypes := ts }, type := ty, pos := ps, after := af, guard := gd } :: rest) a w := h
theorem st_copy {xs : Array Operand} {ts : Array TypeId} (h : StopOp P ops Q ({ dst := d, op := .call { callee := .builtin .copy, args := xs, argTypes := ts }, type := ty, pos := ps, after := af, guard := gd } :: rest) a w) : wpList P ops Q ({ dst := d, op := .call { callee := .builtin .copy, args := xs, argTypes := ts }, type := ty, pos := ps, after := af, guard := gd } :: rest) a w := h
theorem st_clear {xs : Array Operand} {ts : Array TypeId} (h : StopOp P ops Q ({ dst := d, op := .call { callee := .builtin .clear, args := xs, argTypes := ts }, type := ty, pos := ps, after := af, guard := gd } :: rest) a w) : wpList P ops Q ({ dst := d, op := .call { callee := .builtin .clear, args := xs, argTypes := ts }, type := ty, pos := ps, after := af, guard := gd } :: rest) a w := h
theorem st_alloc {t : TypeId} (h : StopOp P ops Q ({ dst := d, op := .alloc t, type := ty, pos := ps, after := af, guard := gd } :: rest) a w) : wpList P ops Q ({ dst := d, op := .alloc t, type := ty, pos := ps, after := af, guard := gd } :: rest) a w := h
theorem st_box {t : TypeId} {x : Operand} (h : StopOp P ops Q ({ dst := d, op := .box t x, type := ty, pos := ps, after := af, guard := gd } :: rest) a w) : wpList P ops Q ({ dst := d, op := .box t x, type := ty, pos := ps, after := af, guard := gd } :: rest) a w := h
theorem st_bslice {t : TypeId} {n : Nat} {xs : Array (Nat × Operand)} (h : StopOp P ops Q ({ dst := d, op := .buildSlice t n xs, type := ty, pos := ps, after := af, guard := gd } :: rest) a w) : wpList P ops Q ({ dst := d, op := .buildSlice t n xs, type := ty, pos := ps, after := af, guard := gd } :: rest) a w := h
theorem st_store {t : TypeId} {x y : Operand} (h : StopOp P ops Q ({ dst := d, op := .store t x y, type := ty, pos := ps, after := af, guard := gd } :: rest) a w) : wpList P ops Q ({ dst := d, op := .store t x y, type := ty, pos := ps, after := af, guard := gd } :: rest) a w := h
end
section
variable {P : Program} {ops : Array Oper} {a : Act} {w : World} {Q : Exit → Act → World → Prop} {rest : List Stp}
variable {d : Option Tmp} {ty : TypeId} {ps : String} {af : Array Edge} {gd : Option (Nat × Bool)}
/-- A call of a Go function among the operations of a region that draws. -/
theorem wpT_call {i : Nat} {f : FuncId} {xs : Array Operand} {ts : Array TypeId}
    (ho : ops.toList[i]? = some { dst := d, op := .call { callee := .value (.func f), args := xs, argTypes := ts }, type := ty, pos := ps, after := af, guard := gd })
    (hw : Region.wanted { dst := d, op := .call { callee := .value (.func f), args := xs, argTypes := ts }, type := ty, pos := ps, after := af, guard := gd } (yielded ops a.tmps) = true)
    (h : ∀ K : Act → World → Prop, (∀ a' w', WpT P ops Q rest a' w' → K a' w') → Oper.wp P { dst := d, op := .call { callee := .value (.func f), args := xs, argTypes := ts }, type := ty, pos := ps, after := af, guard := gd } a w K (NoPanic Q)) :
    WpT P ops Q (⟨i, false, []⟩ :: rest) a w := wpT_e0 ho hw h
theorem wpT_callh {i j : Nat} {held : List Nat} {f : FuncId} {xs : Array Operand} {ts : Array TypeId}
    (ho : ops.toList[i]? = some { dst := d, op := .call { callee := .value (.func f), args := xs, argTypes := ts }, type := ty, pos := ps, after := af, guard := gd })
    (hw : Region.wanted { dst := d, op := .call { callee := .value (.func f), args := xs, argTypes := ts }, type := ty, pos := ps, after := af, guard := gd } (yielded ops a.tmps) = true)
    (h : ∀ K : Act → World → Prop, (∀ a' w', Agains P ops a w w' (j :: held) ∧ WpT P ops Q rest a' w' → K a' w') → Oper.wp P { dst := d, op := .call { callee := .value (.func f), args := xs, argTypes := ts }, type := ty, pos := ps, after := af, guard := gd } a w K (NoPanic Q)) :
    WpT P ops Q (⟨i, false, j :: held⟩ :: rest) a w := wpT_e ho hw h
end

@[go_sem] theorem run_eql_sl_nil {P : Program} (w : World) (t e : TypeId) (a : Option Addr) (l c : Nat) (h : P.underlying t = some (.slice e)) : (binOp .eql t (.slice a l c) (.slice none 0 0)).run P w = .ok (.bool a.isNone) w :=
  Lib.run_eql_slice_nil w t e a l c 0 0 h

/-! ### Frames -/
theorem put_some {l : List Value} {ds : List Deferred} {d : Nat} {v : Value} : ({ tmps := l.toArray, defers := ds } : Act).put (some d) v = { tmps := (l.set d v).toArray, defers := ds } := by
  simp [Act.put]
theorem put_none {a : Act} {v : Value} : a.put none v = a := rfl
end Go.Proofs.Ytkedbphdflhhlaa.Gw
