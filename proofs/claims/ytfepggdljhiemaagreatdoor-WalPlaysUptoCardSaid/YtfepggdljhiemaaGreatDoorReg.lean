import Derived.Orders
import Derived.Deep.RegionHeld3
import Derived.Laws.World
set_option linter.unusedVariables false
set_option linter.unusedSimpArgs false
set_option maxRecDepth 100000
/- Regions that draw their order: one walk of a script serves every order. No program is named here. -/
namespace Go.Proofs.YtfepggdljhiemaaGreatDoor.Gw
open Go

/-! ### Runs that do not look at the world -/

/-- A run that, where it ends well, leaves the world and would end alike in every world. -/
def WI {α : Type} (e : Sem α) : Prop := ∀ (P : Program) (w w1 : World) (v : α), e.run P w = .ok v w1 → w1 = w ∧ ∀ w', e.run P w' = .ok v w'

theorem run_bind' {α β : Type} (P : Program) (e : Sem α) (f : α → Sem β) (w : World) :
    (e >>= f).run P w = match e.run P w with | .ok a w1 => (f a).run P w1 | .halt h w1 => .halt h w1 := by
  have h := @Sem.run_bind
  first
    | (rw [Sem.run_bind]; cases e.run P w <;> rfl)

theorem wi_pure {α : Type} (a : α) : WI (Pure.pure a : Sem α) := by
  intro P w w1 v h
  have h' : Result.ok a w = Result.ok v w1 := h
  cases h'
  exact ⟨rfl, fun _ => rfl⟩
theorem wi_halt {α : Type} (x : Halt) : WI (Sem.halt x : Sem α) := by
  intro P w w1 v h; cases h
theorem wi_never {α : Type} {e : Sem α} (h : ∀ P w, ∃ x w', e.run P w = .halt x w') : WI e := by
  intro P w w1 v hr
  obtain ⟨x, w', hx⟩ := h P w
  rw [hx] at hr; cases hr
theorem wi_program : WI program := by
  intro P w w1 v h
  have h' : Result.ok P w = Result.ok v w1 := h
  cases h'
  exact ⟨rfl, fun _ => rfl⟩
theorem wi_bind {α β : Type} {e : Sem α} {f : α → Sem β} (he : WI e) (hf : ∀ a, WI (f a)) : WI (e >>= f) := by
  intro P w w1 v h
  rw [run_bind'] at h
  cases hr : e.run P w with
  | halt x w2 => rw [hr] at h; cases h
  | ok a w2 =>
    rw [hr] at h
    obtain ⟨rfl, h2⟩ := he P w w2 a hr
    obtain ⟨rfl, h3⟩ := hf a P w2 w1 v h
    exact ⟨rfl, fun w' => by rw [run_bind', h2 w']; exact h3 w'⟩

theorem wi_typeInfo (t : TypeId) : WI (typeInfo t) := wi_bind wi_program fun p => by
  split
  · exact wi_pure _
  · exact wi_halt _
theorem wi_underlying (t : TypeId) : WI (underlying t) := wi_bind wi_program fun p => by
  split
  · exact wi_pure _
  · exact wi_halt _
theorem wi_sizeOf (t : TypeId) : WI (sizeOf t) := wi_bind (wi_typeInfo t) fun _ => wi_pure _
theorem wi_sureAddr (v : Value) : WI (Instr.sureAddr v) := by
  unfold Instr.sureAddr
  split
  · exact wi_pure _
  · exact wi_halt _
theorem wi_asIntOf (v : Value) : WI (asIntOf v) := by
  unfold Go.asIntOf
  split
  · exact wi_pure _
  · exact wi_halt _
  · exact wi_halt _
theorem wi_asBool (v : Value) : WI (asBool v) := by
  unfold Go.asBool
  split
  · exact wi_pure _
  · exact wi_halt _

theorem never_bind {α β : Type} {e : Sem α} {f : α → Sem β} (h : ∀ a P w, ∃ x w', (f a).run P w = .halt x w') : ∀ P w, ∃ x w', (e >>= f).run P w = .halt x w' := by
  intro P w
  rw [run_bind']
  cases e.run P w with
  | halt x w' => exact ⟨x, w', rfl⟩
  | ok a w' => exact h a P w'
theorem never_goPanic {α : Type} (v : Value) : ∀ P w, ∃ x w', (goPanic v : Sem α).run P w = .halt x w' := fun _ _ => ⟨_, _, rfl⟩
theorem never_runtimePanic {α : Type} (e : RuntimeError) : ∀ P w, ∃ x w', (runtimePanic e : Sem α).run P w = .halt x w' := by
  unfold runtimePanic
  refine never_bind fun p => ?_
  cases e <;> first
    | exact never_goPanic _
    | (refine never_bind fun r => ?_; first | exact never_goPanic _ | (refine never_bind fun r => ?_; exact never_goPanic _))
theorem never_boundsPanic {α : Type} (k : IntKind) (x y : Int) (c : BoundsCode) : ∀ P w, ∃ r w', (boundsPanic k x y c : Sem α).run P w = .halt r w' := by
  unfold boundsPanic
  intro P w
  dsimp only
  split
  · exact never_bind (fun p => never_runtimePanic _) P w
  · exact never_bind (fun p => never_runtimePanic _) P w

/-- The same for one program. -/
def WIP (P : Program) {α : Type} (e : Sem α) : Prop := ∀ (w w1 : World) (v : α), e.run P w = .ok v w1 → w1 = w ∧ ∀ w', e.run P w' = .ok v w'
theorem wi_at {α : Type} {e : Sem α} (h : WI e) (P : Program) : WIP P e := h P
theorem wip_bind {P : Program} {α β : Type} {e : Sem α} {f : α → Sem β} (he : WIP P e) (hf : ∀ a w w1, e.run P w = .ok a w1 → WIP P (f a)) : WIP P (e >>= f) := by
  intro w w1 v h
  rw [run_bind'] at h
  cases hr : e.run P w with
  | halt x w2 => rw [hr] at h; cases h
  | ok a w2 =>
    rw [hr] at h
    obtain ⟨rfl, h2⟩ := he w w2 a hr
    obtain ⟨rfl, h3⟩ := hf a _ _ hr w2 w1 v h
    exact ⟨rfl, fun w' => by rw [run_bind', h2 w']; exact h3 w'⟩

theorem wi_indexAt (t : TypeId) (x ix : Value) : WI (Instr.indexAt t x ix) := by
  unfold Instr.indexAt
  refine wi_bind (wi_asIntOf ix) fun ki => ?_
  refine wi_bind (wi_underlying t) fun d => ?_
  dsimp only
  split
  all_goals repeat (first
    | exact wi_pure _ | exact wi_halt _ | exact wi_never (never_boundsPanic _ _ _ _)
    | exact wi_underlying _ | exact wi_sizeOf _ | exact wi_sureAddr _
    | (refine wi_bind ?_ fun _ => ?_) | split)
theorem wi_sliceBound (x : Value) (y : Nat) (c : BoundsCode) : WI (Instr.sliceBound x y c) := by
  unfold Instr.sliceBound
  refine wi_bind (wi_asIntOf x) fun ki => ?_
  dsimp only
  split
  · exact wi_pure _
  · exact wi_never (never_boundsPanic _ _ _ _)
theorem wi_sliceBounds (b : Bool) (l c : Nat) (lo hi mx : Option Value) : WI (Instr.sliceBounds b l c lo hi mx) := by
  unfold Instr.sliceBounds
  dsimp only
  cases lo <;> cases hi <;> cases mx <;> dsimp only <;> repeat (first
    | exact wi_pure _ | exact wi_halt _ | exact wi_sliceBound _ _ _
    | (refine wi_bind ?_ fun _ => ?_) | split)
theorem wi_asAddr (v : Value) : WI (asAddr v) := by
  unfold Go.asAddr
  split
  · exact wi_pure _
  · exact wi_never (never_runtimePanic _)
  · exact wi_halt _
theorem wi_slice (t : TypeId) (x : Value) (lo hi mx : Option Value) : WI (Instr.slice t x lo hi mx) := by
  unfold Instr.slice
  refine wi_bind (wi_underlying t) fun d => ?_
  dsimp only
  split
  all_goals repeat (first
    | exact wi_pure _ | exact wi_halt _ | exact wi_never (never_boundsPanic _ _ _ _)
    | exact wi_underlying _ | exact wi_sizeOf _ | exact wi_asAddr _ | exact wi_sliceBounds _ _ _ _ _ _
    | (refine wi_bind ?_ fun _ => ?_) | split)
theorem wi_sliceAt (t : TypeId) (x : Value) (lo hi mx : Option Value) : WI (Instr.sliceAt t x lo hi mx) := by
  unfold Instr.sliceAt
  refine wi_bind (wi_underlying t) fun d => ?_
  dsimp only
  split
  all_goals repeat (first
    | exact wi_slice _ _ _ _ _
    | exact wi_pure _ | exact wi_halt _ | exact wi_never (never_boundsPanic _ _ _ _)
    | exact wi_underlying _ | exact wi_sizeOf _ | exact wi_sureAddr _ | exact wi_sliceBounds _ _ _ _ _ _
    | (refine wi_bind ?_ fun _ => ?_) | split)
theorem wi_unary (op : UnOp) (x : Value) : WI (Op.unary op x) := by
  unfold Op.unary
  split <;> first | exact wi_pure _ | exact wi_halt _ | (unfold Op.intArith; split <;> first | exact wi_pure _ | exact wi_halt _) | (unfold Op.intBits; split <;> first | exact wi_pure _ | exact wi_halt _)
theorem wi_extract (x : Value) (i : Nat) : WI (Instr.extract x i) := by
  unfold Instr.extract
  split
  · split
    · exact wi_pure _
    · exact wi_halt _
  · exact wi_halt _
theorem run_underlying_eq (P : Program) (t : TypeId) (w : World) : (underlying t).run P w = match P.underlying t with | some d => .ok d w | none => .halt (.stuck "no such type") w := by
  unfold Go.underlying
  rw [run_bind']
  show (match P.underlying t with | some d => (Pure.pure d : Sem TypeDesc) | none => stuck "no such type").run P w = _
  cases P.underlying t <;> rfl
theorem run_sizeOf_eq (P : Program) (t : TypeId) (w : World) : (sizeOf t).run P w = match P.info? t with | some i => .ok i.size w | none => .halt (.stuck "no such type") w := by
  unfold Go.sizeOf Go.typeInfo
  rw [run_bind', run_bind']
  rw [show Go.program.run P w = .ok P w from rfl]
  dsimp only
  cases P.info? t <;> rfl
/-- A field whose type has cells: its address hangs on the program alone. -/
def okField (P : Program) (s : TypeId) (f : Nat) : Bool :=
  match P.underlying s with
  | some (.struct fs) => match fs[f]? with
    | some fl => match P.info? fl.type with
      | some i => i.size != 0
      | none => false
    | none => false
  | _ => false
theorem wip_fieldAt {P : Program} {s : TypeId} {f : Nat} (h : okField P s f = true) (x : Value) : WIP P (Instr.fieldAt s x f) := by
  unfold okField at h
  cases hu : P.underlying s with
  | none => rw [hu] at h; cases h
  | some d =>
    rw [hu] at h
    cases d with
    | struct fs =>
      dsimp only at h
      cases hf : fs[f]? with
      | none => rw [hf] at h; cases h
      | some fl =>
        rw [hf] at h
        dsimp only at h
        cases hi : P.info? fl.type with
        | none => rw [hi] at h; cases h
        | some i =>
          rw [hi] at h
          have hz : i.size ≠ 0 := by simpa using h
          have hrun : ∀ w, (Instr.fieldAt s x f).run P w = match x with | .pointer (some a) => .ok (.pointer (some (a.add fl.offset))) w | _ => .halt (.stuck "an address expected (no nilCheck in front?)") w := by
            intro w
            unfold Instr.fieldAt
            rw [run_bind', run_underlying_eq, hu]
            dsimp only
            rw [hf]
            dsimp only
            rw [run_bind']
            unfold Instr.sureAddr
            cases x with
            | pointer p =>
              cases p with
              | none => rfl
              | some a =>
                show (do let __do_lift ← fieldPlace a fl; Pure.pure (Value.pointer (some __do_lift)) : Sem Value).run P w = _
                rw [run_bind']
                unfold fieldPlace
                rw [run_bind', run_sizeOf_eq, hi]
                dsimp only
                rw [if_neg hz]
                rfl
            | _ => rfl
          intro w w1 v hr
          rw [hrun] at hr
          cases x with
          | pointer p =>
            cases p with
            | none => cases hr
            | some a =>
              dsimp only at hr
              cases hr
              exact ⟨rfl, fun w' => hrun w'⟩
          | _ => cases hr
    | _ => cases h

/-! ### The kinds of operations -/
/-- It hangs on its operands and the program alone. -/
def pureOp (P : Program) : Op → Bool
  | .move _ | .assign _ | .pick _ _ _ | .indexAddr _ _ _ | .slice _ _ _ _ _ | .unOp _ _ _ | .extract _ _ => true
  | .fieldAddr s _ f => okField P s f
  | _ => false
/-- It yields a value or nothing: it calls nobody. -/
def plainOp : Op → Bool
  | .move _ | .assign _ | .pick _ _ _ | .indexAddr _ _ _ | .slice _ _ _ _ _ | .unOp _ _ _ | .extract _ _ | .fieldAddr _ _ _ => true
  | .load _ _ | .binOp _ _ _ _ _ | .convert _ _ _ | .field _ _ _ | .index _ _ _ | .lookup _ _ _ _ | .nilCheck _ | .build _ _ | .makeInterface _ _ | .makeFunc _ _ _ => true
  | .call c => match c.callee with | .builtin .len | .builtin .cap | .builtin .min | .builtin .max => true | _ => false
  | _ => false

theorem run_value {P : Program} {w : World} {r : Result Next} {e : Sem Value} (h : (do pure (Next.value (← e)) : Sem Next).run P w = r) :
    (∃ v w', r = .ok (.value v) w' ∧ e.run P w = .ok v w') ∨ ∃ x w', r = .halt x w' := by
  rw [run_bind'] at h
  cases hr : e.run P w with
  | ok v w' => rw [hr] at h; exact .inl ⟨v, w', h.symm, rfl⟩
  | halt x w' => rw [hr] at h; exact .inr ⟨x, w', h.symm⟩

theorem wi_value {P : Program} {e : Sem Value} (h : WIP P e) : WIP P (do pure (Next.value (← e)) : Sem Next) :=
  wip_bind h fun _ _ _ _ => wi_at (wi_pure _) P
theorem wip_pureOp {P : Program} {o : Oper} (h : pureOp P o.op = true) (ρ : Operand → Value) : WIP P (execOp ρ o) := by
  unfold execOp
  cases ho : o.op <;> rw [ho] at h <;> simp only [pureOp, Bool.false_eq_true] at h <;> dsimp only
  · exact wi_at (wi_pure _) P
  · exact wi_at (wi_pure _) P
  · exact wi_at (wi_bind (wi_asBool _) fun _ => wi_pure _) P
  · exact wi_value (wi_at (wi_unary _ _) P)
  · exact wi_value (wi_at (wi_sliceAt _ _ _ _ _) P)
  · exact wi_value (wip_fieldAt h _)
  · exact wi_value (wi_at (wi_indexAt _ _ _) P)
  · exact wi_value (wi_at (wi_extract _ _) P)
theorem run_plainOp {P : Program} {o : Oper} (h : plainOp o.op = true) (ρ : Operand → Value) (w : World) :
    (∃ v w', (execOp ρ o).run P w = .ok (.value v) w') ∨ ∃ x w', (execOp ρ o).run P w = .halt x w' := by
  have val : ∀ e : Sem Value, (∃ v w', (do pure (Next.value (← e)) : Sem Next).run P w = .ok (.value v) w') ∨ ∃ x w', (do pure (Next.value (← e)) : Sem Next).run P w = .halt x w' := fun e =>
    (run_value rfl).imp (fun ⟨v, w', h, _⟩ => ⟨v, w', h⟩) id
  unfold execOp
  cases ho : o.op <;> rw [ho] at h <;> simp only [plainOp, Bool.false_eq_true] at h <;> dsimp only
  all_goals first
    | exact .inl ⟨_, _, rfl⟩
    | exact val _
    | skip
  · rw [run_bind']
    cases (asBool (ρ _)).run P w with
    | ok a w1 => exact .inl ⟨_, _, rfl⟩
    | halt x w1 => exact .inr ⟨_, _, rfl⟩
  · rename_i x
    split
    · obtain ⟨y, w', hy⟩ := never_runtimePanic (α := Next) .nilDeref P w; exact .inr ⟨y, w', hy⟩
    · obtain ⟨y, w', hy⟩ := never_runtimePanic (α := Next) .nilDeref P w; exact .inr ⟨y, w', hy⟩
    · obtain ⟨y, w', hy⟩ := never_runtimePanic (α := Next) .nilDeref P w; exact .inr ⟨y, w', hy⟩
    · split
      · obtain ⟨y, w', hy⟩ := never_runtimePanic (α := Next) .nilDeref P w; exact .inr ⟨y, w', hy⟩
      · rw [run_bind']
        split
        · rename_i a w1 _
          rw [run_bind']
          split
          · rename_i b w2 _
            split
            · exact .inr ⟨_, _, rfl⟩
            · exact .inl ⟨_, _, rfl⟩
          · exact .inr ⟨_, _, rfl⟩
        · exact .inr ⟨_, _, rfl⟩
      · exact .inl ⟨_, _, rfl⟩
    · exact .inl ⟨_, _, rfl⟩
  · rename_i c
    obtain ⟨callee, args, argTypes⟩ := c
    cases callee with
    | builtin b =>
      cases b <;> simp only [Bool.false_eq_true] at h
      · exact val _
      · exact val _
      · exact val _
      · exact val _
    | value f => simp at h
    | invoke r m => simp at h

/-! ### A script -/
/-- One step: which operation; does it only read; which earlier ones may come up behind it in another order. -/
structure Stp where
  i : Nat
  q : Bool
  held : List Nat

section
variable {P : Program} {ops : Array Oper} {Q : Exit → Act → World → Prop}

/-- What it yielded in the one world it yields in the other. -/
def Again (P : Program) (o : Oper) (a : Act) (w w' : World) : Prop :=
  ∀ v, (execOp a.eval o).run P w = .ok (.value v) w → (execOp a.eval o).run P w' = .ok (.value v) w'
def Agains (P : Program) (ops : Array Oper) (a : Act) (w w' : World) : List Nat → Prop
  | [] => True
  | i :: is => (∀ o, ops[i]? = some o → Region.wanted o (yielded ops a.tmps) = true → Again P o a w w') ∧ Agains P ops a w w' is
theorem agains_mem {a : Act} {w w' : World} : ∀ {l : List Nat}, Agains P ops a w w' l ↔ ∀ i ∈ l, ∀ o, ops[i]? = some o → Region.wanted o (yielded ops a.tmps) = true → Again P o a w w'
  | [] => by simp [Agains]
  | i :: is => by simp [Agains, agains_mem (l := is)]

def elemT (P : Program) (ops : Array Oper) (Q : Exit → Act → World → Prop) (s : Stp) (K : Act → World → Prop) (a : Act) (w : World) : Prop :=
  match ops[s.i]? with
  | none => False
  | some o =>
    if Region.wanted o (yielded ops a.tmps) then
      if s.q then o.wp P a w (fun a' w' => w' = w ∧ K a' w) (fun _ _ _ => False)
      else o.wp P a w (fun a' w' => Agains P ops a w w' s.held ∧ K a' w') (NoPanic Q) ∨ (o.asks P a w ∧ LetsOut Q)
    else K (a.put o.dst undef) w
def wpT (P : Program) (ops : Array Oper) (Q : Exit → Act → World → Prop) : List Stp → Act → World → Prop
  | [], a, w => Q .normal a w
  | s :: rest, a, w => elemT P ops Q s (wpT P ops Q rest) a w

/-- What a quiet step leaves. -/
def YAt (P : Program) (ops : Array Oper) (o : Oper) (v : Value) (a : Act) (w : World) : Prop :=
  (Region.wanted o (yielded ops a.tmps) = true ∧ (execOp a.eval o).run P w = .ok (.value v) w) ∨
  (Region.wanted o (yielded ops a.tmps) = false ∧ v = undef)

theorem elemT_quiet {s : Stp} {o : Oper} {K : Act → World → Prop} {a : Act} {w : World} (ho : ops[s.i]? = some o) (hq : s.q = true) (hp : plainOp o.op = true) :
    elemT P ops Q s K a w ↔ ∃ v, YAt P ops o v a w ∧ K (a.put o.dst v) w := by
  unfold elemT
  simp only [ho, hq, if_true]
  constructor
  · intro h
    by_cases hw : Region.wanted o (yielded ops a.tmps) = true
    · simp only [hw, if_true] at h
      unfold Oper.wp at h
      rcases run_plainOp (P := P) hp a.eval w with ⟨v, w', hr⟩ | ⟨x, w', hr⟩
      · rw [hr] at h
        simp only [Oper.upon] at h
        obtain ⟨rfl, hk⟩ := h
        exact ⟨v, .inl ⟨hw, hr⟩, hk⟩
      · rw [hr] at h
        cases x <;> simp only [Oper.upon] at h
    · simp only [hw] at h
      exact ⟨undef, .inr ⟨by simpa using hw, rfl⟩, h⟩
  · rintro ⟨v, ⟨hw, hr⟩ | ⟨hw, rfl⟩, hk⟩
    · simp only [hw, if_true]
      unfold Oper.wp
      rw [hr]
      exact ⟨rfl, hk⟩
    · simp only [hw, Bool.false_eq_true, if_false]
      exact hk

theorem elemT_mono {s : Stp} {K K' : Act → World → Prop} {a : Act} {w : World} (h : ∀ a w, K a w → K' a w) (hh : elemT P ops Q s K a w) : elemT P ops Q s K' a w := by
  unfold elemT at *
  cases ho : ops[s.i]? with
  | none => rw [ho] at hh; exact hh.elim
  | some o =>
    rw [ho] at hh
    dsimp only at hh ⊢
    by_cases hw : Region.wanted o (yielded ops a.tmps) = true
    · rw [if_pos hw] at hh ⊢
      by_cases hq : s.q = true
      · rw [if_pos hq] at hh ⊢
        exact Oper.wp_mono (fun a w' hk => ⟨hk.1, h _ _ hk.2⟩) hh
      · rw [if_neg hq] at hh ⊢
        exact hh.imp (Oper.wp_mono fun a w' hk => ⟨hk.1, h _ _ hk.2⟩) id
    · rw [if_neg hw] at hh ⊢
      exact h _ _ hh

/-- The frame behind an operation: its slot and the deferred calls alone may have turned. -/
def Fr (o : Oper) (a a' : Act) : Prop := ∃ u ds, a' = ({ a with defers := ds } : Act).put o.dst u

theorem YAt.fr {o oy : Oper} {v : Value} {a a' : Act} {w : World} (hs : ∀ cs b, o.op ≠ .select cs b) (h : ∀ d, oy.dst = some d → d ∉ o.looksAt ops) (hf : Fr oy a a') (hy : YAt P ops o v a w) : YAt P ops o v a' w := by
  obtain ⟨u, ds, rfl⟩ := hf
  unfold YAt at *
  rw [execOp_put (ops := ops) o hs _ oy.dst u h, wanted_put o _ oy.dst u h]
  exact hy

theorem wp_shift {oy : Oper} {x : Option Tmp} {v : Value} {K : Act → World → Prop} {a : Act} {w : World} (hs : ∀ cs b, oy.op ≠ .select cs b)
    (h1 : ∀ d, x = some d → d ∉ oy.looksAt ops) (h2 : ∀ d, x = some d → oy.dst ≠ some d)
    (h : oy.wp P (a.put x v) w K (NoPanic Q)) : oy.wp P a w (fun a' w' => K (a'.put x v) w' ∧ Fr oy a a') (NoPanic Q) := by
  unfold Oper.wp at *
  rw [execOp_put (ops := ops) oy hs a x v h1] at h
  generalize (execOp a.eval oy).run P w = r at *
  have e1 : ∀ u, (a.put x v).put oy.dst u = (a.put oy.dst u).put x v := fun u => Act.put_comm a v u h2
  have e2 : ∀ d u, ({ a.put x v with defers := d :: (a.put x v).defers } : Act).put oy.dst u = (({ a with defers := d :: a.defers } : Act).put oy.dst u).put x v := fun d u => by
    rw [Act.put_defers]; exact Act.put_comm _ v u h2
  cases r with
  | ok n w' =>
    cases n <;> simp only [Oper.upon] at h ⊢
    case value u => exact ⟨by rw [← e1]; exact h, u, a.defers, rfl⟩
    case skip => exact ⟨by rw [← e1]; exact h, undef, a.defers, rfl⟩
    case defer d => exact ⟨by rw [← e2]; exact h, undef, d :: a.defers, rfl⟩
    case enter f args =>
      refine h.mono fun e w'' he => ?_
      cases e with
      | returned u => exact ⟨by rw [← e1]; exact he, u, a.defers, rfl⟩
      | panicked c => exact (he : False).elim
      | outgrown => exact he
    case row row args => exact h.mono fun u w'' he => ⟨by rw [← e1]; exact he, u, a.defers, rfl⟩
  | halt x w' =>
    cases x <;> exact (h : False).elim

theorem asks_shift {oy : Oper} {x : Option Tmp} {v : Value} {a : Act} {w : World} (hs : ∀ cs b, oy.op ≠ .select cs b)
    (h1 : ∀ d, x = some d → d ∉ oy.looksAt ops) (h : oy.asks P (a.put x v) w) : oy.asks P a w := by
  unfold Oper.asks at *
  rw [execOp_put (ops := ops) oy hs a x v h1] at h
  exact h

/-- Two steps that stand side by side may change places. -/
def commB (P : Program) (ops : Array Oper) (x y : Stp) (ox oy : Oper) : Bool :=
  ox.apart ops oy && x.q && plainOp ox.op && (if y.q then plainOp oy.op else pureOp P ox.op || (y.held.contains x.i && (match ox.dst with | some d => !(ox.looksAt ops).contains d | none => true)))

theorem swapT {x y : Stp} {ox oy : Oper} {K : Act → World → Prop} {a : Act} {w : World} (hox : ops[x.i]? = some ox) (hoy : ops[y.i]? = some oy)
    (hsx : ∀ cs b, ox.op ≠ .select cs b) (hsy : ∀ cs b, oy.op ≠ .select cs b) (hc : commB P ops x y ox oy = true) {held' : List Nat}
    (hh : ∀ i ∈ held', i ∈ y.held ∧ ∀ oi, ops[i]? = some oi → (∀ cs b, oi.op ≠ .select cs b) ∧ ∀ d, ox.dst = some d → d ∉ oi.looksAt ops)
    (h : elemT P ops Q x (elemT P ops Q y K) a w) : elemT P ops Q { y with held := held' } (elemT P ops Q x K) a w := by
  unfold commB at hc
  simp only [Bool.and_eq_true] at hc
  obtain ⟨⟨⟨hap, hxq⟩, hxp⟩, hrest⟩ := hc
  obtain ⟨h1, h2, h3⟩ := Oper.apart_spec hap
  obtain ⟨v, hyx, h⟩ := (elemT_quiet hox hxq hxp).1 h
  by_cases hyq : y.q = true
  · rw [if_pos hyq] at hrest
    obtain ⟨u, hyy, hk⟩ := (elemT_quiet hoy hyq hrest).1 h
    refine (elemT_quiet (s := { y with held := held' }) hoy hyq hrest).2 ⟨u, ?_, (elemT_quiet hox hxq hxp).2 ⟨v, ?_, ?_⟩⟩
    · unfold YAt at *
      rw [execOp_put (ops := ops) oy hsy a ox.dst v h1, wanted_put oy a ox.dst v h1] at hyy
      exact hyy
    · exact hyx.fr hsx h3 ⟨u, a.defers, rfl⟩
    · rw [← Act.put_comm a v u h2]; exact hk
  · rw [if_neg hyq] at hrest
    unfold elemT at h ⊢
    simp only [hoy] at h ⊢
    rw [wanted_put oy a ox.dst v h1] at h
    by_cases hw : Region.wanted oy (yielded ops a.tmps) = true
    · simp only [hw, if_true, hyq] at h ⊢
      rcases h with h | ⟨h, hl⟩
      · refine .inl ?_
        refine Oper.wp_mono ?_ (wp_shift hsy h1 h2 h)
        rintro a' w' ⟨⟨hag, hk⟩, hfr⟩
        refine ⟨agains_mem.2 fun i hi oi hoi hwi => ?_, ?_⟩
        · obtain ⟨hi1, hi2⟩ := hh i hi
          obtain ⟨hs, hd⟩ := hi2 oi hoi
          have := agains_mem.1 hag i hi1 oi hoi (by rw [wanted_put oi a ox.dst v hd]; exact hwi)
          unfold Again at *
          rw [execOp_put (ops := ops) oi hs a ox.dst v hd] at this
          exact this
        · refine (elemT_quiet hox hxq hxp).2 ⟨v, ?_, hk⟩
          refine YAt.fr hsx h3 hfr ?_
          rcases hyx with ⟨hwx, hrx⟩ | hn
          · refine .inl ⟨hwx, ?_⟩
            rw [Bool.or_eq_true] at hrest
            rcases hrest with hp | hheld
            · exact (wip_pureOp hp a.eval w w _ hrx).2 w'
            · rw [Bool.and_eq_true] at hheld
              obtain ⟨hm, hself⟩ := hheld
              have hself' : ∀ d, ox.dst = some d → d ∉ ox.looksAt ops := fun d hd => by simpa [hd] using hself
              have := agains_mem.1 hag x.i (by simpa using hm) ox hox (by rw [wanted_put ox a ox.dst v hself']; exact hwx)
              unfold Again at this
              rw [execOp_put (ops := ops) ox hsx a ox.dst v hself'] at this
              exact this v hrx
          · exact .inr hn
      · exact .inr ⟨asks_shift hsy h1 h, hl⟩
    · simp only [hw] at h ⊢
      refine (elemT_quiet hox hxq hxp).2 ⟨v, hyx.fr hsx h3 ⟨undef, a.defers, rfl⟩, ?_⟩
      rw [← Act.put_comm a v undef h2]; exact h

/-! ### Who waits for whom -/
def maskOf (acc : List Nat) (o : Oper) : Nat :=
  o.after.toList.foldl (fun m e => if Region.binds .any e then m ||| (1 <<< e.on) ||| acc.getD e.on 0 else m) 0
def ancs : List Oper → List Nat → List Nat
  | [], acc => acc
  | o :: r, acc => ancs r (acc ++ [maskOf acc o])
def Ord (T : List Nat) (p i : Nat) : Bool := (T.getD i 0).testBit p

def DC (ops : Array Oper) (listed : Array Bool) : Prop := ∀ i o, ops[i]? = some o → listed.getD i false = true → ∀ e ∈ o.after, Region.binds .any e = true → listed.getD e.on false = true
def Sound (ops : Array Oper) (listed : Array Bool) (T : List Nat) : Prop :=
  ∀ i o, ops[i]? = some o → i < T.length → (∀ e ∈ o.after, Region.binds .any e = true → listed.getD e.on false = true) → ∀ p, (T.getD i 0).testBit p = true → listed.getD p false = true

theorem mask_sound {listed : Array Bool} (hdc : DC ops listed) {acc : List Nat} (hs : Sound ops listed acc) (hlen : acc.length ≤ ops.size) :
    ∀ (l : List Edge) (m : Nat), (∀ e ∈ l, Region.binds .any e = true → listed.getD e.on false = true) → (∀ p, m.testBit p = true → listed.getD p false = true) →
      ∀ p, (l.foldl (fun m e => if Region.binds .any e then m ||| (1 <<< e.on) ||| acc.getD e.on 0 else m) m).testBit p = true → listed.getD p false = true
  | [], _, _, hm, p, hp => hm p hp
  | e :: l, m, hl, hm, p, hp => by
    refine mask_sound hdc hs hlen l _ (fun e he => hl e (List.mem_cons_of_mem _ he)) ?_ p hp
    intro p hp
    dsimp only at hp
    split at hp
    · rename_i hb
      have hon := hl e (List.mem_cons_self ..) hb
      rw [Nat.testBit_or, Nat.testBit_or, Bool.or_eq_true, Bool.or_eq_true] at hp
      rcases hp with (hp | hp) | hp
      · exact hm p hp
      · rw [Nat.one_shiftLeft, Nat.testBit_two_pow] at hp
        have : e.on = p := by simpa using hp
        exact this ▸ hon
      · rcases Nat.lt_or_ge e.on acc.length with h | h
        · have hsz : e.on < ops.size := Nat.lt_of_lt_of_le h hlen
          exact hs e.on ops[e.on] (Array.getElem?_eq_getElem hsz) h (fun e' he' hb' => hdc e.on _ (Array.getElem?_eq_getElem hsz) hon e' he' hb') p hp
        · simp [List.getD_eq_getElem?_getD, List.getElem?_eq_none h] at hp
    · exact hm p hp

theorem ancs_sound {listed : Array Bool} (hdc : DC ops listed) : ∀ (r : List Oper) (acc : List Nat), (∀ j, r[j]? = ops[acc.length + j]?) → acc.length ≤ ops.size → Sound ops listed acc → Sound ops listed (ancs r acc)
  | [], acc, _, _, hs => hs
  | o :: r, acc, hr, hlen, hs => by
    have h0 : ops[acc.length]? = some o := by simpa using (hr 0).symm
    have hlt : acc.length < ops.size := (Array.getElem?_eq_some_iff.1 h0).1
    refine ancs_sound hdc r (acc ++ [maskOf acc o]) (fun j => by have := hr (j + 1); simpa [Nat.add_assoc, Nat.add_comm 1 j] using this) (by simp; omega) ?_
    intro i oi hoi hi hdep p hp
    rcases Nat.lt_or_ge i acc.length with h | h
    · rw [List.getD_eq_getElem?_getD, List.getElem?_append_left h, ← List.getD_eq_getElem?_getD] at hp
      exact hs i oi hoi h hdep p hp
    · have hie : i = acc.length := by simp at hi; omega
      subst hie
      rw [h0] at hoi; cases hoi
      simp only [List.getD_eq_getElem?_getD, List.getElem?_append_right (Nat.le_refl _), Nat.sub_self, List.getElem?_cons_zero, Option.getD_some] at hp
      exact mask_sound hdc hs hlen _ _ (fun e he => hdep e (by simpa using he)) (fun p hp => by simp at hp) p hp

theorem ord_listed {listed : Array Bool} (hdc : DC ops listed) {p i : Nat} {o : Oper} (ho : ops[i]? = some o)
    (hdep : ∀ e ∈ o.after, Region.binds .any e = true → listed.getD e.on false = true) (h : Ord (ancs ops.toList []) p i = true) : listed.getD p false = true := by
  have hs : Sound ops listed (ancs ops.toList []) := ancs_sound hdc _ _ (by simp) (Nat.zero_le _) (fun i o _ hi => by simp at hi)
  unfold Ord at h
  rcases Nat.lt_or_ge i (ancs ops.toList []).length with hl | hl
  · exact hs i o ho hl hdep p h
  · simp [List.getD_eq_getElem?_getD, List.getElem?_eq_none hl] at h

/-! ### The check of a script -/
def pos (l : List Stp) (i : Nat) : Nat := (l.map (·.i)).idxOf i
def pairB (P : Program) (ops : Array Oper) (T : List Nat) (ps : Nat → Nat) (x y : Stp) : Bool :=
  match ops[x.i]?, ops[y.i]? with
  | some ox, some oy =>
    decide (ps x.i < ps y.i) && ox.after.all (fun e => !(Region.binds .any e) || e.on != y.i) &&
    (Ord T x.i y.i || (commB P ops x y ox oy && y.held.all fun i => !decide (ps i < ps x.i) || match ops[i]? with
      | some oi => (match ox.dst with | some d => !(oi.looksAt ops).contains d | none => true)
      | none => true))
  | _, _ => false
def pairsB (P : Program) (ops : Array Oper) (T : List Nat) (ps : Nat → Nat) : List Stp → Bool
  | [] => true
  | x :: r => r.all (pairB P ops T ps x) && pairsB P ops T ps r
def scriptB (P : Program) (ops : Array Oper) (l : List Stp) : Bool :=
  Region.noSelect ops && pairsB P ops (ancs ops.toList []) (pos l) l && (List.range ops.size).all (fun i => l.any fun s => s.i == i) &&
    l.all fun s => match ops[s.i]? with
      | some o => o.after.all (fun e => e.on != s.i && decide (e.on < ops.size)) && (!s.q || plainOp o.op)
      | none => false

theorem pairsB_spec {T : List Nat} {ps : Nat → Nat} : ∀ {l : List Stp}, pairsB P ops T ps l = true → l.Pairwise fun x y => pairB P ops T ps x y = true
  | [], _ => List.Pairwise.nil
  | x :: r, h => by
    simp only [pairsB, Bool.and_eq_true, List.all_eq_true] at h
    exact List.Pairwise.cons h.1 (pairsB_spec h.2)

theorem elemT_held {s : Stp} {h' : List Nat} {K : Act → World → Prop} {a : Act} {w : World} (hs : ∀ i ∈ h', i ∈ s.held) (h : elemT P ops Q s K a w) : elemT P ops Q { s with held := h' } K a w := by
  unfold elemT at *
  cases ho : ops[s.i]? with
  | none => rw [ho] at h; exact h.elim
  | some o =>
    rw [ho] at h
    dsimp only at h ⊢
    by_cases hw : Region.wanted o (yielded ops a.tmps) = true
    · rw [if_pos hw] at h ⊢
      by_cases hq : s.q = true
      · rw [if_pos hq] at h ⊢
        exact h
      · rw [if_neg hq] at h ⊢
        exact h.imp (Oper.wp_mono fun a w' hk => ⟨agains_mem.2 fun i hi => agains_mem.1 hk.1 i (hs i hi), hk.2⟩) id
    · rw [if_neg hw] at h ⊢
      exact h

/-- A step that waits for none of those ahead of it goes to the front. -/
theorem frontT {ps : Nat → Nat} (hns : Region.noSelect ops = true) {y : Stp} {l2 : List Stp} : ∀ (l1 : List Stp) (n : Nat), (∀ x ∈ l1, n ≤ ps x.i) → l1.Pairwise (fun x z => ps x.i < ps z.i) →
    (∀ x ∈ l1, ∃ ox oy, ops[x.i]? = some ox ∧ ops[y.i]? = some oy ∧ commB P ops x y ox oy = true ∧
      ∀ i ∈ y.held, ps i < ps x.i → ∀ oi, ops[i]? = some oi → ∀ d, ox.dst = some d → d ∉ oi.looksAt ops) →
    ∀ a w, wpT P ops Q (l1 ++ y :: l2) a w → elemT P ops Q { y with held := y.held.filter fun i => ps i < n } (wpT P ops Q (l1 ++ l2)) a w
  | [], n, _, _, _, a, w, h => elemT_held (fun i hi => (List.mem_filter.1 hi).1) h
  | x :: l1, n, hn, hsrt, hc, a, w, h => by
    have hsrt' := List.pairwise_cons.1 hsrt
    obtain ⟨ox, oy, hox, hoy, hcomm, hheld⟩ := hc x (List.mem_cons_self ..)
    have h1 : elemT P ops Q x (elemT P ops Q { y with held := y.held.filter fun i => ps i < ps x.i + 1 } (wpT P ops Q (l1 ++ l2))) a w :=
      elemT_mono (fun a w h => frontT hns l1 (ps x.i + 1) (fun z hz => hsrt'.1 z hz) hsrt'.2 (fun z hz => hc z (List.mem_cons_of_mem _ hz)) a w h) h
    have hcomm' : commB P ops x { y with held := y.held.filter fun i => ps i < ps x.i + 1 } ox oy = true := by
      unfold commB at hcomm ⊢
      simp only [Bool.and_eq_true] at hcomm ⊢
      refine ⟨hcomm.1, ?_⟩
      have h2 := hcomm.2
      by_cases hq : y.q = true
      · rw [if_pos hq] at h2 ⊢; exact h2
      · rw [if_neg hq] at h2 ⊢
        simp only [Bool.or_eq_true, Bool.and_eq_true] at h2 ⊢
        refine h2.imp id fun h3 => ⟨?_, h3.2⟩
        simpa using h3.1
    refine swapT (y := { y with held := y.held.filter fun i => ps i < ps x.i + 1 }) hox hoy (fun cs b => Region.noSelect_spec hns x.i ox cs b hox) (fun cs b => Region.noSelect_spec hns y.i oy cs b hoy) hcomm' (held' := y.held.filter fun i => ps i < n) ?_ h1
    intro i hi
    obtain ⟨hi1, hi2⟩ := List.mem_filter.1 hi
    have hi3 : ps i < n := by simpa using hi2
    have hnx := hn x (List.mem_cons_self ..)
    refine ⟨List.mem_filter.2 ⟨hi1, by simp; omega⟩, fun oi hoi => ⟨fun cs b => Region.noSelect_spec hns i oi cs b hoi, hheld i hi1 (by omega) oi hoi⟩⟩

theorem wpOp_of_elemT {s : Stp} {o : Oper} (ho : ops[s.i]? = some o) (hp : s.q = true → plainOp o.op = true) {K K' : Act → World → Prop} {a : Act} {w : World} (hk : ∀ a w, K a w → K' a w)
    (h : elemT P ops Q s K a w) : wpOp P ops (NoPanic Q) s.i K' a w := by
  unfold wpOp
  by_cases hq : s.q = true
  · obtain ⟨v, hy, hv⟩ := (elemT_quiet ho hq (hp hq)).1 h
    rw [ho]
    dsimp only
    rcases hy with ⟨hw, hr⟩ | ⟨hw, rfl⟩
    · rw [if_pos hw]
      refine .inl ?_
      unfold Oper.wp
      rw [hr]
      exact hk _ _ hv
    · rw [if_neg (by rw [hw]; exact Bool.false_ne_true)]
      exact hk _ _ hv
  · unfold elemT at h
    rw [ho] at h ⊢
    dsimp only at h ⊢
    by_cases hw : Region.wanted o (yielded ops a.tmps) = true
    · rw [if_pos hw] at h ⊢
      rw [if_neg hq] at h
      exact h.imp (Oper.wp_mono fun a w' h => hk _ _ h.2) id
    · rw [if_neg hw] at h ⊢
      exact hk _ _ h

theorem any_of_script {ps : Nat → Nat} (hns : Region.noSelect ops = true) : ∀ (n : Nat) (l : List Stp), l.length = n → l.Pairwise (fun x y => pairB P ops (ancs ops.toList []) ps x y = true) →
    (∀ s ∈ l, ∃ o, ops[s.i]? = some o ∧ (∀ e ∈ o.after, e.on ≠ s.i ∧ e.on < ops.size) ∧ (s.q = true → plainOp o.op = true)) →
    ∀ (listed : Array Bool), listed.size = ops.size → (∀ s ∈ l, listed.getD s.i true = false) → (∀ i, i < ops.size → listed.getD i true = false → ∃ s ∈ l, s.i = i) → DC ops listed →
    ∀ a w, wpT P ops Q l a w → wpAny P .any ops (NoPanic Q) n listed a w := by
  intro n
  induction n with
  | zero =>
    intro l hl _ _ listed hsz _ hall _ a w h
    have : l = [] := List.eq_nil_of_length_eq_zero hl
    subst this
    refine ⟨?_, h⟩
    cases hr : Region.ready .any ops listed with
    | nil => rfl
    | cons i r =>
      have hi : i ∈ Region.ready .any ops listed := by rw [hr]; exact List.mem_cons_self ..
      obtain ⟨h0, o, ho, _⟩ := mem_ready.1 hi
      obtain ⟨s, hs, _⟩ := hall i (Array.getElem?_eq_some_iff.1 ho).1 h0
      cases hs
  | succ n ih =>
    intro l hl hp hok listed hsz hun hall hdc a w h
    refine ⟨fun hr0 => ?_, fun i hi => ?_⟩
    · cases l with
      | nil => simp at hl
      | cons x r =>
        exfalso
        obtain ⟨ox, hox, hdx, _⟩ := hok x (List.mem_cons_self ..)
        have hx : x.i ∈ Region.ready .any ops listed := by
          refine mem_ready.2 ⟨hun x (List.mem_cons_self ..), ox, hox, fun e he hb => ?_⟩
          obtain ⟨hne, hlt⟩ := hdx e he
          cases hle : listed.getD e.on true with
          | true =>
            have : e.on < listed.size := by omega
            simp [this] at hle ⊢
            exact hle
          | false =>
            exfalso
            obtain ⟨s, hs, hse⟩ := hall e.on hlt hle
            rcases List.mem_cons.1 hs with rfl | hs
            · exact hne hse.symm
            · have := (List.pairwise_cons.1 hp).1 s hs
              unfold pairB at this
              obtain ⟨os, hos, _⟩ := hok s (List.mem_cons_of_mem _ hs)
              simp only [hox, hos, Bool.and_eq_true] at this
              have := Array.all_eq_true_iff_forall_mem.1 this.1.2 e he
              simp [hse, hb] at this
        rw [hr0] at hx
        cases hx
    · obtain ⟨h0, o, ho, hdeps⟩ := mem_ready.1 hi
      obtain ⟨y, hy, hyi⟩ := hall i (Array.getElem?_eq_some_iff.1 ho).1 h0
      subst hyi
      obtain ⟨l1, l2, rfl⟩ := List.append_of_mem hy
      have hp' := List.pairwise_append.1 hp
      have hp2 := List.pairwise_cons.1 hp'.2.1
      have hf := frontT (P := P) (Q := Q) (ps := ps) hns (y := y) (l2 := l2) l1 0 (fun _ _ => Nat.zero_le _)
        (hp'.1.imp fun {x z} hxz => by
          unfold pairB at hxz
          split at hxz
          · simp only [Bool.and_eq_true, decide_eq_true_eq] at hxz; exact hxz.1.1
          · cases hxz)
        (fun x hx => by
          have hxy := hp'.2.2 x hx y (List.mem_cons_self ..)
          obtain ⟨ox, hox, _⟩ := hok x (List.mem_append_left _ hx)
          refine ⟨ox, o, hox, ho, ?_⟩
          unfold pairB at hxy
          simp only [hox, ho, Bool.and_eq_true, Bool.or_eq_true] at hxy
          rcases hxy.2 with hord | ⟨hc, hh⟩
          · have h1 := ord_listed hdc ho hdeps hord
            have h2 := hun x (List.mem_append_left _ hx)
            exfalso
            rcases Nat.lt_or_ge x.i listed.size with h' | h'
            · simp [h'] at h1 h2; rw [h2] at h1; cases h1
            · simp [Array.getElem?_eq_none h'] at h1
          · refine ⟨hc, fun j hj hlt oi hoi d hd => ?_⟩
            have := List.all_eq_true.1 hh j hj
            simpa [hlt, hoi, hd] using this)
        a w h
      refine wpOp_of_elemT (s := { y with held := y.held.filter fun i => ps i < 0 }) ho (fun hq => ?_) (fun a' w' h' => ?_) hf
      · obtain ⟨o', ho', _, hp⟩ := hok y hy
        rw [ho] at ho'; cases ho'
        exact hp hq
      · have hlt : y.i < listed.size := by rw [hsz]; exact (Array.getElem?_eq_some_iff.1 ho).1
        have hmem : ∀ s, s ∈ l1 ++ l2 → s ∈ l1 ++ y :: l2 := fun s hs => (List.mem_append.1 hs).elim (List.mem_append_left _) fun h => List.mem_append_right _ (List.mem_cons_of_mem _ h)
        have hpp : (l1 ++ l2).Pairwise (fun x y => pairB P ops (ancs ops.toList []) ps x y = true) :=
          List.pairwise_append.2 ⟨hp'.1, hp2.2, fun x hx z hz => hp'.2.2 x hx z (List.mem_cons_of_mem _ hz)⟩
        have hneq : ∀ s ∈ l1 ++ l2, y.i ≠ s.i := by
          intro s hs he
          have lt_of : ∀ {x z : Stp}, pairB P ops (ancs ops.toList []) ps x z = true → ps x.i < ps z.i := by
            intro x z hxz
            unfold pairB at hxz
            split at hxz
            · simp only [Bool.and_eq_true, decide_eq_true_eq] at hxz; exact hxz.1.1
            · cases hxz
          rcases List.mem_append.1 hs with hs | hs
          · have := lt_of (hp'.2.2 s hs y (List.mem_cons_self ..)); rw [he] at this; omega
          · have := lt_of (hp2.1 s hs); rw [he] at this; omega
        refine ih (l1 ++ l2) (by simp at hl ⊢; omega) hpp (fun s hs => hok s (hmem s hs)) _ (by simpa using hsz) ?_ ?_ ?_ a' w' h'
        · intro s hs
          rw [getD_set_ne true (hneq s hs)]
          exact hun s (hmem s hs)
        · intro j hj hjl
          by_cases hjy : y.i = j
          · subst hjy
            simp [hlt] at hjl
          · rw [getD_set_ne true hjy] at hjl
            obtain ⟨s, hs, hsj⟩ := hall j hj hjl
            refine ⟨s, ?_, hsj⟩
            rcases List.mem_append.1 hs with hs | hs
            · exact List.mem_append_left _ hs
            · rcases List.mem_cons.1 hs with rfl | hs
              · exact absurd hsj hjy
              · exact List.mem_append_right _ hs
        · intro j oj hoj hj e he hb
          by_cases hjy : y.i = j
          · subst hjy
            rw [ho] at hoj; cases hoj
            exact getD_set_true (hdeps e he hb)
          · rw [getD_set_ne false hjy] at hj
            exact getD_set_true (hdc j oj hoj hj e he hb)

/-- What a walk of a script shows, under a name at which Lean's own reckoning stands still (else it runs through all that a guard passes over). -/
structure WpT (P : Program) (ops : Array Oper) (Q : Exit → Act → World → Prop) (l : List Stp) (a : Act) (w : World) : Prop where
  out : wpT P ops Q l a w
theorem wpAny_T {a : Act} {w : World} (l : List Stp) (hB : scriptB P ops l = true)
    (h : WpT P ops Q l a w.drew) : wpAny P .any ops (NoPanic Q) ops.size (Array.replicate ops.size false) a w.drew := by
  replace h := h.out
  unfold scriptB at hB
  simp only [Bool.and_eq_true] at hB
  obtain ⟨⟨⟨hns, hp⟩, hall⟩, hok⟩ := hB
  have hok' : ∀ s ∈ l, ∃ o, ops[s.i]? = some o ∧ (∀ e ∈ o.after, e.on ≠ s.i ∧ e.on < ops.size) ∧ (s.q = true → plainOp o.op = true) := by
    intro s hs
    have := List.all_eq_true.1 hok s hs
    cases ho : ops[s.i]? with
    | none => rw [ho] at this; cases this
    | some o =>
      rw [ho] at this
      simp only [Bool.and_eq_true] at this
      refine ⟨o, rfl, fun e he => ?_, fun hq => ?_⟩
      · have := Array.all_eq_true_iff_forall_mem.1 this.1 e he
        simpa using this
      · have := this.2
        simpa [hq] using this
  have hrep : ∀ (b : Bool) (i : Nat), i < ops.size → (Array.replicate ops.size false).getD i b = false := fun b i hi => by simp [hi]
  have key : ∀ s ∈ l, s.i < ops.size := fun s hs => by obtain ⟨o, ho, _⟩ := hok' s hs; exact (Array.getElem?_eq_some_iff.1 ho).1
  have hpw := pairsB_spec hp
  have hlen : l.length = ops.size := by
    have hnd : (l.map (·.i)).Nodup := by
      rw [List.Nodup, List.pairwise_map]
      refine hpw.imp fun {x z} hxz => ?_
      unfold pairB at hxz
      split at hxz
      · simp only [Bool.and_eq_true, decide_eq_true_eq] at hxz
        intro he; rw [he] at hxz; omega
      · cases hxz
    have h1 : (l.map (·.i)).length ≤ (List.range ops.size).length := (List.Nodup.length_le_of_subset hnd fun i hi => by
      obtain ⟨s, hs, rfl⟩ := List.mem_map.1 hi
      exact List.mem_range.2 (key s hs))
    have h2 : (List.range ops.size).length ≤ (l.map (·.i)).length := (List.Nodup.length_le_of_subset List.nodup_range fun i hi => by
      obtain ⟨s, hs, hsi⟩ := List.any_eq_true.1 (List.all_eq_true.1 hall i hi)
      exact List.mem_map.2 ⟨s, hs, by simpa using hsi⟩)
    simp at h1 h2
    omega
  have := any_of_script (P := P) (Q := Q) (ps := pos l) hns l.length l rfl hpw hok' (Array.replicate ops.size false) (by simp) (fun s hs => hrep _ _ (key s hs))
    (fun i hi _ => by
      obtain ⟨s, hs, hsi⟩ := List.any_eq_true.1 (List.all_eq_true.1 hall i (List.mem_range.2 hi))
      exact ⟨s, hs, by simpa using hsi⟩)
    (fun i o ho hi => by
      have := (Array.getElem?_eq_some_iff.1 ho).1
      simp [this] at hi) a _ h
  rwa [hlen] at this
/-- ONE WALK OF A CHECKED SCRIPT SERVES EVERY ORDER. -/
theorem wp_region_T {id : Nat} {a : Act} {w : World} (l : List Stp) (hm : P.follows .mixedOrders = true) (hB : scriptB P ops l = true)
    (h : WpT P ops Q l a w.drew) : (Code.region id ops true).wp P Q a w :=
  wp_region_noPanic (wp_region_any hm (wpAny_T l hB h))

/-! ### The steps of a walk -/
theorem wpT_nil {a : Act} {w : World} (h : Q .normal a w) : WpT P ops Q [] a w := ⟨h⟩
theorem wpT_skip {s : Stp} {o : Oper} {rest : List Stp} {a : Act} {w : World} (ho : ops.toList[s.i]? = some o) (hw : Region.wanted o (yielded ops a.tmps) = false) (h : WpT P ops Q rest (a.put o.dst undef) w) :
    WpT P ops Q (s :: rest) a w := by
  replace h := h.out
  refine ⟨?_⟩
  rw [Array.getElem?_toList] at ho
  unfold wpT elemT
  rw [ho]
  dsimp only
  rw [if_neg (by rw [hw]; exact Bool.false_ne_true)]
  exact h
theorem wpT_q {i : Nat} {held : List Nat} {o : Oper} {rest : List Stp} {a : Act} {w : World} (ho : ops.toList[i]? = some o) (hw : Region.wanted o (yielded ops a.tmps) = true)
    (h : ∀ K : Act → World → Prop, (∀ a', WpT P ops Q rest a' w → K a' w) → o.wp P a w K (fun _ _ _ => False)) :
    WpT P ops Q (⟨i, true, held⟩ :: rest) a w := by
  refine ⟨?_⟩
  rw [Array.getElem?_toList] at ho
  unfold wpT elemT
  dsimp only
  rw [ho]
  dsimp only
  rw [if_pos hw, if_pos rfl]
  exact h _ fun a' h' => ⟨rfl, h'.out⟩
theorem wpT_e {i : Nat} {j : Nat} {held : List Nat} {o : Oper} {rest : List Stp} {a : Act} {w : World} (ho : ops.toList[i]? = some o) (hw : Region.wanted o (yielded ops a.tmps) = true)
    (h : ∀ K : Act → World → Prop, (∀ a' w', Agains P ops a w w' (j :: held) ∧ WpT P ops Q rest a' w' → K a' w') → o.wp P a w K (NoPanic Q)) :
    WpT P ops Q (⟨i, false, j :: held⟩ :: rest) a w := by
  refine ⟨?_⟩
  rw [Array.getElem?_toList] at ho
  unfold wpT elemT
  dsimp only
  rw [ho]
  dsimp only
  rw [if_pos hw, if_neg Bool.false_ne_true]
  exact .inl (h _ fun a' w' h' => ⟨h'.1, h'.2.out⟩)
theorem wpT_e0 {i : Nat} {o : Oper} {rest : List Stp} {a : Act} {w : World} (ho : ops.toList[i]? = some o) (hw : Region.wanted o (yielded ops a.tmps) = true)
    (h : ∀ K : Act → World → Prop, (∀ a' w', WpT P ops Q rest a' w' → K a' w') → o.wp P a w K (NoPanic Q)) :
    WpT P ops Q (⟨i, false, []⟩ :: rest) a w := by
  refine ⟨?_⟩
  rw [Array.getElem?_toList] at ho
  unfold wpT elemT
  dsimp only
  rw [ho]
  dsimp only
  rw [if_pos hw, if_neg Bool.false_ne_true]
  exact .inl (h _ fun a' w' h' => ⟨trivial, h'.out⟩)

/-! ### What is held over an effect -/
theorem agains_nil {a : Act} {w w' : World} : Agains P ops a w w' [] := trivial
theorem agains_cons {i : Nat} {is : List Nat} {o : Oper} {a : Act} {w w' : World} (ho : ops.toList[i]? = some o) (h : Again P o a w w') (hs : Agains P ops a w w' is) : Agains P ops a w w' (i :: is) :=
  ⟨fun o' ho' _ => by
    rw [Array.getElem?_toList] at ho
    rw [ho] at ho'
    cases ho'
    exact h, hs⟩
theorem agains_same {a : Act} {w : World} : ∀ {is : List Nat}, Agains P ops a w w is
  | [] => trivial
  | _ :: _ => ⟨fun _ _ _ _ h => h, agains_same⟩
theorem run_load_some {P : Program} {w : World} {ad : Addr} {v : Value} (h : w.cell? ad = some v) : (load ad).run P w = .ok v w := by
  unfold load
  unfold Sem.run
  rw [h]
  rfl
theorem run_load_none {P : Program} {w : World} {ad : Addr} (h : w.cell? ad = none) (hc : ∃ c t f, w.heap[ad.block]? = some (.cells c t f)) : ∃ x, (load ad).run P w = .halt x w := by
  obtain ⟨c, t, f, hc⟩ := hc
  unfold load
  unfold Sem.run
  rw [h]
  dsimp only
  have hfar : w.farLoad P ad (Mode.plain == Mode.atomic) = .error (w.noCell ad "load: no such cell") := by
    unfold World.farLoad
    rw [hc]
  rw [hfar]
  exact ⟨_, rfl⟩
theorem reads_loadCells (ad : Addr) (P : Program) (w w' : World) (hb : w'.heap[ad.block]? = w.heap[ad.block]?) (hc : ∃ c t f, w.heap[ad.block]? = some (.cells c t f)) :
    ∀ (n i : Nat) (acc vs : Array Value), (loadCellsFrom ad i n acc).run P w = .ok vs w → (loadCellsFrom ad i n acc).run P w' = .ok vs w'
  | 0, i, acc, vs, h => by
    have h' : Result.ok acc w = Result.ok vs w := h
    cases h'; rfl
  | n + 1, i, acc, vs, h => by
    have hblk : (ad.add i).block = ad.block := by unfold Addr.add; split <;> rfl
    have hcell : w'.cell? (ad.add i) = w.cell? (ad.add i) := by simp [World.cell?, hblk, hb]
    unfold loadCellsFrom at h ⊢
    rw [run_bind'] at h ⊢
    cases hv : w.cell? (ad.add i) with
    | some v =>
      rw [run_load_some hv] at h
      rw [run_load_some (hcell.trans hv)]
      exact reads_loadCells ad P w w' hb hc n (i + 1) _ vs h
    | none =>
      obtain ⟨x, hx⟩ := run_load_none (P := P) hv (by rw [hblk]; exact hc)
      rw [hx] at h
      cases h
theorem again_load {o : Oper} {t : TypeId} {x : Operand} {a : Act} {w w' : World} {ad : Addr} (ho : o.op = .load t x) (hx : a.eval x = .pointer (some ad)) (hb : w'.heap[ad.block]? = w.heap[ad.block]?)
    (hc : ∃ c t f, w.heap[ad.block]? = some (.cells c t f)) : Again P o a w w' := by
  intro v h
  unfold execOp at h ⊢
  rw [ho] at h ⊢
  dsimp only at h ⊢
  rw [hx] at h ⊢
  have hla : ∀ w : World, (Instr.loadAt t (.pointer (some ad))).run P w = (loadVar t ad).run P w := fun w => rfl
  rw [run_bind', hla] at h ⊢
  have key : ∀ v, (loadVar t ad).run P w = .ok v w → (loadVar t ad).run P w' = .ok v w' := by
    intro v h
    unfold loadVar at h ⊢
    unfold isAgg at h ⊢
    rw [run_bind', run_bind', run_underlying_eq] at h ⊢
    cases hu : P.underlying t with
    | none => rw [hu] at h; cases h
    | some d =>
      rw [hu] at h
      dsimp only at h ⊢
      have agg : ∀ v, (do pure (.agg (← loadCells ad (← sizeOf t))) : Sem Value).run P w = .ok v w → (do pure (.agg (← loadCells ad (← sizeOf t))) : Sem Value).run P w' = .ok v w' := by
        intro v h
        rw [run_bind', run_sizeOf_eq] at h ⊢
        cases hi : P.info? t with
        | none => rw [hi] at h; cases h
        | some i =>
          rw [hi] at h
          dsimp only at h ⊢
          rw [run_bind'] at h ⊢
          cases hr : (loadCells ad i.size).run P w with
          | halt x w1 => rw [hr] at h; cases h
          | ok vs w1 =>
            rw [hr] at h
            have h2 : Result.ok (Value.agg vs) w1 = Result.ok v w := h
            cases h2
            have h3 : (loadCells ad i.size).run P w' = .ok vs w' := reads_loadCells ad P w w' hb hc _ _ _ _ hr
            rw [h3]
            rfl
      have one : ∀ v, (load ad).run P w = .ok v w → (load ad).run P w' = .ok v w' := by
        intro v h
        have hcell : w'.cell? ad = w.cell? ad := by simp [World.cell?, hb]
        cases hv : w.cell? ad with
        | some u =>
          rw [run_load_some hv] at h
          cases h
          exact run_load_some (hcell.trans hv)
        | none =>
          obtain ⟨x, hx⟩ := run_load_none (P := P) hv hc
          rw [hx] at h
          cases h
      cases d <;> first | exact one v h | exact agg v h
  cases hr : (loadVar t ad).run P w with
  | halt x w1 => rw [hr] at h; cases h
  | ok u w1 =>
    rw [hr] at h
    have h2 : Result.ok (Next.value u) w1 = Result.ok (Next.value v) w := h
    cases h2
    rw [key _ hr]
    rfl
end
end Go.Proofs.YtfepggdljhiemaaGreatDoor.Gw
