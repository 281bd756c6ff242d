import Derived.Test.YtminfegoldgjpaaGreatDoorGMem
set_option linter.unusedVariables false
set_option linter.unusedSimpArgs false
set_option maxRecDepth 100000
namespace Go.Proofs.YtminfegoldgjpaaGreatDoor.Gw
open Go
theorem wi_zeroValue (t : TypeId) : WI (zeroValue t) := by
 unfold zeroValue
 refine wi_bind (wi_typeInfo t) fun _ => ?_
 split
 · exact wi_pure _
 · exact wi_halt _
theorem wi_mapL {α β : Type} {f : α → Sem β} (hf : ∀ a, WI (f a)) : ∀ l : List α, WI (l.mapM f)
 | [] => by
   rw [List.mapM_nil]
   exact wi_pure _
 | a :: l => by
   rw [List.mapM_cons]
   exact wi_bind (hf a) fun _ => wi_bind (wi_mapL hf l) fun _ => wi_pure _
theorem wi_mapA {α β : Type} {f : α → Sem β} (hf : ∀ a, WI (f a)) (l : Array α) : WI (l.mapM f) := by
 rw [Array.mapM_eq_mapM_toList]
 exact wi_bind (wi_mapL hf _) fun _ => wi_pure _
theorem wi_build (t : TypeId) (xs : Array (Nat × Value)) : WI (Instr.build t xs) := by
 unfold Instr.build
 refine wi_bind (wi_zeroValue t) fun z => ?_
 refine wi_bind (wi_underlying t) fun d => ?_
 split
 · refine wi_bind (wi_mapA (fun f => wi_bind (wi_sizeOf _) fun _ => wi_pure _) _) fun ps => ?_
   split
   · exact wi_pure _
   · exact wi_halt _
 · refine wi_bind (wi_sizeOf _) fun n => ?_
   split
   · exact wi_pure _
   · exact wi_halt _
 · exact wi_halt _
theorem again_build {P : Program} {o : Oper} {a : Act} {w w' : World} {t : TypeId} {xs : Array (Nat × Operand)} (ho : o.op = .build t xs) : Again P o a w w' := by
 refine again_wi ?_
 unfold execOp
 rw [ho]
 dsimp only
 exact wi_value (wi_at (wi_build _ _) P)
theorem again_len {P : Program} {o : Oper} {a : Act} {w w' : World} {x : Operand} {t : TypeId} {ao : Option Addr} {n cap : Nat} (ho : o.op = .call { callee := .builtin .len, args := #[x], argTypes := #[t] }) (hx : a.eval x = .slice ao n cap) (hu : P.underlying t = some (.slice (P.elem t))) : Again P o a w w' :=
 again_const (v := goInt n) fun w => by
   unfold execOp
   rw [ho]
   simp only [resolve, invoke, builtin, Sem.run_bind, Sem.run_pure, Result.andThen_ok, List.map_toArray, List.map_cons, List.map_nil, hx, run_len_slice w t _ ao n cap hu]
end Go.Proofs.YtminfegoldgjpaaGreatDoor.Gw
