import Derived.Test.YtfepggdljhiemaaGreatDoorGMem
/-! Held values of 'build' and 'len'. No program is named here. -/
set_option linter.unusedVariables false
set_option linter.unusedSimpArgs false
set_option maxRecDepth 100000
namespace Go.Proofs.YtfepggdljhiemaaGreatDoor.Gw
open Go

theorem again_len {P : Program} {o : Oper} {a : Act} {w w' : World} {x : Operand} {t : TypeId} {ao : Option Addr} {n cap : Nat} (ho : o.op = .call { callee := .builtin .len, args := #[x], argTypes := #[t] }) (hx : a.eval x = .slice ao n cap) (hu : P.underlying t = some (.slice (P.elem t))) : Again P o a w w' :=
  again_const (v := goInt n) fun w => by
    unfold execOp
    rw [ho]
    simp only [resolve, invoke, builtin, Sem.run_bind, Sem.run_pure, Result.andThen_ok, List.map_toArray, List.map_cons, List.map_nil, hx, run_len_slice w t _ ao n cap hu]
end Go.Proofs.YtfepggdljhiemaaGreatDoor.Gw
