/-
  An operation by an equation on its run: in a plain list, in a region that stands still, in a region that draws its order. Over any program.
-/
import Derived.Test.YtpllifppjlakpaaDkC
import Derived.StillTailTactics
import Derived.Great.BuildSlice
namespace Go.Proofs.Ytpllifppjlakpaa
open Go.RowKit
set_option linter.unusedVariables false
set_option linter.unusedSimpArgs false
section
variable {P : Program} {ops : Array Oper} {rest : List Oper} {o : Oper} {a : Act} {w w' : World} {v : Value}
def Runs (P : Program) (a : Act) (o : Oper) (w : World) (v : Value) (w' : World) : Prop :=
  (execOp a.eval o).run P w = .ok (.value v) w' ∨ ((execOp a.eval o).run P w = .ok .skip w' ∧ v = undef)
theorem runs_load {ty : TypeId} {x : Operand} {p : Value} (ho : o.op = .load ty x) (hx : a.eval x = p) (h : (Instr.loadAt ty p).run P w = .ok v w') : Runs P a o w v w' := by
  left
  unfold execOp
  simp only [ho, hx, Sem.run_bind, h, Result.andThen_ok, Sem.run_pure]
theorem runs_store {ty : TypeId} {x y : Operand} {p q : Value} (ho : o.op = .store ty x y) (hx : a.eval x = p) (hy : a.eval y = q) (h : (Instr.storeAt ty p q).run P w = .ok () w') : Runs P a o w undef w' := by
  right
  refine ⟨?_, rfl⟩
  unfold execOp
  simp only [ho, hx, hy, Sem.run_bind, h, Result.andThen_ok, Sem.run_pure]
theorem runs_build {t : TypeId} {parts : Array (Nat × Operand)} {ps : Array (Nat × Value)} (ho : o.op = .build t parts) (hp : parts.map (fun (i, x) => (i, a.eval x)) = ps) (h : (Instr.build t ps).run P w = .ok v w') : Runs P a o w v w' := by
  left
  unfold execOp
  simp only [ho, hp, Sem.run_bind, h, Result.andThen_ok, Sem.run_pure]
theorem runs_buildSlice {t : TypeId} {n : Nat} {parts : Array (Nat × Operand)} {ps : Array (Nat × Value)} (ho : o.op = .buildSlice t n parts) (hp : parts.map (fun (i, x) => (i, a.eval x)) = ps) (h : (Instr.buildSlice t n ps).run P w = .ok v w') : Runs P a o w v w' := by
  left
  unfold execOp
  simp only [ho, hp, Sem.run_bind, h, Result.andThen_ok, Sem.run_pure]
theorem runs_mapUpdate {t : TypeId} {m k x : Operand} {mv kv xv : Value} (ho : o.op = .mapUpdate t m k x) (hm : a.eval m = mv) (hk : a.eval k = kv) (hx : a.eval x = xv) (h : (Instr.mapUpdate t mv kv xv).run P w = .ok () w') : Runs P a o w undef w' := by
  right
  refine ⟨?_, rfl⟩
  unfold execOp
  simp only [ho, hm, hk, hx, Sem.run_bind, h, Result.andThen_ok, Sem.run_pure]
theorem runs_append {t : TypeId} {s x : Operand} {sv xv : Value} (ho : o.op = .call { callee := .builtin .append, args := #[s, x], argTypes := #[t, t] }) (hs : a.eval s = sv) (hx : a.eval x = xv) (h : (Builtin.append_ #[t, t] o.type #[sv, xv]).run P w = .ok v w') : Runs P a o w v w' := by
  left
  unfold execOp
  simp only [ho, resolve, invoke, builtin, Sem.run_bind, Sem.run_pure, Result.andThen_ok, List.map_toArray, List.map_cons, List.map_nil, hs, hx, h]
theorem any_runs {K : Act → World → Prop} {Q : Exit → Act → World → Prop} {E : Prop} (hw : Region.wanted o (yielded ops a.tmps) = true) (hr : Runs P a o w v w') (hK : K (a.put o.dst v) w') :
    if Region.wanted o (yielded ops a.tmps) = true then Oper.wp P o a w K Q else E := by
  rw [if_pos hw]
  unfold Oper.wp
  rcases hr with h | ⟨h, rfl⟩
  · rw [h]; exact hK
  · rw [h]; exact hK
theorem list_runs {Q : Exit → Act → World → Prop} (hw : Region.wanted o (yielded ops a.tmps) = true) (hr : Runs P a o w v w') (h : wpList P ops Q rest (a.put o.dst v) w') : wpList P ops Q (o :: rest) a w := by
  refine wpList_step fun K hK => ?_
  exact any_runs hw hr (hK _ _ h)
theorem still_runs {K : Act → Prop} {E : Prop} (hw : Region.wanted o (yielded ops a.tmps) = true) (hr : Runs P a o w v w) (h : K (a.put o.dst v)) : if Region.wanted o (yielded ops a.tmps) = true then o.still P a w K else E := by
  rw [if_pos hw]
  unfold Oper.still
  rcases hr with h' | ⟨h', rfl⟩
  · rw [h']; exact ⟨rfl, h⟩
  · rw [h']; exact ⟨rfl, h⟩
end
end Go.Proofs.Ytpllifppjlakpaa
