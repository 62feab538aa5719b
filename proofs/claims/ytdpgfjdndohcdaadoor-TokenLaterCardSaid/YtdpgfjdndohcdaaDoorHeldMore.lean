/- A drawn region walked by hand: an operation that alone may come up and changes the world. -/
import Derived.Test.YtdpgfjdndohcdaaDoorHeld
namespace Go.Proofs.YtdpgfjdndohcdaaDoor
open Go.RowKit

section
variable {P : Program} {ops : Array Oper} {Q : Exit → Act → World → Prop} {md : Region.Mode} {S : World → Prop} {fuel : Nat} {listed : Array Bool} {a : Act} {w : World}
/-- An operation that alone may come up, with its value, in the world that it leaves. -/
theorem held_value (i : Nat) {oi : Oper} (v : Value) (w' : World) (hi : ops[i]? = some oi) (hr : Region.ready md ops listed = [i])
    (hw : Region.wanted oi (yielded ops a.tmps) = true) (hy : (execOp a.eval oi).run P w = .ok (.value v) w')
    (hS : S w') (h : wpAnyH P md ops Q S fuel (listed.setIfInBounds i true) (a.put oi.dst v) w') : wpAnyH P md ops Q S (fuel + 1) listed a w := by
  refine wpAnyH_all hr (by simp) fun j hj => ?_
  obtain rfl : j = i := by simpa using hj
  unfold wpOp
  simp only [hi, hw, if_true]
  refine .inl ?_
  unfold Oper.wp
  rw [hy]
  simp only [Oper.upon]
  exact ⟨hS, h⟩
theorem run_op_convert {ρ : Operand → Value} {o : Oper} {v : Value} {w' : World} (s d : Nat) (x : Operand) (ho : o.op = .convert s d x) (hr : (convert s d (ρ x)).run P w = .ok v w') : (execOp ρ o).run P w = .ok (.value v) w' := by
  unfold execOp
  rw [ho]
  simp only [Sem.run_bind, hr, Result.andThen_ok, Sem.run_pure]
end
end Go.Proofs.YtdpgfjdndohcdaaDoor
