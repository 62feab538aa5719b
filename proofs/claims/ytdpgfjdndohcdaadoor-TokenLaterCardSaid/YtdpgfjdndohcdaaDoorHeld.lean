/- A drawn region walked by hand: an operation that yields its value in every world of a class is taken first; a call, where it alone may come up. -/
import Derived.Test.YtdpgfjdndohcdaaDoorLift
import Derived.Deep.RegionHeld3
namespace Go.Proofs.YtdpgfjdndohcdaaDoor
open Go.RowKit

section
variable {P : Program} {ops : Array Oper} {Q : Exit → Act → World → Prop} {md : Region.Mode} {S : World → Prop} {fuel : Nat} {listed : Array Bool} {a : Act} {w : World}

/-- Operation i is taken first. -/
theorem held_take (i : Nat) {oi : Oper} (v : Value) (hS : S w) (hi : ops[i]? = some oi) (hQ : ∀ c a w, Q (.panic c) (a.put oi.dst v) w → Q (.panic c) a w)
    (hs : Region.noSelect ops = true) (hf : Region.free md ops listed i = true) (hr : (Region.ready md ops listed).contains i = true)
    (hw : oi.guard = none) (hy : ∀ w, S w → (execOp a.eval oi).run P w = .ok (.value v) w)
    (h : wpAnyH P md ops Q S fuel (listed.setIfInBounds i true) (a.put oi.dst v) w) : wpAnyH P md ops Q S (fuel + 1) listed a w :=
  wpAnyH_take hi hs hf hr hQ (.inl ⟨by simp [Region.wanted, hw], hy⟩) hS h

/-- A guarded operation that is not wanted is passed over. -/
theorem held_skip (i : Nat) {oi : Oper} (hS : S w) (hi : ops[i]? = some oi) (hQ : ∀ c a w, Q (.panic c) (a.put oi.dst undef) w → Q (.panic c) a w)
    (hs : Region.noSelect ops = true) (hf : Region.free md ops listed i = true) (hr : (Region.ready md ops listed).contains i = true)
    (hw : Region.wanted oi (yielded ops a.tmps) = false)
    (h : wpAnyH P md ops Q S fuel (listed.setIfInBounds i true) (a.put oi.dst undef) w) : wpAnyH P md ops Q S (fuel + 1) listed a w :=
  wpAnyH_take hi hs hf hr hQ (.inr ⟨hw, rfl⟩) hS h

/-- A guarded operation that is wanted is taken first. -/
theorem held_want (i : Nat) {oi : Oper} (v : Value) (hS : S w) (hi : ops[i]? = some oi) (hQ : ∀ c a w, Q (.panic c) (a.put oi.dst v) w → Q (.panic c) a w)
    (hs : Region.noSelect ops = true) (hf : Region.free md ops listed i = true) (hr : (Region.ready md ops listed).contains i = true)
    (hw : Region.wanted oi (yielded ops a.tmps) = true) (hy : ∀ w, S w → (execOp a.eval oi).run P w = .ok (.value v) w)
    (h : wpAnyH P md ops Q S fuel (listed.setIfInBounds i true) (a.put oi.dst v) w) : wpAnyH P md ops Q S (fuel + 1) listed a w :=
  wpAnyH_take hi hs hf hr hQ (.inl ⟨hw, hy⟩) hS h

/-- A call that alone may come up. -/
theorem held_call (i : Nat) {oi : Oper} {f : FuncId} {args : Array Value} (hi : ops[i]? = some oi) (hr : Region.ready md ops listed = [i])
    (hw : Region.wanted oi (yielded ops a.tmps) = true) (hy : (execOp a.eval oi).run P w = .ok (.enter f args) w)
    (h : Calls P f args w fun e w' => ∃ v, e = .returned v ∧ S w' ∧ wpAnyH P md ops Q S fuel (listed.setIfInBounds i true) (a.put oi.dst v) w') : wpAnyH P md ops Q S (fuel + 1) listed a w := by
  refine wpAnyH_all hr (by simp) fun j hj => ?_
  obtain rfl : j = i := by simpa using hj
  unfold wpOp
  simp only [hi, hw, if_true]
  refine .inl ?_
  unfold Oper.wp
  rw [hy]
  simp only [Oper.upon]
  refine h.mono fun e w' ⟨v, he, hS, hk⟩ => ?_
  subst he
  exact ⟨hS, hk⟩

/-- A store (or whatever yields nothing) that alone may come up. -/
theorem held_store (i : Nat) {oi : Oper} {w' : World} (hi : ops[i]? = some oi) (hr : Region.ready md ops listed = [i])
    (hw : Region.wanted oi (yielded ops a.tmps) = true) (hy : (execOp a.eval oi).run P w = .ok .skip w')
    (hS : S w') (h : wpAnyH P md ops Q S fuel (listed.setIfInBounds i true) (a.put oi.dst undef) w') : wpAnyH P md ops Q S (fuel + 1) listed a w := by
  refine wpAnyH_all hr (by simp) fun j hj => ?_
  obtain rfl : j = i := by simpa using hj
  unfold wpOp
  simp only [hi, hw, if_true]
  refine .inl ?_
  unfold Oper.wp
  rw [hy]
  simp only [Oper.upon]
  exact ⟨hS, h⟩

theorem run_op_load {ρ : Operand → Value} {o : Oper} {v : Value} (t : Nat) (x : Operand) (ho : o.op = .load t x) (hr : (Instr.loadAt t (ρ x)).run P w = .ok v w) : (execOp ρ o).run P w = .ok (.value v) w := by
  unfold execOp
  rw [ho]
  simp only [Sem.run_bind, hr, Result.andThen_ok, Sem.run_pure]
theorem run_op_store {ρ : Operand → Value} {o : Oper} {w' : World} (t : Nat) (x y : Operand) (ho : o.op = .store t x y) (hr : (Instr.storeAt t (ρ x) (ρ y)).run P w = .ok () w') : (execOp ρ o).run P w = .ok .skip w' := by
  unfold execOp
  rw [ho]
  simp only [Sem.run_bind, hr, Result.andThen_ok, Sem.run_pure]
end
theorem store_st {w : World} {b : Nat} {x y z : Int} (h : w.heap[b]? = some (stO x y z)) (x' y' z' : Int) :
    (Instr.storeAt 25 (.pointer (some ⟨b, 0, none⟩)) (.agg #[.int .u64 x', .int .u32 y', .int .u32 z'])).run Tryd.prog w = .ok () (((w.setCell ⟨b, 0, none⟩ (.int .u64 x')).setCell ⟨b, 1, none⟩ (.int .u32 y')).setCell ⟨b, 2, none⟩ (.int .u32 z')) := by
  obtain ⟨h0, h1, h2⟩ := st_cells h
  have f0 := st_free h 0
  have f1 := st_free h 1
  have f2 := st_free h 2
  go_simp
end Go.Proofs.YtdpgfjdndohcdaaDoor
