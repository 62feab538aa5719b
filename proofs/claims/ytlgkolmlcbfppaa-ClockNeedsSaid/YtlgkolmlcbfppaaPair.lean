/- A pair of clocks, the program's and the document's: what they hold, and when they agree. -/
import Derived.Test.YtlgkolmlcbfppaaRefNew
namespace Go.Proofs.Ytlgkolmlcbfppaa
open Go.RowKit

/-- The program's clock and the document's, and what both hold. -/
structure PS where
  cb : Nat
  db : Nat
  rg : Nat
  sg : Nat
  lg : Nat
  node : Int
  win : Int
  ceil : Int
  rd : Int
  l0 : Int
  l1 : Int
  l2 : Int
  R : List Int
  S : List St
  L : List Int

def PS.F (p : PS) (k : Nat) : Prop := k = p.cb ∨ k = p.db ∨ k = p.rg ∨ k = p.sg ∨ k = p.lg

def PS.Agree (p : PS) (cnt : Nat) : Prop :=
  1 ≤ p.R.length ∧ intAt p.R (p.R.length - 1) = p.rd ∧ maxTo (stAt p.S) p.S.length = ⟨p.l0, p.l1, p.l2⟩ ∧ maxN (intAt p.L) p.L.length = p.ceil ∧
  p.R.length ≤ cnt + 1 ∧ p.S.length ≤ cnt + 1 ∧ p.L.length ≤ cnt + 1 ∧
  0 ≤ p.l0 ∧ p.l0 ≤ topW ∧ 0 ≤ p.l1 ∧ p.l1 ≤ topL ∧ 0 ≤ p.l2 ∧ p.rd ≤ topW ∧ 0 ≤ p.node ∧ 0 ≤ p.win ∧ p.win ≤ topW ∧ 0 ≤ p.ceil

structure PS.At (p : PS) (B lb : Nat) (w : World) : Prop where
  clk : w.heap[p.cb]? = some (clkO p.win p.ceil p.node p.rd p.l0 p.l1 p.l2)
  dat : DAt w p.db p.rg p.sg p.lg p.node p.win p.R p.S p.L
  apart : p.cb ≠ p.db ∧ p.cb ≠ p.rg ∧ p.cb ≠ p.sg ∧ p.cb ≠ p.lg
  base : B ≤ p.cb ∧ B ≤ p.db ∧ B ≤ p.rg ∧ B ≤ p.sg ∧ B ≤ p.lg
  loc : ¬ p.F lb

/-! ### Lists that grow by one -/
theorem intAt_last (R : List Int) (x : Int) : intAt (R ++ [x]) R.length = x := by simp [intAt]
theorem maxTo_congr {f g : Nat → St} : ∀ n, (∀ k, k < n → f k = g k) → maxTo f n = maxTo g n := by
  intro n
  induction n with
  | zero => intro _; rfl
  | succ n ih =>
    intro h
    have e := ih fun k hk => h k (by omega)
    have e2 := h n (by omega)
    show (if (maxTo f n).lt (f n) = true then f n else maxTo f n) = (if (maxTo g n).lt (g n) = true then g n else maxTo g n)
    rw [e, e2]
theorem maxN_congr {f g : Nat → Int} : ∀ n, (∀ k, k < n → f k = g k) → maxN f n = maxN g n := by
  intro n
  induction n with
  | zero => intro _; rfl
  | succ n ih =>
    intro h
    have e := ih fun k hk => h k (by omega)
    have e2 := h n (by omega)
    show (if maxN f n < f n then f n else maxN f n) = (if maxN g n < g n then g n else maxN g n)
    rw [e, e2]
theorem stAt_old (S : List St) (s : St) (k : Nat) (h : k < S.length) : stAt (S ++ [s]) k = stAt S k := by
  simp [stAt, List.getElem?_append_left h]
theorem intAt_old (S : List Int) (s : Int) (k : Nat) (h : k < S.length) : intAt (S ++ [s]) k = intAt S k := by
  simp [intAt, List.getElem?_append_left h]
theorem maxTo_snoc (S : List St) (s : St) {l : St} (h : maxTo (stAt S) S.length = l) : maxTo (stAt (S ++ [s])) (S ++ [s]).length = if l.lt s = true then s else l := by
  rw [List.length_append]
  show (if (maxTo (stAt (S ++ [s])) S.length).lt (stAt (S ++ [s]) S.length) = true then stAt (S ++ [s]) S.length else maxTo (stAt (S ++ [s])) S.length) = _
  rw [maxTo_congr S.length (stAt_old S s), h, show stAt (S ++ [s]) S.length = s by simp [stAt]]
theorem maxN_snoc (L : List Int) (x : Int) {c : Int} (h : maxN (intAt L) L.length = c) : maxN (intAt (L ++ [x])) (L ++ [x]).length = max c x := by
  rw [List.length_append]
  show (if maxN (intAt (L ++ [x])) L.length < intAt (L ++ [x]) L.length then intAt (L ++ [x]) L.length else maxN (intAt (L ++ [x])) L.length) = _
  rw [maxN_congr L.length (intAt_old L x), h, intAt_last]
  split <;> omega

/-- A call on a pair: it answers true, both clocks agree behind it, and only their blocks may have turned. -/
def ToldP (p : PS) (B lb cnt : Nat) (w : World) (e : Ending) (w' : World) : Prop :=
  ∃ p' : PS, e = .returned (.bool true) ∧ Foot p.F w w' ∧ p'.At B lb w' ∧ p'.Agree (cnt + 1) ∧ p'.cb = p.cb ∧ p'.db = p.db ∧ ∀ k, p'.F k → p.F k ∨ w.heap.size ≤ k

section
variable {p : PS} {B lb cnt : Nat} {w w' : World}
theorem agree_more (h : p.Agree cnt) : p.Agree (cnt + 1) := by
  obtain ⟨a1, a2, a3, a4, a5, a6, a7, a8⟩ := h
  exact ⟨a1, a2, a3, a4, by omega, by omega, by omega, a8⟩
/-- Nothing of the pair's has turned. -/
theorem told_same (hp : p.At B lb w) (ha : p.Agree cnt) (hb : Below w.heap.size w w') : ToldP p B lb cnt w (.returned (.bool true)) w' :=
  ⟨p, rfl, Foot.ofBelow hb, ⟨below_heap hb hp.clk (lt_of_heap hp.clk), foot_dat (F := fun _ => False) (Foot.ofBelow hb) hp.dat id id id id, hp.apart, hp.base, hp.loc⟩, agree_more ha, rfl, rfl, fun _ h => Or.inl h⟩
theorem told_read (hp : p.At B lb w) (ha : p.Agree cnt) {x : Int} {rg' : Nat} (hlb : lb < w.heap.size) (hx : x ≤ topW) (hF : Foot p.F w w') (hk : w'.heap[p.cb]? = some (clkO p.win p.ceil p.node x p.l0 p.l1 p.l2))
    (hr : rg' = p.rg ∨ w.heap.size ≤ rg') (hB : B ≤ w.heap.size) (hd : DAt w' p.db rg' p.sg p.lg p.node p.win (p.R ++ [x]) p.S p.L) : ToldP p B lb cnt w (.returned (.bool true)) w' := by
  obtain ⟨a1, a2, a3, a4, a5, a6, a7, a8⟩ := ha
  have hcl := lt_of_heap hp.clk
  have := hp.apart
  have := hp.base
  have hl := hp.loc
  unfold PS.F at hl
  have hA : PS.Agree { p with rd := x, R := p.R ++ [x], rg := rg' } (cnt + 1) := by
    unfold PS.Agree
    simp only [List.length_append, List.length_singleton, Nat.add_sub_cancel]
    exact ⟨by omega, intAt_last _ _, a3, a4, by omega, by omega, by omega, a8.1, a8.2.1, a8.2.2.1, a8.2.2.2.1, a8.2.2.2.2.1, hx, a8.2.2.2.2.2.2⟩
  refine ⟨{ p with rd := x, R := p.R ++ [x], rg := rg' }, rfl, hF, ⟨hk, hd, ?_, ?_, ?_⟩, hA, rfl, rfl, ?_⟩
  · simp only; omega
  · simp only; omega
  · unfold PS.F; simp only; omega
  · intro k hk
    rcases hk with h | h | h | h | h
    · exact Or.inl (Or.inl h)
    · exact Or.inl (Or.inr (Or.inl h))
    · rcases hr with q | q
      · exact Or.inl (Or.inr (Or.inr (Or.inl ((show k = rg' from h).trans q))))
      · exact Or.inr (by rw [show k = rg' from h]; exact q)
    · exact Or.inl (Or.inr (Or.inr (Or.inr (Or.inl h))))
    · exact Or.inl (Or.inr (Or.inr (Or.inr (Or.inr h))))
theorem told_reserve (hp : p.At B lb w) (ha : p.Agree cnt) {x : Int} {lg' : Nat} (hlb : lb < w.heap.size) (hF : Foot p.F w w') (hk : w'.heap[p.cb]? = some (clkO p.win (max p.ceil x) p.node p.rd p.l0 p.l1 p.l2))
    (hr : lg' = p.lg ∨ w.heap.size ≤ lg') (hB : B ≤ w.heap.size) (hd : DAt w' p.db p.rg p.sg lg' p.node p.win p.R p.S (p.L ++ [x])) : ToldP p B lb cnt w (.returned (.bool true)) w' := by
  obtain ⟨a1, a2, a3, a4, a5, a6, a7, a8⟩ := ha
  have hcl := lt_of_heap hp.clk
  have := hp.apart
  have := hp.base
  have hl := hp.loc
  unfold PS.F at hl
  have hA : PS.Agree { p with ceil := max p.ceil x, L := p.L ++ [x], lg := lg' } (cnt + 1) := by
    have e := maxN_snoc p.L x a4
    unfold PS.Agree
    simp only
    have e2 : (p.L ++ [x]).length = p.L.length + 1 := by simp
    exact ⟨a1, a2, a3, e, by omega, by omega, by omega, a8.1, a8.2.1, a8.2.2.1, a8.2.2.2.1, a8.2.2.2.2.1, a8.2.2.2.2.2.1, a8.2.2.2.2.2.2.1, a8.2.2.2.2.2.2.2.1, a8.2.2.2.2.2.2.2.2.1, by omega⟩
  refine ⟨{ p with ceil := max p.ceil x, L := p.L ++ [x], lg := lg' }, rfl, hF, ⟨hk, hd, ?_, ?_, ?_⟩, hA, rfl, rfl, ?_⟩
  · simp only; omega
  · simp only; omega
  · unfold PS.F; simp only; omega
  · intro k hk
    rcases hk with h | h | h | h | h
    · exact Or.inl (Or.inl h)
    · exact Or.inl (Or.inr (Or.inl h))
    · exact Or.inl (Or.inr (Or.inr (Or.inl h)))
    · exact Or.inl (Or.inr (Or.inr (Or.inr (Or.inl h))))
    · rcases hr with q | q
      · exact Or.inl (Or.inr (Or.inr (Or.inr (Or.inr ((show k = lg' from h).trans q)))))
      · exact Or.inr (by rw [show k = lg' from h]; exact q)
theorem told_seen (hp : p.At B lb w) (ha : p.Agree cnt) {m s : St} {sg' : Nat} (hlb : lb < w.heap.size) (hF : Foot p.F w w') (hk : w'.heap[p.cb]? = some (clkO p.win p.ceil p.node p.rd m.w m.l m.n))
    (hm : m = if ltB p.l0 p.l1 p.l2 s.w s.l s.n = true then s else ⟨p.l0, p.l1, p.l2⟩) (e0 : 0 ≤ s.w) (e0' : s.w ≤ topW) (e1 : 0 ≤ s.l) (e1' : s.l ≤ topL) (e2 : 0 ≤ s.n)
    (hr : sg' = p.sg ∨ w.heap.size ≤ sg') (hB : B ≤ w.heap.size) (hd : DAt w' p.db p.rg sg' p.lg p.node p.win p.R (p.S ++ [s]) p.L) : ToldP p B lb cnt w (.returned (.bool true)) w' := by
  obtain ⟨a1, a2, a3, a4, a5, a6, a7, a8⟩ := ha
  have hcl := lt_of_heap hp.clk
  have := hp.apart
  have := hp.base
  have hl := hp.loc
  unfold PS.F at hl
  have hmm : 0 ≤ m.w ∧ m.w ≤ topW ∧ 0 ≤ m.l ∧ m.l ≤ topL ∧ 0 ≤ m.n := by
    rw [hm]
    split
    · exact ⟨e0, e0', e1, e1', e2⟩
    · exact ⟨a8.1, a8.2.1, a8.2.2.1, a8.2.2.2.1, a8.2.2.2.2.1⟩
  have hA : PS.Agree { p with l0 := m.w, l1 := m.l, l2 := m.n, S := p.S ++ [s], sg := sg' } (cnt + 1) := by
    have e : maxTo (stAt (p.S ++ [s])) (p.S ++ [s]).length = ⟨m.w, m.l, m.n⟩ := (maxTo_snoc p.S s a3).trans hm.symm
    unfold PS.Agree
    simp only
    have e2 : (p.S ++ [s]).length = p.S.length + 1 := by simp
    exact ⟨a1, a2, e, a4, by omega, by omega, by omega, hmm.1, hmm.2.1, hmm.2.2.1, hmm.2.2.2.1, hmm.2.2.2.2, a8.2.2.2.2.2⟩
  refine ⟨{ p with l0 := m.w, l1 := m.l, l2 := m.n, S := p.S ++ [s], sg := sg' }, rfl, hF, ⟨hk, hd, ?_, ?_, ?_⟩, hA, rfl, rfl, ?_⟩
  · simp only; omega
  · simp only; omega
  · unfold PS.F; simp only; omega
  · intro k hk
    rcases hk with h | h | h | h | h
    · exact Or.inl (Or.inl h)
    · exact Or.inl (Or.inr (Or.inl h))
    · exact Or.inl (Or.inr (Or.inr (Or.inl h)))
    · rcases hr with q | q
      · exact Or.inl (Or.inr (Or.inr (Or.inr (Or.inl ((show k = sg' from h).trans q)))))
      · exact Or.inr (by rw [show k = sg' from h]; exact q)
    · exact Or.inl (Or.inr (Or.inr (Or.inr (Or.inr h))))
end

theorem max2_if {l0 l1 l2 s0 s1 s2 : Int} {m : St} (g0 : 0 ≤ l0) (g1 : 0 ≤ l1) (g2 : 0 ≤ l2) (hm : m = max2 ⟨l0, l1, l2⟩ ⟨s0, s1, s2⟩) : m = if ltB l0 l1 l2 s0 s1 s2 = true then ⟨s0, s1, s2⟩ else ⟨l0, l1, l2⟩ := by
  cases hL : ltB l0 l1 l2 s0 s1 s2
  · obtain ⟨a, b, c⟩ := max2_no g0 g1 g2 hL hm
    simp only [Bool.false_eq_true, if_false]
    cases m; simp only at a b c; rw [a, b, c]
  · obtain ⟨a, b, c⟩ := max2_yes g0 g1 g2 hL hm
    simp only [if_true]
    cases m; simp only at a b c; rw [a, b, c]
/-- A Tick's answer is one. -/
theorem tick_one {node rd l0 l1 l2 s0 s1 s2 er n0 n1 n2 t0 t1 t2 er' k0 k1 k2 : Int} (h : TickR node rd l0 l1 l2 s0 s1 s2 er n0 n1 n2) (k : TickR node rd l0 l1 l2 t0 t1 t2 er' k0 k1 k2) :
    t0 = s0 ∧ t1 = s1 ∧ t2 = s2 ∧ er' = er := by
  unfold TickR at h k
  omega

end Go.Proofs.Ytlgkolmlcbfppaa
