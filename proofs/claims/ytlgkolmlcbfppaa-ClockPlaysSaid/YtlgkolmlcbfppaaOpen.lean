/- Arguments opened to cells: a stamp, a step of a Life, a Life. -/
import Derived.Test.YtlgkolmlcbfppaaLife
import Derived.ProofKit
import Derived.OpenShut
import Derived.ChangeOld
import Derived.Deep.Slices
import Derived.Lib.SmallJoins
namespace Go.Proofs.Ytlgkolmlcbfppaa
open Go.ChangeShapes Go.WideShapes Go.ChangeAt Go.RowKit Go.Deep

theorem Try.own : ownKnob Try.prog.godebug = none := by kernel_rfl
theorem Try.laidOut : laidOutB Try.prog = true := by kernel_rfl
theorem Try.cells3 : Try.prog.cellsOf 3 = 1 := by kernel_rfl
theorem Try.cells23 : Try.prog.cellsOf 23 = 1 := by kernel_rfl
theorem Try.cells24 : Try.prog.cellsOf 24 = 1 := by kernel_rfl
theorem Try.cells25 : Try.prog.cellsOf 25 = 1 := by kernel_rfl
theorem Try.cells27 : Try.prog.cellsOf 27 = 4 := by kernel_rfl
theorem Try.cells31 : Try.prog.cellsOf 31 = 3 := by kernel_rfl
theorem Try.cells33 : Try.prog.cellsOf 33 = 5 := by kernel_rfl

section
variable {H : Type} {enc : TypeId × Value → H} {w : World} {base : Nat} {spare : Nat → Bool} {held : Bool}

/-- A number's bounds out of its well-formedness. -/
theorem wf_u64 {n : Int} (h : (Lit.int .u64 n).wf = true) : 0 ≤ n ∧ n ≤ topW := by
  have := bounds_u64 h
  unfold topW; omega
theorem wf_u32 {n : Int} (h : (Lit.int .u32 n).wf = true) : 0 ≤ n ∧ n ≤ topL := by
  have := bounds_u32 h
  unfold topL; omega

theorem take_one {cs : List Value} {k : Nat} {v : Value} (h : (cs.drop k).take 1 = [v]) : cs[k]? = some v := by
  have : ((cs.drop k).take 1)[0]? = some v := by rw [h]; rfl
  rw [List.getElem?_take] at this
  simpa using this

theorem add_plain (b off n : Nat) : (⟨b, off, none⟩ : Addr).add n = ⟨b, off + n, none⟩ := by
  unfold Addr.add
  split
  · subst_vars; rfl
  · rfl

set_option maxRecDepth 100000 in
theorem open_stamp {fuel : Nat} {cs : List Value} {x : DataW H × List MemPlace} (h : DataW.trod enc Try.prog w base spare held fuel 31 cs = some x) :
    ∃ a b c : Int, cs = [.int .u64 a, .int .u32 b, .int .u32 c] ∧ 0 ≤ a ∧ a ≤ topW ∧ 0 ≤ b ∧ b ≤ topL ∧ 0 ≤ c ∧ c ≤ topL := by
  obtain ⟨xs, n, _, _, hl, hxl, hf⟩ := DataW.trod_struct Try.underlying31 h
  rw [Try.cells31] at hl
  match cs, hl with
  | [c0, c1, c2], _ =>
    match xs, hxl with
    | [x0, x1, x2], _ =>
      have h0 := hf 0 ⟨ "Wall", 24, 0, false, "", "", 0⟩ rfl
      have h1 := hf 1 ⟨ "Logical", 23, 1, false, "", "", 8⟩ rfl
      have h2 := hf 2 ⟨ "Node", 23, 2, false, "", "", 12⟩ rfl
      simp only [Try.cells24, Try.cells23] at h0 h1 h2
      obtain ⟨a, e0, _, w0⟩ := DataW.trod_int Try.underlying24 h0
      obtain ⟨b, e1, _, w1⟩ := DataW.trod_int Try.underlying23 h1
      obtain ⟨c, e2, _, w2⟩ := DataW.trod_int Try.underlying23 h2
      simp at e0 e1 e2
      subst e0 e1 e2
      exact ⟨a, b, c, rfl, (wf_u64 w0).1, (wf_u64 w0).2, (wf_u32 w1).1, (wf_u32 w1).2, (wf_u32 w2).1, (wf_u32 w2).2⟩

set_option maxRecDepth 100000 in
theorem open_step {fuel : Nat} {cs : List Value} {x : DataW H × List MemPlace} (h : DataW.trod enc Try.prog w base spare held fuel 33 cs = some x) :
    ∃ f : Stp, cs = [.int .i64 f.kind, .int .u64 f.wall, .int .u64 f.s0, .int .u32 f.s1, .int .u32 f.s2] ∧
      0 ≤ f.wall ∧ f.wall ≤ topW ∧ 0 ≤ f.s0 ∧ f.s0 ≤ topW ∧ 0 ≤ f.s1 ∧ f.s1 ≤ topL ∧ 0 ≤ f.s2 := by
  obtain ⟨xs, n, _, _, hl, hxl, hf⟩ := DataW.trod_struct Try.underlying33 h
  rw [Try.cells33] at hl
  match cs, hl with
  | [c0, c1, c2, c3, c4], _ =>
    match xs, hxl with
    | [x0, x1, x2], _ =>
      have h0 := hf 0 ⟨ "Kind", 3, 0, false, "", "", 0⟩ rfl
      have h1 := hf 1 ⟨ "Wall", 24, 1, false, "", "", 8⟩ rfl
      have h2 := hf 2 ⟨ "S", 31, 2, false, "", "", 16⟩ rfl
      simp only [Try.cells24, Try.cells3, Try.cells31] at h0 h1 h2
      obtain ⟨a, e0, _, w0⟩ := DataW.trod_int Try.underlying3 h0
      obtain ⟨b, e1, _, w1⟩ := DataW.trod_int Try.underlying24 h1
      obtain ⟨s0, s1, s2, e2, g0, g0', g1, g1', g2, _⟩ := open_stamp h2
      simp at e0 e1 e2
      obtain ⟨rfl, rfl, rfl⟩ := e2
      subst e0 e1
      exact ⟨⟨a, b, s0, s1, s2⟩, rfl, (wf_u64 w1).1, (wf_u64 w1).2, g0, g0', g1, g1', g2⟩

/-- The steps of a Life: a slice that came in. -/
theorem open_steps {fuel : Nat} {cs : List Value} {x : DataW H × List MemPlace} (h : DataW.trod enc Try.prog w base spare held fuel 25 cs = some x) :
    ∃ (p : Option Addr) (n cap : Nat) (f : Nat → Stp), cs = [.slice p n cap] ∧ n ≤ 9223372036854775807 ∧ StepsAt w p n f := by
  rcases open_slice Try.underlying25 h with ⟨h0, _⟩ | ⟨a, len, cap, m, n, D, Pl, hcs, hb, hl, hm, hmm, hx, hi⟩
  · exact ⟨none, 0, 0, fun _ => ⟨0, 0, 0, 0, 0⟩, h0, by omega, fun k hk => by omega⟩
  · have hle : len ≤ m := by rw [hmm]; split <;> omega
    have hex : ∀ i, ∃ f : Stp, i < len → (∀ j, j < 5 → w.cell? (a.add (i * 5 + j)) = [Value.int .i64 f.kind, .int .u64 f.wall, .int .u64 f.s0, .int .u32 f.s1, .int .u32 f.s2][j]?) ∧
        0 ≤ f.wall ∧ f.wall ≤ topW ∧ 0 ≤ f.s0 ∧ f.s0 ≤ topW ∧ 0 ≤ f.s1 ∧ f.s1 ≤ topL ∧ 0 ≤ f.s2 := by
      intro i
      by_cases hlt : i < len
      · obtain ⟨cs', hc, ht⟩ := hi i (by omega)
        rw [Try.cells33] at hc
        obtain ⟨f, rfl, hb⟩ := open_step ht
        obtain ⟨_, _, hat⟩ := World.cells?_some hc
        exact ⟨f, fun _ => ⟨fun j hj => by rw [← hat j hj, ← Go.Deep.add_add], hb⟩⟩
      · exact ⟨⟨0, 0, 0, 0, 0⟩, fun q => absurd q hlt⟩
    obtain ⟨g, hg⟩ := Classical.axiomOfChoice hex
    refine ⟨some a, len, cap, g, hcs, by unfold maxLen at hm; omega, fun k hk => ?_⟩
    obtain ⟨hc, hbd⟩ := hg k hk
    obtain ⟨b, off, spot⟩ := a
    have hspot : spot = none := World.cell?_spot (a := ⟨b, off, spot⟩) ((hg 0 (by omega)).1 0 (by omega))
    subst hspot
    simp only [add_plain] at hc
    have c0 := hc 0 (by omega)
    have c1 := hc 1 (by omega)
    have c2 := hc 2 (by omega)
    have c3 := hc 3 (by omega)
    have c4 := hc 4 (by omega)
    simp only [← Nat.add_assoc, Nat.add_zero] at c0 c1 c2 c3 c4
    refine ⟨b, off, rfl, ?_, c0, c1, c2, c3, c4, hbd⟩
    rcases Nat.lt_or_ge b w.heap.size with h' | h'
    · exact h'
    · simp [World.cell?, Array.getElem?_eq_none h'] at c0

theorem open_life {r : Reach} {b0 : Nat} {v : Value} {d : DataW H} {p : List MemPlace} (hv : Value.okWide Try.prog w r b0 27 v) (h : DataW.Trod enc Try.prog w base spare held 27 v d p) :
    ∃ (node win ceil : Int) (q : Option Addr) (n cap : Nat) (f : Nat → Stp), v = .agg #[.int .u32 node, .int .u64 win, .int .u64 ceil, .slice q n cap] ∧ n ≤ 9223372036854775807 ∧ StepsAt w q n f ∧
      0 ≤ node ∧ 0 ≤ win ∧ win ≤ topW ∧ 0 ≤ ceil ∧ ceil ≤ topW := by
  obtain ⟨v0, v1, v2, v3, y0, y1, y2, y3, m, rfl, _, _, h0, h1, h2, h3⟩ := Go.Joins.open_agg4 Try.underlying27 (by kernel_rfl) Try.cells27 hv h
  obtain ⟨node, e0, _, w0⟩ := DataW.trod_int Try.underlying23 h0
  obtain ⟨win, e1, _, w1⟩ := DataW.trod_int Try.underlying24 h1
  obtain ⟨ceil, e2, _, w2⟩ := DataW.trod_int Try.underlying24 h2
  obtain ⟨q, n, cap, f, e3, hn, hst⟩ := open_steps h3
  simp at e0 e1 e2 e3
  subst e0 e1 e2 e3
  exact ⟨node, win, ceil, q, n, cap, f, rfl, hn, hst, (wf_u32 w0).1, (wf_u64 w1).1, (wf_u64 w1).2, (wf_u64 w2).1, (wf_u64 w2).2⟩
end

end Go.Proofs.Ytlgkolmlcbfppaa
