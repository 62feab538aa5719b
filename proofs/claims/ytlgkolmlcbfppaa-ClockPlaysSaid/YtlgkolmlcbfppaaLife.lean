/- A Life and its steps as they lie in memory; small laws on the order of stamps. -/
import Derived.Test.YtlgkolmlcbfppaaRises
namespace Go.Proofs.Ytlgkolmlcbfppaa
open Go.RowKit

structure Stp where
  kind : Int
  wall : Int
  s0 : Int
  s1 : Int
  s2 : Int

/-- The steps of a Life as they lie in memory, each number of its kind. -/
def StepsAt (w : World) (p : Option Addr) (n : Nat) (f : Nat → Stp) : Prop := ∀ k, k < n → ∃ b off, p = some ⟨b, off, none⟩ ∧ b < w.heap.size ∧
  w.cell? ⟨b, off + k * 5, none⟩ = some (.int .i64 (f k).kind) ∧ w.cell? ⟨b, off + k * 5 + 1, none⟩ = some (.int .u64 (f k).wall) ∧
  w.cell? ⟨b, off + k * 5 + 2, none⟩ = some (.int .u64 (f k).s0) ∧ w.cell? ⟨b, off + k * 5 + 3, none⟩ = some (.int .u32 (f k).s1) ∧
  w.cell? ⟨b, off + k * 5 + 4, none⟩ = some (.int .u32 (f k).s2) ∧
  0 ≤ (f k).wall ∧ (f k).wall ≤ topW ∧ 0 ≤ (f k).s0 ∧ (f k).s0 ≤ topW ∧ 0 ≤ (f k).s1 ∧ (f k).s1 ≤ topL ∧ 0 ≤ (f k).s2

def lifeO (node win ceil : Int) (p : Option Addr) (n cap : Nat) : Obj := .cells #[.int .u32 node, .int .u64 win, .int .u64 ceil, .slice p n cap] 27 (0, 0)
def stepO (f : Stp) : Obj := .cells #[.int .i64 f.kind, .int .u64 f.wall, .int .u64 f.s0, .int .u32 f.s1, .int .u32 f.s2] 33 (0, 0)
theorem life_cells {w : World} {b : Nat} {node win ceil : Int} {p : Option Addr} {n cap : Nat} (h : w.heap[b]? = some (lifeO node win ceil p n cap)) :
    w.cell? ⟨b, 0, none⟩ = some (.int .u32 node) ∧ w.cell? ⟨b, 1, none⟩ = some (.int .u64 win) ∧ w.cell? ⟨b, 2, none⟩ = some (.int .u64 ceil) ∧ w.cell? ⟨b, 3, none⟩ = some (.slice p n cap) := by
  simp [World.cell?, h, lifeO]
theorem step_cells {w : World} {b : Nat} {f : Stp} (h : w.heap[b]? = some (stepO f)) :
    w.cell? ⟨b, 0, none⟩ = some (.int .i64 f.kind) ∧ w.cell? ⟨b, 1, none⟩ = some (.int .u64 f.wall) ∧ w.cell? ⟨b, 2, none⟩ = some (.int .u64 f.s0) ∧ w.cell? ⟨b, 3, none⟩ = some (.int .u32 f.s1) ∧ w.cell? ⟨b, 4, none⟩ = some (.int .u32 f.s2) := by
  simp [World.cell?, h, stepO]

theorem ltB_self (a b c : Int) : ltB a b c a b c = false := by
  unfold ltB
  rw [if_neg (by simp), if_neg (by simp)]
  simp
theorem below_st3 {B : Nat} {a w : World} {g : Nat} (h : Below B a w) (hg : B ≤ g) (x y z : Int) :
    Below B a (((w.setCell ⟨g, 0, none⟩ (.int .u64 x)).setCell ⟨g, 1, none⟩ (.int .u32 y)).setCell ⟨g, 2, none⟩ (.int .u32 z)) :=
  ((h.setCell hg _).setCell hg _).setCell hg _

theorem tickL_bounds {node rd l0 l1 l2 n0 n1 n2 : Int} (h : TickL node rd l0 l1 l2 n0 n1 n2) (g0 : 0 ≤ l0) (g0' : l0 ≤ topW) (g1 : 0 ≤ l1) (g1' : l1 ≤ topL) (g2 : 0 ≤ l2) (hn : 0 ≤ node) :
    0 ≤ n0 ∧ n0 ≤ topW ∧ 0 ≤ n1 ∧ n1 ≤ topL ∧ 0 ≤ n2 ∧ ltB n0 n1 n2 l0 l1 l2 = false := by
  have hT : 0 < topL := by decide
  obtain ⟨s0, s1, s2, er, h⟩ := h
  rcases h with ⟨_, _, _, _, rfl, rfl, rfl, _⟩ | ⟨_, rfl, hs, rfl, rfl, rfl, h⟩
  · exact ⟨g0, g0', g1, g1', g2, ltB_self _ _ _⟩
  · rcases h with ⟨a, rfl, rfl⟩ | ⟨_, a, rfl, rfl⟩ | ⟨_, a, b, rfl, rfl⟩
    · refine ⟨by omega, by omega, by omega, by omega, hn, ?_⟩
      unfold ltB
      rw [if_pos (by omega)]
      simp; omega
    · refine ⟨by omega, by omega, by omega, by omega, hn, ?_⟩
      unfold ltB
      rw [if_neg (by omega), if_pos (by omega)]
      simp; omega
    · refine ⟨by omega, by omega, by omega, by omega, hn, ?_⟩
      unfold ltB
      rw [if_pos (by omega)]
      simp; omega
theorem lt_zero {a b c : Int} (h0 : 0 ≤ a) (h1 : 0 ≤ b) (h2 : 0 ≤ c) (h : ¬ ltB 0 0 0 a b c = true) : a = 0 ∧ b = 0 ∧ c = 0 := by
  unfold ltB at h
  by_cases ha : (0 : Int) ≠ a
  · rw [if_pos ha] at h; simp at h; omega
  · rw [if_neg ha] at h
    by_cases hb : (0 : Int) ≠ b
    · rw [if_pos hb] at h; simp at h; omega
    · rw [if_neg hb] at h; simp at h; omega
/-- The greatest of a row of one. -/
theorem maxTo_one (f : Nat → St) (h0 : 0 ≤ (f 0).w) (h1 : 0 ≤ (f 0).l) (h2 : 0 ≤ (f 0).n) : maxTo f 1 = f 0 := by
  by_cases h : ltB 0 0 0 (f 0).w (f 0).l (f 0).n = true
  · exact maxTo_yes h
  · obtain ⟨a, b, c⟩ := lt_zero h0 h1 h2 h
    have e : f 0 = ⟨0, 0, 0⟩ := by
      cases hf : f 0 with
      | mk x y z => rw [hf] at a b c; simp only at a b c; rw [a, b, c]
    rw [show maxTo f 1 = maxTo f 0 from maxTo_no h, e]
    rfl
theorem max2_no {l0 l1 l2 s0 s1 s2 : Int} {m : St} (g0 : 0 ≤ l0) (g1 : 0 ≤ l1) (g2 : 0 ≤ l2) (h : ltB l0 l1 l2 s0 s1 s2 = false) (hm : m = max2 ⟨l0, l1, l2⟩ ⟨s0, s1, s2⟩) : m.w = l0 ∧ m.l = l1 ∧ m.n = l2 := by
  have e1 : maxTo (two ⟨l0, l1, l2⟩ ⟨s0, s1, s2⟩) 1 = ⟨l0, l1, l2⟩ := maxTo_one _ g0 g1 g2
  have e2 : maxTo (two ⟨l0, l1, l2⟩ ⟨s0, s1, s2⟩) 2 = maxTo (two ⟨l0, l1, l2⟩ ⟨s0, s1, s2⟩) 1 := by
    refine maxTo_no ?_
    rw [e1]
    show ¬ ltB l0 l1 l2 s0 s1 s2 = true
    rw [h]; simp
  rw [hm, max2, e2, e1]
  exact ⟨rfl, rfl, rfl⟩
theorem max2_yes {l0 l1 l2 s0 s1 s2 : Int} {m : St} (g0 : 0 ≤ l0) (g1 : 0 ≤ l1) (g2 : 0 ≤ l2) (h : ltB l0 l1 l2 s0 s1 s2 = true) (hm : m = max2 ⟨l0, l1, l2⟩ ⟨s0, s1, s2⟩) : m.w = s0 ∧ m.l = s1 ∧ m.n = s2 := by
  have e1 : maxTo (two ⟨l0, l1, l2⟩ ⟨s0, s1, s2⟩) 1 = ⟨l0, l1, l2⟩ := maxTo_one _ g0 g1 g2
  have e2 : maxTo (two ⟨l0, l1, l2⟩ ⟨s0, s1, s2⟩) 2 = two ⟨l0, l1, l2⟩ ⟨s0, s1, s2⟩ 1 := by
    refine maxTo_yes ?_
    rw [e1]
    exact h
  rw [hm, max2, e2]
  exact ⟨rfl, rfl, rfl⟩

end Go.Proofs.Ytlgkolmlcbfppaa
