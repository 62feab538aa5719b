/- tidemarklaw2.rises: it answers true, whatever the clock holds. -/
import Derived.Test.YtlgkolmlcbfppaaCeil
namespace Go.Proofs.Ytlgkolmlcbfppaa
open Go.RowKit

/-- What a Tick leaves, seen from behind: some answer of Tick's stands before it. -/
def TickL (node rd l0 l1 l2 n0 n1 n2 : Int) : Prop := ∃ s0 s1 s2 er, TickR node rd l0 l1 l2 s0 s1 s2 er n0 n1 n2

def RisesP (b : Nat) (win ceil node rd l0 l1 l2 : Int) (w : World) (e : Ending) (w' : World) : Prop :=
  ∃ n0 n1 n2 : Int, e = .returned (.bool true) ∧ TickL node rd l0 l1 l2 n0 n1 n2 ∧ w.grownBy w' (some b) ∧ w'.heap[b]? = some (clkO win ceil node rd n0 n1 n2)

theorem spentB_iff (l0 l1 rd : Int) : spentB l0 l1 rd = true ↔ ((l0 < rd ∧ rd = topW) ∨ (rd ≤ l0 ∧ (l0 = topW ∨ (l0 = topW - 1 ∧ l1 = topL)))) := by
  unfold spentB
  by_cases h : l0 < rd
  · rw [if_pos h]; simp only [beq_iff_eq]; constructor
    · intro k; exact Or.inl ⟨h, k⟩
    · rintro (k | k)
      · exact k.2
      · omega
  · rw [if_neg h]
    by_cases k : l0 = topW
    · rw [if_pos k]; simp only [true_iff]; exact Or.inr ⟨by omega, Or.inl k⟩
    · rw [if_neg k]; simp only [decide_eq_true_eq]; constructor
      · intro q; exact Or.inr ⟨by omega, Or.inr q⟩
      · rintro (q | ⟨_, q | q⟩)
        · omega
        · exact absurd q k
        · exact q
theorem rs_a {node rd l0 l1 l2 s0 s1 s2 er n0 n1 n2 : Int} (h : TickR node rd l0 l1 l2 s0 s1 s2 er n0 n1 n2) (k : spentB l0 l1 rd = true) :
    er = 11 ∧ s0 = 0 ∧ s1 = 0 ∧ s2 = 0 ∧ n0 = l0 ∧ n1 = l1 ∧ n2 = l2 := by
  rw [spentB_iff] at k
  rcases h with ⟨a, b, c, d, e, f, g, _⟩ | ⟨a, b, c, d, e, f, g⟩
  · exact ⟨a, b, c, d, e, f, g⟩
  · omega
theorem rs_b {node rd l0 l1 l2 s0 s1 s2 er n0 n1 n2 : Int} (h : TickR node rd l0 l1 l2 s0 s1 s2 er n0 n1 n2) (k : spentB l0 l1 rd = false) :
    er = 0 ∧ s2 = node ∧ n0 = s0 ∧ n1 = s1 ∧ n2 = s2 ∧ s0 < topW ∧ ((l0 < rd ∧ s0 = rd ∧ s1 = 0) ∨ (rd ≤ l0 ∧ ltB l0 l1 l2 s0 s1 s2 = true)) := by
  have k' : ¬ spentB l0 l1 rd = true := by simp [k]
  rw [spentB_iff] at k'
  rcases h with ⟨_, _, _, _, _, _, _, h⟩ | ⟨a, b, c, d, e, f, g⟩
  · exact absurd h k'
  · refine ⟨a, b, d, e, f, c, ?_⟩
    rcases g with g | ⟨g, g1, g2, g3⟩ | ⟨g, g1, g2, g3, g4⟩
    · exact Or.inl g
    · refine Or.inr ⟨g, ?_⟩
      unfold ltB
      rw [if_neg (by omega), if_pos (by omega)]
      simp; omega
    · refine Or.inr ⟨g, ?_⟩
      unfold ltB
      rw [if_pos (by omega)]
      simp; omega
theorem ltB_wall {l0 l1 l2 s0 s1 s2 : Int} (h : l0 < s0) : ltB l0 l1 l2 s0 s1 s2 = true := by
  unfold ltB
  rw [if_pos (by omega)]
  simp [h]
theorem ne_topW {s : Int} (h : s < topW) : (s == 18446744073709551615) = false := by
  simp; unfold topW at h; omega

set_option maxHeartbeats 1000000 in
theorem rises_any (b : Nat) (win ceil node rd l0 l1 l2 : Int) (w : World) (h : w.heap[b]? = some (clkO win ceil node rd l0 l1 l2))
    (h0 : 0 ≤ l0) (h0' : l0 ≤ topW) (h1 : 0 ≤ l1) (h1' : l1 ≤ topL) (hr : rd ≤ topW) :
    Calls Try.prog 16 #[.pointer (some ⟨b, 0, none⟩), .int .u32 node, .int .u64 rd] w (RisesP b win ceil node rd l0 l1 l2 w) := by
  have hlt := lt_of_heap h
  have H := Lib.hid h
  clear h
  go_enter Try.func16, Try.ntmps16
  go_wp2_with fail
  with_reducible refine (last_any b win ceil node rd l0 l1 l2 _ H.out).mono ?_
  rintro e w1 ⟨rfl, hb1⟩
  have hk1 := Lib.hid (below_heap hb1 H.out hlt)
  have hlt1 : b < w1.heap.size := Nat.lt_of_lt_of_le hlt hb1.size
  have hg1 := Lib.hid (gb_below hb1 (some b))
  clear hb1 H
  go_wp2_with fail
  with_reducible refine (tick_any b win ceil node rd l0 l1 l2 _ (heap_alloc_old hk1.out _) h0 h0' h1 h1' hr).mono ?_
  rintro e w2 ⟨s0, s1, s2, er, n0, n1, n2, rfl, hR, hg2, hk2⟩
  have hm1 := Lib.hid (heap_alloc_at w1 (stO l0 l1 l2))
  have hs2 := hg2.size
  rw [World.size_alloc] at hs2
  have hl2 := Lib.hid (gb_heap hg2 hm1.out (Nat.ne_of_gt hlt1))
  have hK2 := Lib.hid hk2
  have hG2 := Lib.hid (gb_trans (gb_alloc hg1.out _) hg2)
  have hlt2 : b < w2.heap.size := by omega
  clear hg2 hk2 hk1 hg1 hm1
  go_wp2_with fail
  with_reducible refine (last_any b win ceil node rd n0 n1 n2 _ (heap_alloc_old hK2.out _)).mono ?_
  rintro e w3 ⟨rfl, hb3⟩
  have hs3 := hb3.size
  rw [World.size_alloc] at hs3
  have hK3 := Lib.hid (below_heap hb3 (heap_alloc_old hK2.out _) (by simp; omega))
  have hl3 := Lib.hid (below_heap hb3 (heap_alloc_old hl2.out _) (by simp; omega))
  have hm3 := Lib.hid (below_heap hb3 (heap_alloc_at w2 (stO s0 s1 s2)) (by simp))
  have hG3 := Lib.hid (gb_trans (gb_alloc hG2.out _) (gb_below hb3 _))
  clear hb3 hK2 hl2 hG2
  obtain ⟨p0, p1, p2⟩ := st_cells hl3.out
  have hlt3 : w1.heap.size < w3.heap.size := by omega
  go_wp2_with fail
  with_reducible refine (spent_any l0 l1 l2 rd _).mono ?_
  rintro e w4 ⟨rfl, hb4⟩
  have hs4 := hb4.size
  rw [World.size_alloc] at hs4
  have hK4 := Lib.hid (below_heap hb4 (heap_alloc_old hK3.out _) (by simp; omega))
  have hl4 := Lib.hid (below_heap hb4 (heap_alloc_old hl3.out _) (by simp; omega))
  have hm4 := Lib.hid (below_heap hb4 (heap_alloc_old hm3.out _) (by simp; omega))
  have hn4 := Lib.hid (below_heap hb4 (heap_alloc_at w3 (stO n0 n1 n2)) (by simp))
  have hG4 := Lib.hid (gb_trans (gb_alloc hG3.out _) (gb_below hb4 _))
  clear hb4 hK3 hl3 hm3 hG3 p0 p1 p2
  obtain ⟨p0, p1, p2⟩ := st_cells hl4.out
  obtain ⟨q0, q1, q2⟩ := st_cells hm4.out
  obtain ⟨r0, r1, r2⟩ := st_cells hn4.out
  have HR := Lib.hid (show TickL node rd l0 l1 l2 n0 n1 n2 from ⟨s0, s1, s2, er, hR⟩)
  cases hsb : spentB l0 l1 rd
  · obtain ⟨rfl, rfl, rfl, rfl, rfl, hlo, hB⟩ := rs_b hR hsb
    have ht := ne_topW hlo
    rcases hB with ⟨hB, rfl, rfl⟩ | ⟨hB, hL⟩
    · have HL := Lib.hid (ltB_wall (l1 := l1) (l2 := l2) (s1 := 0) (s2 := n2) hB)
      clear hR hsb
      go_wp2_with (go_at_call 18; refine (after_any _ _ _ _ _ _ _).mono ?_; rintro e w5 ⟨rfl, hb5⟩; have hk5 := Lib.hid (below_heap hb5 hK4.out (by omega)); have hg5 := Lib.hid hb5; clear hb5)
      go_ret
      exact ⟨_, _, _, ret_bool HL.out, HR.out, gb_trans hG4.out (gb_below hg5.out _), hk5.out⟩
    · have HL := Lib.hid hL
      clear hR hsb hL
      go_wp2_with (go_at_call 18; refine (after_any _ _ _ _ _ _ _).mono ?_; rintro e w5 ⟨rfl, hb5⟩; have hk5 := Lib.hid (below_heap hb5 hK4.out (by omega)); have hg5 := Lib.hid hb5; clear hb5)
      go_ret
      exact ⟨_, _, _, ret_bool HL.out, HR.out, gb_trans hG4.out (gb_below hg5.out _), hk5.out⟩
  · obtain ⟨rfl, rfl, rfl, rfl, rfl, rfl, rfl⟩ := rs_a hR hsb
    clear hR hsb
    go_wp2_with fail
    go_ret
    exact ⟨_, _, _, rfl, HR.out, hG4.out, hK4.out⟩

end Go.Proofs.Ytlgkolmlcbfppaa
