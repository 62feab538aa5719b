/- The ceiling's functions, the makers of clocks, and spent: what each answers and what it turns. -/
import Derived.Test.YtlgkolmlcbfppaaTick
import Derived.Deep.RegionWith
import Derived.RegionTactic
namespace Go.Proofs.Ytlgkolmlcbfppaa
open Go.RowKit

/-- The ceiling that a wall asks for. -/
def aheadF (win s : Int) : Int := if topW - 1 ≤ s ∨ topW - 1 - s ≤ win then topW else s + win + 1

theorem ahead_top {win s : Int} (h : topW - 1 ≤ s ∨ topW - 1 - s ≤ win) : aheadF win s = topW := if_pos h
theorem ahead_sum {win s : Int} (h : ¬ (topW - 1 ≤ s ∨ topW - 1 - s ≤ win)) : aheadF win s = s + win + 1 := if_neg h

theorem quiet_add_left {P : Program} {f : FuncId} {args : Array Value} {w : World} {a n : Nat} {v : Value}
    (h : Calls P f args (w.drewN (a + n)) fun e w' => e = .returned v ∧ w.drewN (a + n) = w') :
    Calls P f args (w.drewN (a + n)) fun e w'' => e = .returned v ∧ ∃ m, w'' = w.drewN (a + m) :=
  h.mono fun _ _ ⟨he, hm⟩ => ⟨he, n, hm.symm⟩
theorem below_drewN {B : Nat} {a w : World} (h : Below B a w) (n : Nat) : Below B a (w.drewN n) := ⟨h.os, h.tape, h.output, h.size, h.block⟩

set_option maxHeartbeats 400000 in
/-- guard.ahead -/
theorem ahead_any (b : Nat) (win ceil node rd l0 l1 l2 s : Int) (w : World) (h : w.heap[b]? = some (clkO win ceil node rd l0 l1 l2)) (h0 : 0 ≤ s) (hw : 0 ≤ win) :
    Calls Try.prog 39 #[.pointer (some ⟨b, 0, none⟩), .int .u64 s] w fun e w' => e = .returned (.int .u64 (aheadF win s)) ∧ w = w' := by
  obtain ⟨c0, c1, c2, c3, c4, c5, c6⟩ := clk_cells h
  clear h c1 c2 c3 c4 c5 c6
  go_enter Try.func39, Try.ntmps39
  go_wp2
  · go_ret
    exact ⟨ret_int (ahead_top ‹_›).symm, rfl⟩
  · go_ret
    exact ⟨ret_int (ahead_sum (not_or.2 ⟨by unfold topW; omega, by unfold topW; omega⟩)).symm, rfl⟩
  · go_ret
    exact ⟨ret_int (ahead_top (Or.inl ‹_›)).symm, rfl⟩

set_option maxHeartbeats 400000 in
/-- guard.raise -/
theorem raise_any (b : Nat) (win ceil node rd l0 l1 l2 s : Int) (w : World) (h : w.heap[b]? = some (clkO win ceil node rd l0 l1 l2)) :
    Calls Try.prog 54 #[.pointer (some ⟨b, 0, none⟩), .int .u64 s] w fun e w' => e = .returned (.tuple #[]) ∧ w.grownBy w' (some b) ∧ w'.heap[b]? = some (clkO win (max ceil s) node rd l0 l1 l2) := by
  obtain ⟨c0, c1, c2, c3, c4, c5, c6⟩ := clk_cells h
  have fz := clk_free h
  have H := Lib.hid h
  clear h c0 c2 c3 c4 c5 c6
  go_enter Try.func54, Try.ntmps54
  go_wp2
  · go_end0
    exact ⟨rfl, gb_set (gb_refl _ _) (.inl rfl) _, by rw [Int.max_eq_right (by omega)]; exact heap_set_same H.out 1 _⟩
  · go_end0
    exact ⟨rfl, gb_set (gb_refl _ _) (.inl rfl) _, by rw [Int.max_eq_left (by omega)]; exact heap_set_same H.out 1 _⟩

set_option maxHeartbeats 400000 in
/-- Clock.Ceiling -/
theorem ceiling_any (b : Nat) (win ceil node rd l0 l1 l2 : Int) (w : World) (h : w.heap[b]? = some (clkO win ceil node rd l0 l1 l2)) :
    Calls Try.prog 43 #[.pointer (some ⟨b, 0, none⟩)] w fun e w' => e = .returned (.int .u64 ceil) ∧ w = w' := by
  obtain ⟨c0, c1, c2, c3, c4, c5, c6⟩ := clk_cells h
  clear h
  go_enter Try.func43, Try.ntmps43
  go_wp2
  go_ret
  exact ⟨rfl, rfl⟩

set_option maxHeartbeats 400000 in
/-- clock.Reopen -/
theorem reopen_any (node win ceil : Int) (w : World) :
    Calls Try.prog 14 #[.int .u32 node, .int .u64 win, .int .u64 ceil] w fun e w' => e = .returned (.pointer (some ⟨w.heap.size, 0, none⟩)) ∧ Below w.heap.size w w' ∧ w.heap.size + 1 = w'.heap.size ∧ w'.heap[w.heap.size]? = some (clkO win ceil node 0 ceil 0 0) := by
  go_enter Try.func14, Try.ntmps14
  go_wp2
  go_ret
  exact ⟨rfl, (Below.refl _ _).alloc (Nat.le_refl _) _, (World.size_alloc _ _).symm, heap_alloc_at _ _⟩

set_option maxHeartbeats 400000 in
/-- clock.New -/
theorem new_any (node win : Int) (w : World) :
    Calls Try.prog 21 #[.int .u32 node, .int .u64 win] w fun e w' => e = .returned (.pointer (some ⟨w.heap.size, 0, none⟩)) ∧ Below w.heap.size w w' ∧ w.heap.size + 1 = w'.heap.size ∧ w'.heap[w.heap.size]? = some (clkO win 0 node 0 0 0 0) := by
  go_enter Try.func21, Try.ntmps21
  go_wp2
  go_ret
  exact ⟨rfl, (Below.refl _ _).alloc (Nat.le_refl _) _, (World.size_alloc _ _).symm, heap_alloc_at _ _⟩

/-- May a Tick be refused? -/
def spentB (l0 l1 rd : Int) : Bool := if l0 < rd then rd == topW else if l0 = topW then true else decide (l0 = topW - 1 ∧ l1 = topL)

set_option maxHeartbeats 400000 in
theorem spent_ahead (l0 l1 l2 rd : Int) (w : World) (h : l0 < rd) :
    Calls Try.prog 36 #[.agg #[.int .u64 l0, .int .u32 l1, .int .u32 l2], .int .u64 rd] w fun e w' => e = .returned (.bool (spentB l0 l1 rd)) ∧ Below w.heap.size w w' := by
  have H := Lib.hid h
  go_enter Try.func36, Try.ntmps36
  go_wp2
  go_ret
  exact ⟨ret_bool (if_pos H.out).symm, (Below.refl _ _).alloc (Nat.le_refl _) _⟩
set_option maxHeartbeats 400000 in
theorem spent_top (l0 l1 l2 rd : Int) (w : World) (h : ¬ l0 < rd) (k : (l0 == 18446744073709551615) = true) :
    Calls Try.prog 36 #[.agg #[.int .u64 l0, .int .u32 l1, .int .u32 l2], .int .u64 rd] w fun e w' => e = .returned (.bool (spentB l0 l1 rd)) ∧ Below w.heap.size w w' := by
  have H := Lib.hid (show spentB l0 l1 rd = true from (if_neg h).trans (if_pos (by simpa [topW] using k)))
  go_enter Try.func36, Try.ntmps36
  go_wp2
  go_ret
  exact ⟨ret_bool H.out.symm, (Below.refl _ _).alloc (Nat.le_refl _) _⟩
set_option maxHeartbeats 400000 in
theorem spent_low (l0 l1 l2 rd : Int) (w : World) (h : ¬ l0 < rd) (k : (l0 == 18446744073709551615) = false) (q : (l0 == 18446744073709551614) = false) :
    Calls Try.prog 36 #[.agg #[.int .u64 l0, .int .u32 l1, .int .u32 l2], .int .u64 rd] w fun e w' => e = .returned (.bool (spentB l0 l1 rd)) ∧ Below w.heap.size w w' := by
  have H := Lib.hid (show spentB l0 l1 rd = false from (if_neg h).trans ((if_neg (by simpa [topW] using k)).trans (decide_eq_false (fun e => by simp [topW] at e; simp [e.1] at q))))
  go_enter Try.func36, Try.ntmps36
  go_wp2
  go_ret
  exact ⟨ret_bool H.out.symm, (Below.refl _ _).alloc (Nat.le_refl _) _⟩
set_option maxHeartbeats 400000 in
theorem spent_near (l0 l1 l2 rd : Int) (w : World) (h : ¬ l0 < rd) (k : (l0 == 18446744073709551615) = false) (q : (l0 == 18446744073709551614) = true) :
    Calls Try.prog 36 #[.agg #[.int .u64 l0, .int .u32 l1, .int .u32 l2], .int .u64 rd] w fun e w' => e = .returned (.bool (spentB l0 l1 rd)) ∧ Below w.heap.size w w' := by
  have H := Lib.hid (show (l1 == 4294967295) = spentB l0 l1 rd from by
    have e : l0 = topW - 1 := by simpa [topW] using q
    refine (((if_neg h).trans ((if_neg (by simpa [topW] using k)).trans ?_))).symm
    simp only [e, true_and]
    rfl)
  go_enter Try.func36, Try.ntmps36
  go_wp2
  go_ret
  exact ⟨ret_bool H.out, (Below.refl _ _).alloc (Nat.le_refl _) _⟩
/-- tidemarklaw2.spent -/
theorem spent_any (l0 l1 l2 rd : Int) (w : World) :
    Calls Try.prog 36 #[.agg #[.int .u64 l0, .int .u32 l1, .int .u32 l2], .int .u64 rd] w fun e w' => e = .returned (.bool (spentB l0 l1 rd)) ∧ Below w.heap.size w w' := by
  by_cases h : l0 < rd
  · exact spent_ahead l0 l1 l2 rd w h
  · cases k : (l0 == 18446744073709551615)
    · cases q : (l0 == 18446744073709551614)
      · exact spent_low l0 l1 l2 rd w h k q
      · exact spent_near l0 l1 l2 rd w h k q
    · exact spent_top l0 l1 l2 rd w h k

set_option maxHeartbeats 400000 in
/-- Clock.Reserve -/
theorem reserve_any (b : Nat) (win ceil node rd l0 l1 l2 s : Int) (w : World) (h : w.heap[b]? = some (clkO win ceil node rd l0 l1 l2)) :
    Calls Try.prog 42 #[.pointer (some ⟨b, 0, none⟩), .int .u64 s] w fun e w' => e = .returned (.tuple #[]) ∧ w.grownBy w' (some b) ∧ w'.heap[b]? = some (clkO win (max ceil s) node rd l0 l1 l2) := by
  obtain ⟨c0, c1, c2, c3, c4, c5, c6⟩ := clk_cells h
  have H := Lib.hid h
  clear h c1 c2 c3 c4 c5 c6
  go_enter Try.func42, Try.ntmps42
  go_wp2_with (go_at_call 54; refine (raise_any _ _ _ _ _ _ _ _ _ _ H.out).mono ?_; rintro e w' ⟨rfl, hg, hk⟩; have HG := Lib.hid hg; have HK := Lib.hid hk; clear hg hk)
  go_end0
  exact ⟨rfl, HG.out, HK.out⟩

set_option maxHeartbeats 400000 in
/-- Clock.Need where nothing is needed -/
theorem need_no (b : Nat) (win ceil node rd l0 l1 l2 s0 s1 s2 : Int) (w : World) (h : w.heap[b]? = some (clkO win ceil node rd l0 l1 l2)) (hs : s0 = topW ∨ s0 < ceil) :
    Calls Try.prog 23 #[.pointer (some ⟨b, 0, none⟩), .agg #[.int .u64 s0, .int .u32 s1, .int .u32 s2]] w fun e w' => e = .returned (.tuple #[.int .u64 0, .bool false]) ∧ Below w.heap.size w w' := by
  obtain ⟨c0, c1, c2, c3, c4, c5, c6⟩ := clk_cells h
  have hlt := lt_of_heap h
  clear h c0 c2 c3 c4 c5 c6
  cases k : (s0 == 18446744073709551615)
  · have hd : decide (s0 < ceil) = true := by
      have : s0 ≠ topW := by simpa [topW] using k
      simp; omega
    clear hs
    go_enter Try.func23, Try.ntmps23
    go_wp2
    go_quiet (fail)
    go_wp2
    go_ret2
    exact ⟨rfl, below_drewN ((Below.refl _ _).alloc (Nat.le_refl _) _) _⟩
  · clear hs
    go_enter Try.func23, Try.ntmps23
    go_wp2
    go_quiet (fail)
    go_wp2
    go_ret2
    exact ⟨rfl, below_drewN ((Below.refl _ _).alloc (Nat.le_refl _) _) _⟩

set_option maxHeartbeats 400000 in
/-- Clock.Need where a ceiling is needed -/
theorem need_yes (b : Nat) (win ceil node rd l0 l1 l2 s0 s1 s2 : Int) (w : World) (h : w.heap[b]? = some (clkO win ceil node rd l0 l1 l2)) (hs : s0 < topW) (hc : ceil ≤ s0) (h0 : 0 ≤ s0) (hw : 0 ≤ win) :
    Calls Try.prog 23 #[.pointer (some ⟨b, 0, none⟩), .agg #[.int .u64 s0, .int .u32 s1, .int .u32 s2]] w fun e w' => e = .returned (.tuple #[.int .u64 (aheadF win s0), .bool true]) ∧ Below w.heap.size w w' := by
  obtain ⟨c0, c1, c2, c3, c4, c5, c6⟩ := clk_cells h
  have hlt := lt_of_heap h
  have H := Lib.hid h
  clear h c0 c2 c3 c4 c5 c6
  have k : (s0 == 18446744073709551615) = false := by simp; unfold topW at hs; omega
  have hd : decide (s0 < ceil) = false := by simp; omega
  go_enter Try.func23, Try.ntmps23
  go_wp2
  go_quiet (fail)
  go_wp2_with fail
  go_quiet ((go_at_call 39; exact quiet_add_left (ahead_any b win ceil node rd l0 l1 l2 s0 _ (heap_drewN (heap_alloc_old H.out _)) h0 hw)))
  go_wp2
  go_ret2
  exact ⟨rfl, below_drewN (below_drewN ((Below.refl _ _).alloc (Nat.le_refl _) _) _) _⟩

end Go.Proofs.Ytlgkolmlcbfppaa
