/- Clock.Observe and Clock.Tick: what each answers and what it turns. -/
import Derived.Test.YtlgkolmlcbfppaaClk
import Derived.Deep.RegionWith
import Derived.RegionTactic
namespace Go.Proofs.Ytlgkolmlcbfppaa
open Go.RowKit

/-- The greatest of a row of two. -/
def two (a b : St) : Nat → St := fun i => if i = 0 then a else b

def max2 (a b : St) : St := maxTo (two a b) 2
def ObsP (b : Nat) (win ceil node rd l0 l1 l2 s0 s1 s2 : Int) (w : World) (e : Ending) (w' : World) : Prop :=
  ∃ m : St, m = max2 ⟨l0, l1, l2⟩ ⟨s0, s1, s2⟩ ∧ e = .returned (.int .i64 0) ∧ w.grownBy w' (some b) ∧ w'.heap[b]? = some (clkO win ceil node rd m.w m.l m.n)

set_option maxHeartbeats 400000 in
theorem observe_top (b : Nat) (win ceil node rd l0 l1 l2 s0 s1 s2 : Int) (w : World) (h : w.heap[b]? = some (clkO win ceil node rd l0 l1 l2)) (ht : (s0 == 18446744073709551615) = true) :
    Calls Try.prog 17 #[.pointer (some ⟨b, 0, none⟩), .agg #[.int .u64 s0, .int .u32 s1, .int .u32 s2]] w fun e w' => e = .returned (.int .i64 11) ∧ Below w.heap.size w w' := by
  have H := Lib.hid h
  clear h
  go_enter Try.func17, Try.ntmps17
  go_wp2
  go_ret
  exact ⟨rfl, (Below.refl _ _).alloc (Nat.le_refl _) _⟩

theorem clk_set3 {w : World} {b : Nat} {win ceil node rd l0 l1 l2 : Int} (h : w.heap[b]? = some (clkO win ceil node rd l0 l1 l2)) (x y z : Int) :
    (((w.setCell ⟨b, 4, none⟩ (.int .u64 x)).setCell ⟨b, 5, none⟩ (.int .u32 y)).setCell ⟨b, 6, none⟩ (.int .u32 z)).heap[b]? = some (clkO win ceil node rd x y z) :=
  heap_set_same (heap_set_same (heap_set_same h 4 _) 5 _) 6 _
theorem heap_alloc_at2 (w : World) (x y : Obj) : ((w.alloc x).alloc y).heap[w.heap.size + 1]? = some y := by
  have := heap_alloc_at (w.alloc x) y
  rwa [World.size_alloc] at this

theorem max_two (b : Nat) (x y : St) (w : World) (h : w.heap[b]? = some (.cells #[.int .u64 x.w, .int .u32 x.l, .int .u32 x.n, .int .u64 y.w, .int .u32 y.l, .int .u32 y.n] 31 (0, 0))) :
    Calls Try.prog 37 #[.slice (some ⟨b, 0, none⟩) 2 2] w fun e w' => e = .returned (.agg #[.int .u64 (max2 x y).w, .int .u32 (max2 x y).l, .int .u32 (max2 x y).n]) ∧ Below w.heap.size w w' := by
  refine max_any b 0 2 2 (two x y) w (by omega) (fun k hk => ?_) (lt_of_heap h)
  match k, hk with
  | 0, _ => exact ⟨by simp [World.cell?, h, two], by simp [World.cell?, h, two], by simp [World.cell?, h, two]⟩
  | 1, _ => exact ⟨by simp [World.cell?, h, two], by simp [World.cell?, h, two], by simp [World.cell?, h, two]⟩

set_option maxHeartbeats 1000000 in
theorem observe_ok (b : Nat) (win ceil node rd l0 l1 l2 s0 s1 s2 : Int) (w : World) (h : w.heap[b]? = some (clkO win ceil node rd l0 l1 l2)) (ht : (s0 == 18446744073709551615) = false) :
    Calls Try.prog 17 #[.pointer (some ⟨b, 0, none⟩), .agg #[.int .u64 s0, .int .u32 s1, .int .u32 s2]] w (ObsP b win ceil node rd l0 l1 l2 s0 s1 s2 w) := by
  obtain ⟨c0, c1, c2, c3, c4, c5, c6⟩ := clk_cells h
  have fz := clk_free h
  have hlt := lt_of_heap h
  have H := Lib.hid h
  clear h
  go_enter Try.func17, Try.ntmps17
  go_wp2
  go_region_with ((go_at_call 37; refine (max_two _ ⟨l0, l1, l2⟩ ⟨s0, s1, s2⟩ _ ?_).mono ?_; exact heap_drew (heap_alloc_at2 _ _ _); rintro e w1 ⟨rfl, hb1⟩; have hk := Lib.hid (below_heap hb1 (heap_drew (heap_alloc_old (heap_alloc_old H.out _) _)) (by simp; omega)); obtain ⟨g0, g1, g2, g3, g4, g5, g6⟩ := clk_cells hk.out; have gf := clk_free hk.out; have hg1 := Lib.hid hb1; clear hb1 g0 g1 g2 g3))
  all_goals
    go_wp2
    go_ret
    have hg2 := gb_trans (gb_drew (gb_alloc (gb_alloc (gb_refl w (some b)) _) _)) (gb_below hg1.out _)
    generalize hm : max2 ⟨l0, l1, l2⟩ ⟨s0, s1, s2⟩ = m
    exact ⟨m, hm.symm, rfl, gb_set (gb_set (gb_set hg2 (.inl rfl) _) (.inl rfl) _) (.inl rfl) _, clk_set3 hk.out _ _ _⟩

theorem heap_drewN {w : World} {b : Nat} {o : Obj} {n : Nat} (h : w.heap[b]? = some o) : (w.drewN n).heap[b]? = some o := h
theorem gb_drewN {a w : World} {r : Option Nat} (h : a.grownBy w r) (n : Nat) : a.grownBy (w.drewN n) r := ⟨h.os, h.tape, h.output, h.size, h.block⟩
/-- Three stores into a stamp's block; three into a clock's last stamp. -/
theorem heap_st3 {w : World} {b g : Nat} {o : Obj} (h : w.heap[b]? = some o) (hne : b ≠ g) (x y z : Int) :
    (((w.setCell ⟨g, 0, none⟩ (.int .u64 x)).setCell ⟨g, 1, none⟩ (.int .u32 y)).setCell ⟨g, 2, none⟩ (.int .u32 z)).heap[b]? = some o :=
  heap_set_other (heap_set_other (heap_set_other h hne _) hne _) hne _
theorem heap_clk3 {w : World} {b g : Nat} {o : Obj} (h : w.heap[b]? = some o) (hne : b ≠ g) (x y z : Int) :
    (((w.setCell ⟨g, 4, none⟩ (.int .u64 x)).setCell ⟨g, 5, none⟩ (.int .u32 y)).setCell ⟨g, 6, none⟩ (.int .u32 z)).heap[b]? = some o :=
  heap_set_other (heap_set_other (heap_set_other h hne _) hne _) hne _
theorem gb_st3 {a w : World} {b g : Nat} (h : a.grownBy w (some b)) (hg : g = b ∨ a.heap.size ≤ g) (x y z : Int) :
    a.grownBy (((w.setCell ⟨g, 0, none⟩ (.int .u64 x)).setCell ⟨g, 1, none⟩ (.int .u32 y)).setCell ⟨g, 2, none⟩ (.int .u32 z)) (some b) :=
  gb_set (gb_set (gb_set h hg _) hg _) hg _
theorem gb_clk3 {a w : World} {b : Nat} (h : a.grownBy w (some b)) (x y z : Int) :
    a.grownBy (((w.setCell ⟨b, 4, none⟩ (.int .u64 x)).setCell ⟨b, 5, none⟩ (.int .u32 y)).setCell ⟨b, 6, none⟩ (.int .u32 z)) (some b) :=
  gb_set (gb_set (gb_set h (.inl rfl) _) (.inl rfl) _) (.inl rfl) _
/-- What a Tick answers and where the last stamp stands behind it. -/
def TickR (node rd l0 l1 l2 s0 s1 s2 er n0 n1 n2 : Int) : Prop :=
  (er = 11 ∧ s0 = 0 ∧ s1 = 0 ∧ s2 = 0 ∧ n0 = l0 ∧ n1 = l1 ∧ n2 = l2 ∧ ((l0 < rd ∧ rd = topW) ∨ (rd ≤ l0 ∧ (l0 = topW ∨ (l0 = topW - 1 ∧ l1 = topL))))) ∨
  (er = 0 ∧ s2 = node ∧ s0 < topW ∧ n0 = s0 ∧ n1 = s1 ∧ n2 = s2 ∧
    ((l0 < rd ∧ s0 = rd ∧ s1 = 0) ∨ (rd ≤ l0 ∧ l1 < topL ∧ s0 = l0 ∧ s1 = l1 + 1) ∨ (rd ≤ l0 ∧ l1 = topL ∧ l0 < topW - 1 ∧ s0 = l0 + 1 ∧ s1 = 0)))

def TickP (b : Nat) (win ceil node rd l0 l1 l2 : Int) (w : World) (e : Ending) (w' : World) : Prop :=
  ∃ s0 s1 s2 er n0 n1 n2 : Int, e = .returned (.tuple #[.agg #[.int .u64 s0, .int .u32 s1, .int .u32 s2], .int .i64 er]) ∧
    TickR node rd l0 l1 l2 s0 s1 s2 er n0 n1 n2 ∧ w.grownBy w' (some b) ∧ w'.heap[b]? = some (clkO win ceil node rd n0 n1 n2)

theorem tk1 {node rd l0 l1 l2 : Int} (h : l0 < rd) (k : (rd == 18446744073709551615) = true) : TickR node rd l0 l1 l2 0 0 0 11 l0 l1 l2 :=
  Or.inl ⟨rfl, rfl, rfl, rfl, rfl, rfl, rfl, Or.inl ⟨h, by simpa [topW] using k⟩⟩
theorem tk2 {node rd l0 l1 l2 : Int} (hr : rd ≤ topW) (h : l0 < rd) (k : (rd == 18446744073709551615) = false) : TickR node rd l0 l1 l2 rd 0 node 0 rd 0 node :=
  Or.inr ⟨rfl, rfl, lt_topW hr k, rfl, rfl, rfl, Or.inl ⟨h, rfl, rfl⟩⟩
theorem tk3 {node rd l0 l1 l2 r0 r1 r2 er : Int} (h : rd ≤ l0) (hR : NextR l0 l1 node r0 r1 r2 er) (k : (er != 0) = true) : TickR node rd l0 l1 l2 0 0 0 er l0 l1 l2 := by
  rcases hR with ⟨a, _, _, _, b⟩ | ⟨a, _⟩
  · exact Or.inl ⟨a, rfl, rfl, rfl, rfl, rfl, rfl, Or.inr ⟨h, b⟩⟩
  · simp [a] at k
theorem tk4 {node l0 l1 r0 r1 r2 er : Int} {p : Prop} (hR : NextR l0 l1 node r0 r1 r2 er) (k : (er != 0) = false) (q : (r0 == 18446744073709551615) = true) : p := by
  have hr : r0 = topW := by simpa [topW] using q
  rcases hR with ⟨a, _, _, _, b⟩ | ⟨a, _, c, ⟨_, d, _⟩ | ⟨_, d, f, _⟩⟩
  · simp [a] at k
  · omega
  · omega
theorem tk5 {node rd l0 l1 l2 r0 r1 r2 er : Int} (h : rd ≤ l0) (hR : NextR l0 l1 node r0 r1 r2 er) (k : (er != 0) = false) (_ : (r0 == 18446744073709551615) = false) : TickR node rd l0 l1 l2 r0 r1 r2 0 r0 r1 r2 := by
  rcases hR with ⟨a, _, _, _, b⟩ | ⟨a, e, c, ⟨g, d, f⟩ | ⟨g, d, f, f'⟩⟩
  · simp [a] at k
  · exact Or.inr ⟨rfl, e, by omega, rfl, rfl, rfl, Or.inr (Or.inl ⟨h, g, d, f⟩)⟩
  · exact Or.inr ⟨rfl, e, by omega, rfl, rfl, rfl, Or.inr (Or.inr ⟨h, g, d, f, f'⟩)⟩

set_option maxHeartbeats 1000000 in
theorem tick_ahead (b : Nat) (win ceil node rd l0 l1 l2 : Int) (w : World) (h : w.heap[b]? = some (clkO win ceil node rd l0 l1 l2))
    (hr : rd ≤ topW) (hle : ¬ rd ≤ l0) :
    Calls Try.prog 20 #[.pointer (some ⟨b, 0, none⟩)] w (TickP b win ceil node rd l0 l1 l2 w) := by
  obtain ⟨c0, c1, c2, c3, c4, c5, c6⟩ := clk_cells h
  have fz := clk_free h
  have hlt := lt_of_heap h
  have H := Lib.hid h
  clear h
  go_enter Try.func20, Try.ntmps20
  go_wp2
  go_region
  go_wp2
  go_quiet (fail)
  go_wp2_with fail
  · have hz := heap_drewN (n := 1 + nq) (heap_alloc_old (heap_alloc_at w (stO 0 0 0)) (stO rd 0 node))
    have hk := heap_drewN (n := 1 + nq) (heap_alloc_old (heap_alloc_old H.out (stO 0 0 0)) (stO rd 0 node))
    have hg := gb_drewN (gb_alloc (gb_alloc (gb_refl w (some b)) (stO 0 0 0)) (stO rd 0 node)) (1 + nq)
    exact end_st2 (p := 2) (u := 3) Try.results20 rfl rfl (st_set3 hz 0 0 0) rfl
      ⟨0, 0, 0, 11, l0, l1, l2, rfl, tk1 ‹_› ‹_›, gb_st3 hg (.inr (Nat.le_refl _)) _ _ _, heap_st3 hk (Nat.ne_of_lt hlt) _ _ _⟩
  · have hz := heap_drewN (n := 1 + nq) (heap_alloc_old (heap_alloc_at w (stO 0 0 0)) (stO rd 0 node))
    have hk := heap_drewN (n := 1 + nq) (heap_alloc_old (heap_alloc_old H.out (stO 0 0 0)) (stO rd 0 node))
    have hg := gb_drewN (gb_alloc (gb_alloc (gb_refl w (some b)) (stO 0 0 0)) (stO rd 0 node)) (1 + nq)
    exact end_st2 (p := 2) (u := 3) Try.results20 rfl rfl (st_set3 (heap_clk3 hz (Nat.ne_of_gt hlt) _ _ _) rd 0 node) rfl
      ⟨rd, 0, node, 0, rd, 0, node, rfl, tk2 hr ‹_› ‹_›, gb_st3 (gb_clk3 hg _ _ _) (.inr (Nat.le_refl _)) _ _ _, heap_st3 (clk_set3 hk _ _ _) (Nat.ne_of_lt hlt) _ _ _⟩

set_option maxHeartbeats 1000000 in
theorem tick_next (b : Nat) (win ceil node rd l0 l1 l2 : Int) (w : World) (h : w.heap[b]? = some (clkO win ceil node rd l0 l1 l2))
    (h0 : 0 ≤ l0) (h0' : l0 ≤ topW) (h1 : 0 ≤ l1) (h1' : l1 ≤ topL) (hle : rd ≤ l0) :
    Calls Try.prog 20 #[.pointer (some ⟨b, 0, none⟩)] w (TickP b win ceil node rd l0 l1 l2 w) := by
  obtain ⟨c0, c1, c2, c3, c4, c5, c6⟩ := clk_cells h
  have fz := clk_free h
  have hlt := lt_of_heap h
  have H := Lib.hid h
  clear h
  go_enter Try.func20, Try.ntmps20
  go_wp2
  go_region
  go_wp2
  go_quiet (fail)
  go_wp2_with fail
  go_region_with ((go_at_call 38; refine (next_any _ _ _ _ _ h0 h0' h1 h1').mono ?_; rintro e w1 ⟨r0, r1, r2, er, rfl, hR, hb1⟩; have hk := Lib.hid (below_heap hb1 (heap_drew (heap_drewN (n := 1 + nq) (heap_alloc_old (heap_alloc_old H.out (stO 0 0 0)) (stO rd 0 node)))) (by simp; omega)); have hz := Lib.hid (below_heap hb1 (heap_drew (heap_drewN (n := 1 + nq) (heap_alloc_old (heap_alloc_at w (stO 0 0 0)) (stO rd 0 node)))) (by simp; omega)); have hn := Lib.hid (below_heap hb1 (heap_drew (heap_drewN (n := 1 + nq) (heap_alloc_at2 w (stO 0 0 0) (stO rd 0 node)))) (by simp)); obtain ⟨n0, n1, n2⟩ := st_cells hn.out; have nf := st_free hn.out; have hg1 := Lib.hid hb1; clear hb1))
  all_goals
    have hk2 := heap_st3 hk.out (Nat.ne_of_lt (Nat.lt_succ_of_lt hlt)) r0 r1 r2
    have hz2 := heap_st3 hz.out (Nat.ne_of_lt (Nat.lt_succ_self _)) r0 r1 r2
    have hn2 := st_set3 hn.out r0 r1 r2
    have hg2 := gb_st3 (gb_trans (gb_drewN (gb_alloc (gb_alloc (gb_refl w (some b)) _) _) _) (gb_below hg1.out _)) (.inr (Nat.le_succ _)) r0 r1 r2
    clear hk hz hn hg1 n0 n1 n2 nf c0 c1 c2 c3 c4 c5 c6 fz
    generalize (((w1.setCell ⟨w.heap.size + 1, 0, none⟩ (.int .u64 r0)).setCell ⟨w.heap.size + 1, 1, none⟩ (.int .u32 r1)).setCell ⟨w.heap.size + 1, 2, none⟩ (.int .u32 r2)) = W at *
    obtain ⟨n0, n1, n2⟩ := st_cells hn2
    obtain ⟨z0, z1, z2⟩ := st_cells hz2
    obtain ⟨_, _, _, _, k4, k5, k6⟩ := clk_cells hk2
    have zf := st_free hz2
    have kf := clk_free hk2
    have HK := Lib.hid hk2
    have HZ := Lib.hid hz2
    have HG := Lib.hid hg2
    clear hk2 hz2 hn2 hg2
    go_wp2
    · exact end_st2 (p := 2) (u := 3) Try.results20 rfl rfl (st_set3 HZ.out 0 0 0) rfl
        ⟨0, 0, 0, er, l0, l1, l2, rfl, tk3 hle hR ‹_›, gb_st3 HG.out (.inr (Nat.le_refl _)) _ _ _, heap_st3 HK.out (Nat.ne_of_lt hlt) _ _ _⟩
    · exact tk4 hR ‹_› ‹_›
    · exact end_st2 (p := 2) (u := 3) Try.results20 rfl rfl (st_set3 (heap_clk3 HZ.out (Nat.ne_of_gt hlt) _ _ _) r0 r1 r2) rfl
        ⟨r0, r1, r2, 0, r0, r1, r2, rfl, tk5 hle hR ‹_› ‹_›, gb_st3 (gb_clk3 HG.out _ _ _) (.inr (Nat.le_refl _)) _ _ _, heap_st3 (clk_set3 HK.out _ _ _) (Nat.ne_of_lt hlt) _ _ _⟩

theorem tick_any (b : Nat) (win ceil node rd l0 l1 l2 : Int) (w : World) (h : w.heap[b]? = some (clkO win ceil node rd l0 l1 l2))
    (h0 : 0 ≤ l0) (h0' : l0 ≤ topW) (h1 : 0 ≤ l1) (h1' : l1 ≤ topL) (hr : rd ≤ topW) :
    Calls Try.prog 20 #[.pointer (some ⟨b, 0, none⟩)] w (TickP b win ceil node rd l0 l1 l2 w) := by
  by_cases hle : rd ≤ l0
  · exact tick_next b win ceil node rd l0 l1 l2 w h h0 h0' h1 h1' hle
  · exact tick_ahead b win ceil node rd l0 l1 l2 w h hr hle

end Go.Proofs.Ytlgkolmlcbfppaa
