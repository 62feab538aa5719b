/- tidemarklaw2.ClockEnds: the walk: it answers true at every End, and turns nothing that was there. -/
import Derived.Test.YtlgkolmlcbfppaaLife
import Derived.Deep.RegionWith
import Derived.RegionTactic
namespace Go.Proofs.Ytlgkolmlcbfppaa
open Go.RowKit

def RefP (b : Nat) (win ceil node rd l0 l1 l2 : Int) (w : World) (e : Ending) (w' : World) : Prop :=
  e = .returned (.bool true) ∧ w.grownBy w' (some b) ∧ w'.heap[b]? = some (clkO win ceil node rd l0 l1 l2)

set_option maxHeartbeats 2000000 in
theorem refuses_any (b : Nat) (win ceil node rd l0 l1 l2 : Int) (w : World) (h : w.heap[b]? = some (clkO win ceil node rd l0 l1 l2))
    (h0 : 0 ≤ l0) (h0' : l0 ≤ topW) (h1 : 0 ≤ l1) (h1' : l1 ≤ topL) (hr : rd ≤ topW) (hsp : spentB l0 l1 rd = true) :
    Calls Try.prog 22 #[.pointer (some ⟨b, 0, none⟩)] w (RefP b win ceil node rd l0 l1 l2 w) := by
  have hlt := lt_of_heap h
  have H := Lib.hid h
  have HSP := Lib.hid hsp
  clear h hsp
  go_enter Try.func22, Try.ntmps22
  go_wp2_with fail
  with_reducible refine (last_any b win ceil node rd l0 l1 l2 _ H.out).mono ?_
  rintro e w1 ⟨rfl, hb1⟩
  have hk1 := Lib.hid (below_heap hb1 H.out hlt)
  have hlt1 : b < w1.heap.size := Nat.lt_of_lt_of_le hlt hb1.size
  have hg1 := Lib.hid (gb_below hb1 (some b))
  clear hb1 H
  go_wp2_with fail
  with_reducible refine (tick_any b win ceil node rd l0 l1 l2 _ (heap_alloc_old hk1.out _) h0 h0' h1 h1' hr).mono ?_
  rintro e w2 ⟨s0, s1, s2, er, n0, n1, n2, rfl, hR, hg2, hk2⟩
  obtain ⟨rfl, rfl, rfl, rfl, rfl, rfl, rfl⟩ := rs_a hR HSP.out
  have hm1 := Lib.hid (heap_alloc_at w1 (stO n0 n1 n2))
  have hs2 := hg2.size
  rw [World.size_alloc] at hs2
  have hl2 := Lib.hid (gb_heap hg2 hm1.out (Nat.ne_of_gt hlt1))
  have hK2 := Lib.hid hk2
  have hG2 := Lib.hid (gb_trans (gb_alloc hg1.out _) hg2)
  have hlt2 : b < w2.heap.size := by omega
  have hlt3 : w1.heap.size < w2.heap.size := by omega
  clear hg2 hk2 hk1 hg1 hm1 hR HSP
  obtain ⟨p0, p1, p2⟩ := st_cells hl2.out
  go_wp2_with fail
  go_region_with ((go_at_call 19; refine (last_any b win ceil node rd n0 n1 n2 _ (heap_drew (heap_alloc_old hK2.out _))).mono ?_; rintro e w3 ⟨rfl, hb3⟩; have hl3 := Lib.hid (below_heap hb3 (heap_drew (heap_alloc_old hl2.out _)) (by simp; omega)); obtain ⟨p0', p1', p2'⟩ := st_cells hl3.out; have hK3 := Lib.hid (below_heap hb3 (heap_drew (heap_alloc_old hK2.out _)) (by simp; omega)); have hG3 := Lib.hid (gb_trans (gb_drew (gb_alloc hG2.out _)) (gb_below hb3 _)); clear hb3))
  all_goals
    go_wp2
    go_ret
    exact ⟨rfl, hG3.out, hK3.out⟩

def endO (s0 s1 s2 node win rd : Int) : Obj := .cells #[.int .u64 s0, .int .u32 s1, .int .u32 s2, .int .u32 node, .int .u64 win, .int .u64 rd] 44 (0, 0)
theorem end_cells {w : World} {b : Nat} {s0 s1 s2 node win rd : Int} (h : w.heap[b]? = some (endO s0 s1 s2 node win rd)) :
    w.cell? ⟨b, 0, none⟩ = some (.int .u64 s0) ∧ w.cell? ⟨b, 1, none⟩ = some (.int .u32 s1) ∧ w.cell? ⟨b, 2, none⟩ = some (.int .u32 s2) ∧ w.cell? ⟨b, 3, none⟩ = some (.int .u32 node) ∧
    w.cell? ⟨b, 4, none⟩ = some (.int .u64 win) ∧ w.cell? ⟨b, 5, none⟩ = some (.int .u64 rd) := by
  simp [World.cell?, h, endO]
theorem spent_d {rd l1 : Int} (hr : rd ≤ topW) : spentB topW l1 rd = true := (spentB_iff _ _ _).2 (Or.inr ⟨hr, Or.inl rfl⟩)
theorem spent_c {rd : Int} (hr : rd ≤ topW) : spentB (topW - 1) topL rd = true := by
  refine (spentB_iff _ _ _).2 ?_
  by_cases h : topW - 1 < rd
  · exact Or.inl ⟨h, by omega⟩
  · exact Or.inr ⟨by omega, Or.inr ⟨rfl, rfl⟩⟩

theorem ltB_top {s0 s1 s2 : Int} (h : s0 < topW) : ltB 18446744073709551615 0 0 s0 s1 s2 = false := by
  unfold ltB
  unfold topW at h
  rw [if_pos (by omega)]
  simp; omega
theorem tick_end {node l2 s0 s1 s2 er n0 n1 n2 : Int} (h : TickR node 0 18446744073709551614 4294967294 l2 s0 s1 s2 er n0 n1 n2) :
    er = 0 ∧ s0 = 18446744073709551614 ∧ s1 = 4294967295 ∧ s2 = node ∧ n0 = 18446744073709551614 ∧ n1 = 4294967295 ∧ n2 = node := by
  unfold TickR topW topL at h
  omega

set_option maxRecDepth 100000 in
set_option maxHeartbeats 4000000 in
theorem clockEnds_any (s0 s1 s2 node win rd : Int) (w : World) (g0' : s0 ≤ topW) (hr : rd ≤ topW) :
    Calls Try.prog 6 #[.agg #[.int .u64 s0, .int .u32 s1, .int .u32 s2, .int .u32 node, .int .u64 win, .int .u64 rd]] w fun e w' => e = .returned (.bool true) ∧ Below w.heap.size w w' := by
  go_enter Try.func6, Try.ntmps6
  go_wp2_with fail
  with_reducible refine (new_any node win _).mono ?_
  rintro e w1 ⟨rfl, hb1, hs1, hk1⟩
  rw [World.size_alloc] at hs1 hk1
  have hx1 := Lib.hid (below_heap hb1 (heap_alloc_at w (endO s0 s1 s2 node win rd)) (by simp))
  have hB1 := Lib.hid (((Below.refl _ _).alloc (Nat.le_refl _) _).trans (hb1.mono (Nat.le_of_lt (by simp))))
  obtain ⟨x0, x1, x2, x3, x4, x5⟩ := end_cells hx1.out
  have hK1 := Lib.hid hk1
  have hlt1 : w.heap.size + 1 < w1.heap.size := by omega
  clear hb1 hk1 hs1
  go_wp2_with fail
  with_reducible refine (reopen_any node win 18446744073709551615 _).mono ?_
  rintro e w2 ⟨rfl, hb2, hs2, hk2⟩
  have hX2 := Lib.hid (below_heap hb2 hx1.out (by omega))
  have hC2 := Lib.hid (below_heap hb2 hK1.out (by omega))
  have hD2 := Lib.hid hk2
  have hB2 := Lib.hid (hB1.out.trans (hb2.mono (by omega)))
  generalize w1.heap.size = db at *
  have hlt2 : db < w2.heap.size := by omega
  clear hb2 hk2 hs2 hx1 hK1 hB1 x0 x1 x2 x3 x4 x5
  obtain ⟨x0, x1, x2, x3, x4, x5⟩ := end_cells hX2.out
  go_wp2_with fail
  with_reducible refine (read_any db win 18446744073709551615 node 0 18446744073709551615 0 0 rd _ hD2.out).mono ?_
  rintro e w3 ⟨rfl, hg3, hD3⟩
  have hsz3 := hg3.size
  have hX3 := Lib.hid (gb_heap hg3 hX2.out (by omega))
  have hC3 := Lib.hid (gb_heap hg3 hC2.out (by omega))
  have hB3 := Lib.hid (below_gb hB2.out hg3 (by omega) (by omega))
  have hD3 := Lib.hid hD3
  clear hg3 hX2 hC2 hB2 hD2 x0 x1 x2 x3 x4 x5
  obtain ⟨x0, x1, x2, x3, x4, x5⟩ := end_cells hX3.out
  cases qt : (s0 == 18446744073709551615)
  · have HQ := Lib.hid qt
    have hne : (s0 != 18446744073709551615) = true := by rw [bne, qt]; rfl
    clear qt
    go_wp2_with fail
    refine (observe_ok db win 18446744073709551615 node rd 18446744073709551615 0 0 s0 s1 s2 _ hD3.out HQ.out).mono ?_
    rintro e w4 ⟨m, hm, rfl, hg4, hkc⟩
    obtain ⟨e1, e2, e3⟩ := max2_no (by decide) (Int.le_refl 0) (Int.le_refl 0) (ltB_top (lt_topW g0' HQ.out)) hm
    rw [e1, e2, e3] at hkc
    clear hm e1 e2 e3
    have hsz4 := hg4.size
    have hX4 := Lib.hid (gb_heap hg4 hX3.out (by omega))
    have hC4 := Lib.hid (gb_heap hg4 hC3.out (by omega))
    have hB4 := Lib.hid (below_gb hB3.out hg4 (by omega) (by omega))
    have hD4 := Lib.hid hkc
    clear hg4 hkc hX3 hC3 hB3 hD3
    have hlt4 : db < w4.heap.size := by omega
    clear x0 x1 x2 x3 x4 x5
    obtain ⟨x0, x1, x2, x3, x4, x5⟩ := end_cells hX4.out
    go_wp2_with fail
    with_reducible refine (last_any db win 18446744073709551615 node rd 18446744073709551615 0 0 _ hD4.out).mono ?_
    rintro e w5 ⟨rfl, hb5⟩
    have hsz5 := hb5.size
    have hX5 := Lib.hid (below_heap hb5 hX4.out (by omega))
    have hC5 := Lib.hid (below_heap hb5 hC4.out (by omega))
    have hD5 := Lib.hid (below_heap hb5 hD4.out (by omega))
    have hB5 := Lib.hid (hB4.out.trans (hb5.mono (by omega)))
    clear hb5 hX4 hC4 hD4 hB4 x0 x1 x2 x3 x4 x5
    go_wp2_with fail
    refine (refuses_any db win 18446744073709551615 node rd 18446744073709551615 0 0 _ hD5.out (by decide) (Int.le_refl topW) (Int.le_refl _) (by decide) hr (spent_d hr)).mono ?_
    rintro e w6 ⟨rfl, hg6, hD6⟩
    have hsz6 := hg6.size
    have hX6 := Lib.hid (gb_heap hg6 hX5.out (by omega))
    have hC6 := Lib.hid (gb_heap hg6 hC5.out (by omega))
    have hB6 := Lib.hid (below_gb hB5.out hg6 (by omega) (by omega))
    clear hg6 hD6 hX5 hC5 hB5 hD5
    have hlt6 : w.heap.size < w6.heap.size := by omega
    have hlt6' : w.heap.size + 1 < w6.heap.size := by omega
    obtain ⟨x0, x1, x2, x3, x4, x5⟩ := end_cells hX6.out
    go_wp2_with fail
    refine (observe_top (w.heap.size + 1) win 0 node 0 0 0 0 18446744073709551615 s1 s2 _ (heap_alloc_old hC6.out _) (by decide)).mono ?_
    rintro e w7 ⟨rfl, hb7⟩
    have hsz7 := hb7.size
    rw [World.size_alloc] at hsz7
    have hX7 := Lib.hid (below_heap hb7 (heap_alloc_old hX6.out _) (by simp; omega))
    have hC7 := Lib.hid (below_heap hb7 (heap_alloc_old hC6.out _) (by simp; omega))
    have hT7 := Lib.hid (below_heap hb7 (heap_alloc_at w6 (stO 18446744073709551615 s1 s2)) (by simp))
    have hB7 := Lib.hid ((hB6.out.alloc (by omega) _).trans (hb7.mono (by simp; omega)))
    clear hb7 hX6 hC6 hB6 x0 x1 x2 x3 x4 x5
    obtain ⟨t0, t1, t2⟩ := st_cells hT7.out
    go_wp2_with fail
    refine (need_no (w.heap.size + 1) win 0 node 0 0 0 0 18446744073709551615 s1 s2 _ hC7.out (Or.inl rfl)).mono ?_
    rintro e w8 ⟨rfl, hb8⟩
    have hsz8 := hb8.size
    have hX8 := Lib.hid (below_heap hb8 hX7.out (by omega))
    have hC8 := Lib.hid (below_heap hb8 hC7.out (by omega))
    have hB8 := Lib.hid (hB7.out.trans (hb8.mono (by omega)))
    clear hb8 hX7 hC7 hB7 hT7 t0 t1 t2
    go_wp2_with fail
    with_reducible refine (last_any (w.heap.size + 1) win 0 node 0 0 0 0 _ hC8.out).mono ?_
    rintro e w9 ⟨rfl, hb9⟩
    have hsz9 := hb9.size
    have hX9 := Lib.hid (below_heap hb9 hX8.out (by omega))
    have hC9 := Lib.hid (below_heap hb9 hC8.out (by omega))
    have hB9 := Lib.hid (hB8.out.trans (hb9.mono (by omega)))
    clear hb9 hX8 hC8 hB8
    obtain ⟨x0, x1, x2, x3, x4, x5⟩ := end_cells hX9.out
    go_wp2_with fail
    refine (observe_ok (w.heap.size + 1) win 0 node 0 0 0 0 18446744073709551614 4294967294 s2 _ hC9.out (by decide)).mono ?_
    rintro e w10 ⟨m, hm, rfl, hg10, hkc⟩
    obtain ⟨e1, e2, e3⟩ := max2_yes (Int.le_refl 0) (Int.le_refl 0) (Int.le_refl 0) (ltB_wall (by omega)) hm
    rw [e1, e2, e3] at hkc
    clear hm e1 e2 e3
    have hsz10 := hg10.size
    have hX10 := Lib.hid (gb_heap hg10 hX9.out (by omega))
    have hB10 := Lib.hid (below_gb hB9.out hg10 (by omega) (by omega))
    have hC10 := Lib.hid hkc
    clear hg10 hkc hX9 hC9 hB9 x0 x1 x2 x3 x4 x5
    go_wp2_with fail
    refine (tick_any (w.heap.size + 1) win 0 node 0 18446744073709551614 4294967294 s2 _ hC10.out (by decide) (by decide) (by decide) (by decide) (by decide)).mono ?_
    rintro e w11 ⟨r0, r1, r2, er, n0, n1, n2, rfl, hR, hg11, hk11⟩
    obtain ⟨rfl, rfl, rfl, rfl, rfl, rfl, rfl⟩ := tick_end hR
    have hsz11 := hg11.size
    have hX11 := Lib.hid (gb_heap hg11 hX10.out (by omega))
    have hB11 := Lib.hid (below_gb hB10.out hg11 (by omega) (by omega))
    have hC11 := Lib.hid hk11
    clear hg11 hk11 hR hX10 hC10 hB10
    have hlt11 : w.heap.size < w11.heap.size := by omega
    have hlt11' : w.heap.size + 1 < w11.heap.size := by omega
    obtain ⟨x0, x1, x2, x3, x4, x5⟩ := end_cells hX11.out
    go_wp2_with fail
    refine (read_any (w.heap.size + 1) win 0 n2 0 18446744073709551614 4294967295 n2 rd _ (heap_alloc_old hC11.out _)).mono ?_
    rintro e w12 ⟨rfl, hg12, hk12⟩
    have hB12 := Lib.hid (below_gb (hB11.out.alloc (by omega) _) hg12 (by omega) (by simp; omega))
    have hC12 := Lib.hid hk12
    have hsz12 := hg12.size
    rw [World.size_alloc] at hsz12
    clear hg12 hk12 hB11 hC11 hX11 x0 x1 x2 x3 x4 x5
    go_wp2_with fail
    refine (refuses_any (w.heap.size + 1) win 0 n2 rd 18446744073709551614 4294967295 n2 _ hC12.out (by decide) (by decide) (by decide) (Int.le_refl _) hr (spent_c hr)).mono ?_
    rintro e w13 ⟨rfl, hg13, hk13⟩
    have hB13 := Lib.hid (below_gb hB12.out hg13 (by omega) (by omega))
    clear hg13 hk13
    go_wp2_with fail
    go_ret
    exact ⟨rfl, hB13.out⟩
  · have HQ := Lib.hid qt
    have hne : (s0 != 18446744073709551615) = false := by rw [bne, qt]; rfl
    clear qt
    go_wp2_with fail
    refine (observe_top db win 18446744073709551615 node rd 18446744073709551615 0 0 s0 s1 s2 _ hD3.out HQ.out).mono ?_
    rintro e w4 ⟨rfl, hb4⟩
    have hsz4 := hb4.size
    have hX4 := Lib.hid (below_heap hb4 hX3.out (by omega))
    have hC4 := Lib.hid (below_heap hb4 hC3.out (by omega))
    have hD4 := Lib.hid (below_heap hb4 hD3.out (by omega))
    have hB4 := Lib.hid (hB3.out.trans (hb4.mono (by omega)))
    clear hb4 hX3 hC3 hB3 hD3
    have hlt4 : db < w4.heap.size := by omega
    clear x0 x1 x2 x3 x4 x5
    obtain ⟨x0, x1, x2, x3, x4, x5⟩ := end_cells hX4.out
    go_wp2_with fail
    with_reducible refine (last_any db win 18446744073709551615 node rd 18446744073709551615 0 0 _ hD4.out).mono ?_
    rintro e w5 ⟨rfl, hb5⟩
    have hsz5 := hb5.size
    have hX5 := Lib.hid (below_heap hb5 hX4.out (by omega))
    have hC5 := Lib.hid (below_heap hb5 hC4.out (by omega))
    have hD5 := Lib.hid (below_heap hb5 hD4.out (by omega))
    have hB5 := Lib.hid (hB4.out.trans (hb5.mono (by omega)))
    clear hb5 hX4 hC4 hD4 hB4 x0 x1 x2 x3 x4 x5
    go_wp2_with fail
    refine (refuses_any db win 18446744073709551615 node rd 18446744073709551615 0 0 _ hD5.out (by decide) (Int.le_refl topW) (Int.le_refl _) (by decide) hr (spent_d hr)).mono ?_
    rintro e w6 ⟨rfl, hg6, hD6⟩
    have hsz6 := hg6.size
    have hX6 := Lib.hid (gb_heap hg6 hX5.out (by omega))
    have hC6 := Lib.hid (gb_heap hg6 hC5.out (by omega))
    have hB6 := Lib.hid (below_gb hB5.out hg6 (by omega) (by omega))
    clear hg6 hD6 hX5 hC5 hB5 hD5
    have hlt6 : w.heap.size < w6.heap.size := by omega
    have hlt6' : w.heap.size + 1 < w6.heap.size := by omega
    obtain ⟨x0, x1, x2, x3, x4, x5⟩ := end_cells hX6.out
    go_wp2_with fail
    refine (observe_top (w.heap.size + 1) win 0 node 0 0 0 0 18446744073709551615 s1 s2 _ (heap_alloc_old hC6.out _) (by decide)).mono ?_
    rintro e w7 ⟨rfl, hb7⟩
    have hsz7 := hb7.size
    rw [World.size_alloc] at hsz7
    have hX7 := Lib.hid (below_heap hb7 (heap_alloc_old hX6.out _) (by simp; omega))
    have hC7 := Lib.hid (below_heap hb7 (heap_alloc_old hC6.out _) (by simp; omega))
    have hT7 := Lib.hid (below_heap hb7 (heap_alloc_at w6 (stO 18446744073709551615 s1 s2)) (by simp))
    have hB7 := Lib.hid ((hB6.out.alloc (by omega) _).trans (hb7.mono (by simp; omega)))
    clear hb7 hX6 hC6 hB6 x0 x1 x2 x3 x4 x5
    obtain ⟨t0, t1, t2⟩ := st_cells hT7.out
    go_wp2_with fail
    refine (need_no (w.heap.size + 1) win 0 node 0 0 0 0 18446744073709551615 s1 s2 _ hC7.out (Or.inl rfl)).mono ?_
    rintro e w8 ⟨rfl, hb8⟩
    have hsz8 := hb8.size
    have hX8 := Lib.hid (below_heap hb8 hX7.out (by omega))
    have hC8 := Lib.hid (below_heap hb8 hC7.out (by omega))
    have hB8 := Lib.hid (hB7.out.trans (hb8.mono (by omega)))
    clear hb8 hX7 hC7 hB7 hT7 t0 t1 t2
    go_wp2_with fail
    with_reducible refine (last_any (w.heap.size + 1) win 0 node 0 0 0 0 _ hC8.out).mono ?_
    rintro e w9 ⟨rfl, hb9⟩
    have hsz9 := hb9.size
    have hX9 := Lib.hid (below_heap hb9 hX8.out (by omega))
    have hC9 := Lib.hid (below_heap hb9 hC8.out (by omega))
    have hB9 := Lib.hid (hB8.out.trans (hb9.mono (by omega)))
    clear hb9 hX8 hC8 hB8
    obtain ⟨x0, x1, x2, x3, x4, x5⟩ := end_cells hX9.out
    go_wp2_with fail
    refine (observe_ok (w.heap.size + 1) win 0 node 0 0 0 0 18446744073709551614 4294967294 s2 _ hC9.out (by decide)).mono ?_
    rintro e w10 ⟨m, hm, rfl, hg10, hkc⟩
    obtain ⟨e1, e2, e3⟩ := max2_yes (Int.le_refl 0) (Int.le_refl 0) (Int.le_refl 0) (ltB_wall (by omega)) hm
    rw [e1, e2, e3] at hkc
    clear hm e1 e2 e3
    have hsz10 := hg10.size
    have hX10 := Lib.hid (gb_heap hg10 hX9.out (by omega))
    have hB10 := Lib.hid (below_gb hB9.out hg10 (by omega) (by omega))
    have hC10 := Lib.hid hkc
    clear hg10 hkc hX9 hC9 hB9 x0 x1 x2 x3 x4 x5
    go_wp2_with fail
    refine (tick_any (w.heap.size + 1) win 0 node 0 18446744073709551614 4294967294 s2 _ hC10.out (by decide) (by decide) (by decide) (by decide) (by decide)).mono ?_
    rintro e w11 ⟨r0, r1, r2, er, n0, n1, n2, rfl, hR, hg11, hk11⟩
    obtain ⟨rfl, rfl, rfl, rfl, rfl, rfl, rfl⟩ := tick_end hR
    have hsz11 := hg11.size
    have hX11 := Lib.hid (gb_heap hg11 hX10.out (by omega))
    have hB11 := Lib.hid (below_gb hB10.out hg11 (by omega) (by omega))
    have hC11 := Lib.hid hk11
    clear hg11 hk11 hR hX10 hC10 hB10
    have hlt11 : w.heap.size < w11.heap.size := by omega
    have hlt11' : w.heap.size + 1 < w11.heap.size := by omega
    obtain ⟨x0, x1, x2, x3, x4, x5⟩ := end_cells hX11.out
    go_wp2_with fail
    refine (read_any (w.heap.size + 1) win 0 n2 0 18446744073709551614 4294967295 n2 rd _ (heap_alloc_old hC11.out _)).mono ?_
    rintro e w12 ⟨rfl, hg12, hk12⟩
    have hB12 := Lib.hid (below_gb (hB11.out.alloc (by omega) _) hg12 (by omega) (by simp; omega))
    have hC12 := Lib.hid hk12
    have hsz12 := hg12.size
    rw [World.size_alloc] at hsz12
    clear hg12 hk12 hB11 hC11 hX11 x0 x1 x2 x3 x4 x5
    go_wp2_with fail
    refine (refuses_any (w.heap.size + 1) win 0 n2 rd 18446744073709551614 4294967295 n2 _ hC12.out (by decide) (by decide) (by decide) (Int.le_refl _) hr (spent_c hr)).mono ?_
    rintro e w13 ⟨rfl, hg13, hk13⟩
    have hB13 := Lib.hid (below_gb hB12.out hg13 (by omega) (by omega))
    clear hg13 hk13
    go_wp2_with fail
    go_ret
    exact ⟨rfl, hB13.out⟩

end Go.Proofs.Ytlgkolmlcbfppaa
