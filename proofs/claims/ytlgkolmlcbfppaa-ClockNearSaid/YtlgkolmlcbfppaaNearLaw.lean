/- tidemarklaw2.ClockNear: the walk: it answers true at every Life, and turns nothing that was there. -/
import Derived.Test.YtlgkolmlcbfppaaLife
namespace Go.Proofs.Ytlgkolmlcbfppaa
open Go.RowKit

/-- After k steps: what has been told (H), and how far the clock may be ahead of it. -/
def NearI (k : Nat) (ceil H rd l0 l1 : Int) : Prop :=
  ceil ≤ l0 ∧ rd ≤ H ∧ ceil ≤ H ∧ H ≤ topW ∧ l0 ≤ topW ∧ 0 ≤ l1 ∧ l1 ≤ topL ∧ (l0 ≤ H ∨ (l0 = H + 1 ∧ l1 ≤ k))

theorem near_start {ceil : Int} (h1 : ceil ≤ topW) (h0 : 0 ≤ ceil) : NearI 0 ceil ceil 0 ceil 0 :=
  ⟨Int.le_refl _, h0, Int.le_refl _, h1, h1, Int.le_refl _, by decide, Or.inl (Int.le_refl _)⟩
theorem near_more {k : Nat} {ceil H rd l0 l1 : Int} (h : NearI k ceil H rd l0 l1) : NearI (k + 1) ceil H rd l0 l1 := by
  obtain ⟨a, b, c, d, e, f, g, i⟩ := h
  exact ⟨a, b, c, d, e, f, g, by omega⟩
theorem near_read {k : Nat} {ceil H rd l0 l1 x : Int} (h : NearI k ceil H rd l0 l1) (hx : x ≤ topW) (hlt : H < x) : NearI (k + 1) ceil x x l0 l1 := by
  obtain ⟨a, b, c, d, e, f, g, i⟩ := h
  exact ⟨a, Int.le_refl _, by omega, hx, e, f, g, by omega⟩
theorem near_read' {k : Nat} {ceil H rd l0 l1 x : Int} (h : NearI k ceil H rd l0 l1) (hlt : x ≤ H) : NearI (k + 1) ceil H x l0 l1 := by
  obtain ⟨a, b, c, d, e, f, g, i⟩ := h
  exact ⟨a, hlt, c, d, e, f, g, by omega⟩
theorem near_top {k : Nat} {ceil H rd l0 l1 l2 s0 s1 s2 node n0 n1 n2 : Int} (hk : k < 1048576) (h : NearI k ceil H rd l0 l1) (hR : TickR node rd l0 l1 l2 s0 s1 s2 11 n0 n1 n2) : 18446744073709551614 ≤ H := by
  obtain ⟨a, b, c, d, e, f, g, i⟩ := h
  rcases hR with ⟨_, _, _, _, _, _, _, j⟩ | ⟨j, _⟩
  · unfold topW topL at *
    omega
  · omega
theorem near_tick {k : Nat} {ceil H rd l0 l1 l2 s0 s1 s2 node n0 n1 n2 : Int} (hk : k < 1048576) (h : NearI k ceil H rd l0 l1) (hR : TickR node rd l0 l1 l2 s0 s1 s2 0 n0 n1 n2) :
    NearI (k + 1) ceil H rd n0 n1 ∧ s0 ≤ H + 1 := by
  obtain ⟨a, b, c, d, e, f, g, i⟩ := h
  rcases hR with ⟨j, _⟩ | ⟨_, h1, h2, h3, h4, h5, h6⟩
  · omega
  · subst h3 h4
    unfold NearI
    unfold topW topL at *
    rcases h6 with h6 | h6 | h6
    · refine ⟨⟨by omega, by omega, by omega, by omega, by omega, by omega, by omega, by omega⟩, by omega⟩
    · refine ⟨⟨by omega, by omega, by omega, by omega, by omega, by omega, by omega, by omega⟩, by omega⟩
    · refine ⟨⟨by omega, by omega, by omega, by omega, by omega, by omega, by omega, by omega⟩, by omega⟩
theorem near_obs {k : Nat} {ceil H rd l0 l1 l2 s0 s1 s2 : Int} {m : St} (h : NearI k ceil H rd l0 l1) (g0 : 0 ≤ l0) (g2 : 0 ≤ l2) (e0 : 0 ≤ s1) (e1 : s1 ≤ topL) (e2 : s0 ≤ topW)
    (hm : m = max2 ⟨l0, l1, l2⟩ ⟨s0, s1, s2⟩) : (H < s0 → NearI (k + 1) ceil s0 rd m.w m.l) ∧ (s0 ≤ H → NearI (k + 1) ceil H rd m.w m.l) := by
  obtain ⟨a, b, c, d, e, f, g, i⟩ := h
  cases hL : ltB l0 l1 l2 s0 s1 s2
  · obtain ⟨q1, q2, _⟩ := max2_no g0 f g2 hL hm
    have hle : s0 ≤ l0 := by
      refine Int.not_lt.1 fun hlt => ?_
      rw [ltB_wall hlt] at hL; cases hL
    rw [q1, q2]
    exact ⟨fun q => ⟨a, by omega, by omega, e2, e, f, g, by omega⟩, fun q => ⟨a, b, c, d, e, f, g, by omega⟩⟩
  · obtain ⟨q1, q2, _⟩ := max2_yes g0 f g2 hL hm
    have hle : l0 ≤ s0 := by
      refine Int.not_lt.1 fun hlt => ?_
      unfold ltB at hL
      rw [if_pos (by omega)] at hL
      simp at hL
      omega
    rw [q1, q2]
    exact ⟨fun q => ⟨by omega, by omega, by omega, e2, e2, e0, e1, by omega⟩, fun q => ⟨by omega, b, c, d, e2, e0, e1, by omega⟩⟩
theorem max2_bounds {l0 l1 l2 s0 s1 s2 : Int} {m : St} (g0 : 0 ≤ l0) (g1 : 0 ≤ l1) (g2 : 0 ≤ l2) (e0 : 0 ≤ s0) (e2 : 0 ≤ s2) (hm : m = max2 ⟨l0, l1, l2⟩ ⟨s0, s1, s2⟩) : 0 ≤ m.w ∧ 0 ≤ m.n := by
  cases hL : ltB l0 l1 l2 s0 s1 s2
  · obtain ⟨q1, _, q2⟩ := max2_no g0 g1 g2 hL hm
    rw [q1, q2]; exact ⟨g0, g2⟩
  · obtain ⟨q1, _, q2⟩ := max2_yes g0 g1 g2 hL hm
    rw [q1, q2]; exact ⟨e0, e2⟩
theorem tickL_low {node rd l0 l1 l2 s0 s1 s2 er n0 n1 n2 : Int} (h : TickR node rd l0 l1 l2 s0 s1 s2 er n0 n1 n2) (g0 : 0 ≤ l0) (g2 : 0 ≤ l2) (hn : 0 ≤ node) : 0 ≤ n0 ∧ 0 ≤ n2 := by
  rcases h with ⟨_, _, _, _, rfl, rfl, rfl, _⟩ | ⟨_, rfl, hs, rfl, rfl, rfl, h⟩
  · exact ⟨g0, g2⟩
  · exact ⟨by omega, hn⟩

theorem er_cases {node rd l0 l1 l2 s0 s1 s2 er n0 n1 n2 : Int} (h : TickR node rd l0 l1 l2 s0 s1 s2 er n0 n1 n2) : er = 11 ∨ er = 0 := by
  rcases h with ⟨h, _⟩ | ⟨h, _⟩
  · exact Or.inl h
  · exact Or.inr h

/-- Where ClockNear stands at a round's head. -/
def NearRel (w : World) (node win ceil : Int) (p : Option Addr) (n cap : Nat) (hv i : Value) (wr : World) : Prop :=
  ∃ (k : Nat) (H rd l0 l1 l2 : Int), k ≤ n ∧ k ≤ 1048576 ∧ i = .int .i64 k ∧ hv = .int .u64 H ∧ 0 ≤ l0 ∧ 0 ≤ l2 ∧ NearI k ceil H rd l0 l1 ∧ Below w.heap.size w wr ∧ w.heap.size + 1 < wr.heap.size ∧
    wr.heap[w.heap.size]? = some (lifeO node win ceil p n cap) ∧ wr.heap[w.heap.size + 1]? = some (clkO win ceil node rd l0 l1 l2)

set_option maxRecDepth 100000 in
set_option maxHeartbeats 4000000 in
theorem clockNear_any (node win ceil : Int) (p : Option Addr) (n cap : Nat) (f : Nat → Stp) (w : World)
    (hst : StepsAt w p n f) (hnode : 0 ≤ node) (hc0 : 0 ≤ ceil) (hc1 : ceil ≤ topW) :
    Calls Try.prog 5 #[.agg #[.int .u32 node, .int .u64 win, .int .u64 ceil, .slice p n cap]] w fun e w' => e = .returned (.bool true) ∧ Below w.heap.size w w' := by
  have HST := Lib.hid hst
  clear hst
  go_enter Try.func5, Try.ntmps5
  go_wp2_with fail
  with_reducible refine (reopen_any node win ceil _).mono ?_
  rintro e w1 ⟨rfl, hb1, hs1, hk1⟩
  rw [World.size_alloc] at hs1 hk1
  have hx1 := Lib.hid (below_heap hb1 (heap_alloc_at w (lifeO node win ceil p n cap)) (by simp))
  have hB1 := Lib.hid (((Below.refl _ _).alloc (Nat.le_refl _) _).trans (hb1.mono (Nat.le_of_lt (by simp))))
  obtain ⟨x0, x1, x2, x3⟩ := life_cells hx1.out
  have hK1 := Lib.hid hk1
  have hlt1 : w.heap.size + 1 < w1.heap.size := by omega
  clear hb1 hk1 hs1
  go_wp2_with fail
  go_loopw [4, 5] (NearRel w node win ceil p n cap) (fun _ i _ => n - (intOf i).toNat)
  case atStart => exact ⟨0, ceil, 0, ceil, 0, 0, Nat.zero_le _, by omega, rfl, rfl, hc0, Int.le_refl _, near_start hc1 hc0, hB1.out, hlt1, hx1.out, hK1.out⟩
  case round =>
    clear x0 x1 x2 x3 hx1 hB1 hK1 hlt1
    obtain ⟨k, H, rd, l0, l1, l2, hk, hk2, rfl, rfl, g0, g2, hI, hB, hs, hx, hc⟩ := hrel
    have hX := Lib.hid hx
    have hC := Lib.hid hc
    have HB := Lib.hid hB
    have HI := Lib.hid hI
    obtain ⟨x0, x1, x2, x3⟩ := life_cells hx
    have hx0 : w.heap.size < wr.heap.size := by omega
    clear hx hc hI
    by_cases hlt : k < n ∧ k < 1048576
    · obtain ⟨hlt, hlm⟩ := hlt
      have hlm' : (k : Int) < 1048576 := by omega
      have HLM := Lib.hid hlm
      clear hlm hk2
      obtain ⟨b, off, rfl, hbl, d0, d1, d2, d3, d4, e0, e0', e1, e1', e2, e2', e3⟩ := HST.out k hlt
      rw [← hB.cell (by simpa using hbl)] at d0 d1 d2 d3 d4
      have hbr : b < wr.heap.size := by omega
      clear hB
      cases q1 : ((f k).kind == 1)
      · cases q2 : ((f k).kind == 2)
        · cases q3 : ((f k).kind == 3)
          · have hsz : wr.heap.size < (wr.alloc (stepO (f k))).heap.size := by simp
            go_wp2_with fail
            exact ⟨⟨k + 1, H, rd, l0, l1, l2, by omega, HLM.out, by go_num, rfl, g0, g2, near_more HI.out, HB.out.alloc (by omega) (stepO (f k)), by simp; omega, heap_alloc_old hX.out (stepO (f k)), heap_alloc_old hC.out (stepO (f k))⟩, by simp [intOf]; omega⟩
          · cases qt : ((f k).s0 == 18446744073709551615)
            · have HQ := Lib.hid qt
              clear qt
              go_wp2_with fail
              have qt := HQ.out
              have hx := Lib.hid (heap_alloc_old hX.out (stepO (f k)))
              have hc := Lib.hid (heap_alloc_old hC.out (stepO (f k)))
              have ht := Lib.hid (heap_alloc_at wr (stepO (f k)))
              have hG := Lib.hid (HB.out.alloc (by omega) (stepO (f k)))
              have hsz : wr.heap.size < (wr.alloc (stepO (f k))).heap.size := by simp
              clear hX hC HB x0 x1 x2 x3 d0 d1 d2 d3 d4
              have i5 := HI.out.2.2.2.2.2.1
              refine (observe_ok (w.heap.size + 1) win ceil node rd l0 l1 l2 (f k).s0 (f k).s1 (f k).s2 _ hc.out qt).mono ?_
              rintro e w2 ⟨m, hm, rfl, hg, hkc⟩
              have hne : ((f k).s0 != 18446744073709551615) = true := by rw [bne, qt]; rfl
              have hsg := hg.size
              have hx' := Lib.hid (gb_heap hg hx.out (by omega))
              have ht' := Lib.hid (gb_heap hg ht.out (by omega))
              have hG' := Lib.hid (below_gb hG.out hg (by omega) (by simp; omega))
              have hc' := Lib.hid hkc
              clear hg hx hc ht hG hkc
              obtain ⟨hx, ht, hG, hc⟩ := And.intro hx' (And.intro ht' (And.intro hG' hc'))
              clear hx' ht' hG' hc'
              have hsz : wr.heap.size < w2.heap.size := by omega
              obtain ⟨t0, t1, t2, t3, t4⟩ := step_cells ht.out
              obtain ⟨b0, b2⟩ := max2_bounds g0 i5 g2 e1 e3 hm
              obtain ⟨hI2, hI3⟩ := near_obs HI.out g0 g2 e2 e2' e1' hm
              clear hm
              rcases Int.lt_or_le H (f k).s0 with hlw | hlw
              · have HI2 := Lib.hid (hI2 hlw)
                clear hI2 hI3
                go_wp2_with fail
                exact ⟨⟨k + 1, (f k).s0, rd, m.w, m.l, m.n, by omega, HLM.out, by go_num, rfl, b0, b2, HI2.out, hG.out, by omega, hx.out, hc.out⟩, by simp [intOf]; omega⟩
              · have HI2 := Lib.hid (hI3 hlw)
                have hd : decide (H < (f k).s0) = false := decide_eq_false (Int.not_lt.2 hlw)
                clear hI2 hI3 hlw
                go_wp2_with fail
                exact ⟨⟨k + 1, H, rd, m.w, m.l, m.n, by omega, HLM.out, by go_num, rfl, b0, b2, HI2.out, hG.out, by omega, hx.out, hc.out⟩, by simp [intOf]; omega⟩
            · have HQ := Lib.hid qt
              clear qt
              go_wp2_with fail
              have qt := HQ.out
              have hx := Lib.hid (heap_alloc_old hX.out (stepO (f k)))
              have hc := Lib.hid (heap_alloc_old hC.out (stepO (f k)))
              have ht := Lib.hid (heap_alloc_at wr (stepO (f k)))
              have hG := Lib.hid (HB.out.alloc (by omega) (stepO (f k)))
              have hsz : wr.heap.size < (wr.alloc (stepO (f k))).heap.size := by simp
              clear hX hC HB x0 x1 x2 x3 d0 d1 d2 d3 d4
              refine (observe_top (w.heap.size + 1) win ceil node rd l0 l1 l2 (f k).s0 (f k).s1 (f k).s2 _ hc.out qt).mono ?_
              rintro e w2 ⟨rfl, hb5⟩
              have hne : ((f k).s0 != 18446744073709551615) = false := by rw [bne, qt]; rfl
              have hsg := hb5.size
              have hx' := Lib.hid (below_heap hb5 hx.out (by omega))
              have ht' := Lib.hid (below_heap hb5 ht.out (by omega))
              have hc' := Lib.hid (below_heap hb5 hc.out (by omega))
              have hG' := Lib.hid (hG.out.trans (hb5.mono (by omega)))
              clear hb5 hx hc ht hG
              obtain ⟨hx, ht, hG, hc⟩ := And.intro hx' (And.intro ht' (And.intro hG' hc'))
              clear hx' ht' hG' hc'
              have hsz : wr.heap.size < w2.heap.size := by omega
              obtain ⟨t0, t1, t2, t3, t4⟩ := step_cells ht.out
              rcases Int.lt_or_le H (f k).s0 with hlw | hlw
              · go_wp2_with fail
                exact ⟨⟨k + 1, H, rd, l0, l1, l2, by omega, HLM.out, by go_num, rfl, g0, g2, near_more HI.out, hG.out, by omega, hx.out, hc.out⟩, by simp [intOf]; omega⟩
              · have hd : decide (H < (f k).s0) = false := decide_eq_false (Int.not_lt.2 hlw)
                clear hlw
                go_wp2_with fail
                exact ⟨⟨k + 1, H, rd, l0, l1, l2, by omega, HLM.out, by go_num, rfl, g0, g2, near_more HI.out, hG.out, by omega, hx.out, hc.out⟩, by simp [intOf]; omega⟩
        · go_wp2_with fail
          have hx := Lib.hid (heap_alloc_old hX.out (stepO (f k)))
          have hc := Lib.hid (heap_alloc_old hC.out (stepO (f k)))
          have ht := Lib.hid (heap_alloc_at wr (stepO (f k)))
          have hG := Lib.hid (HB.out.alloc (by omega) (stepO (f k)))
          have hsz : wr.heap.size < (wr.alloc (stepO (f k))).heap.size := by simp
          clear hX hC HB x0 x1 x2 x3 d0 d1 d2 d3 d4
          obtain ⟨i0, i1, i2, i3, i4, i5, i6, i7⟩ := HI.out
          have hrt : rd ≤ topW := by omega
          refine (tick_any (w.heap.size + 1) win ceil node rd l0 l1 l2 _ hc.out g0 i4 i5 i6 hrt).mono ?_
          rintro e w2 ⟨s0, s1, s2, er, n0, n1, n2, rfl, hR, hg, hkc⟩
          clear i0 i1 i2 i3 i4 i5 i6 i7
          have hsg := hg.size
          have hx' := Lib.hid (gb_heap hg hx.out (by omega))
          have ht' := Lib.hid (gb_heap hg ht.out (by omega))
          have hG' := Lib.hid (below_gb hG.out hg (by omega) (by simp; omega))
          have hc' := Lib.hid hkc
          clear hg hx hc ht hG hkc
          obtain ⟨hx, ht, hG, hc⟩ := And.intro hx' (And.intro ht' (And.intro hG' hc'))
          clear hx' ht' hG' hc'
          have hsz : wr.heap.size < w2.heap.size := by omega
          obtain ⟨a0, a2⟩ := tickL_low hR g0 g2 hnode
          rcases er_cases hR with rfl | rfl
          · have hI2 := Lib.hid (show NearI (k + 1) ceil H rd n0 n1 from by
              rcases hR with ⟨_, _, _, _, r1, r2, r3, _⟩ | ⟨hno, _⟩
              · rw [r1, r2]; exact near_more HI.out
              · cases hno)
            have hHt : decide (H < 18446744073709551614) = false := decide_eq_false (Int.not_lt.2 (near_top HLM.out HI.out hR))
            clear hR
            go_wp2_with fail
            exact ⟨⟨k + 1, H, rd, n0, n1, n2, by omega, HLM.out, by go_num, rfl, a0, a2, hI2.out, hG.out.alloc (by omega) _, by simp; omega, heap_alloc_old hx.out _, heap_alloc_old hc.out _⟩, by simp [intOf]; omega⟩
          · obtain ⟨hI2, hs1⟩ := near_tick HLM.out HI.out hR
            have HI2 := Lib.hid hI2
            clear hI2 hR
            rcases Int.lt_or_le H s0 with hsH | hsH
            · obtain rfl : s0 = H + 1 := by omega
              have hw1 : IntKind.u64.wrap (H + 1 - H) = 1 := by rw [show H + 1 - H = 1 by omega]; decide
              go_wp2_with fail
              exact ⟨⟨k + 1, H, rd, n0, n1, n2, by omega, HLM.out, by go_num, rfl, a0, a2, HI2.out, hG.out.alloc (by omega) _, by simp; omega, heap_alloc_old hx.out _, heap_alloc_old hc.out _⟩, by simp [intOf]; omega⟩
            · have hd : decide (H < s0) = false := decide_eq_false (Int.not_lt.2 hsH)
              clear hsH hs1
              go_wp2_with fail
              exact ⟨⟨k + 1, H, rd, n0, n1, n2, by omega, HLM.out, by go_num, rfl, a0, a2, HI2.out, hG.out.alloc (by omega) _, by simp; omega, heap_alloc_old hx.out _, heap_alloc_old hc.out _⟩, by simp [intOf]; omega⟩
      · have q2 : ((f k).kind == 2) = false := by rw [beq_iff_eq] at q1; rw [q1]; rfl
        go_wp2_with fail
        have hx := Lib.hid (heap_alloc_old hX.out (stepO (f k)))
        have hc := Lib.hid (heap_alloc_old hC.out (stepO (f k)))
        have ht := Lib.hid (heap_alloc_at wr (stepO (f k)))
        have hG := Lib.hid (HB.out.alloc (by omega) (stepO (f k)))
        have hsz : wr.heap.size < (wr.alloc (stepO (f k))).heap.size := by simp
        clear hX hC HB x0 x1 x2 x3 d0 d1 d2 d3 d4
        refine (read_any (w.heap.size + 1) win ceil node rd l0 l1 l2 (f k).wall _ hc.out).mono ?_
        rintro e w2 ⟨rfl, hg, hkc⟩
        have hsg := hg.size
        have hx' := Lib.hid (gb_heap hg hx.out (by omega))
        have ht' := Lib.hid (gb_heap hg ht.out (by omega))
        have hG' := Lib.hid (below_gb hG.out hg (by omega) (by simp; omega))
        have hc' := Lib.hid hkc
        clear hg hx hc ht hG hkc
        obtain ⟨hx, ht, hG, hc⟩ := And.intro hx' (And.intro ht' (And.intro hG' hc'))
        clear hx' ht' hG' hc'
        have hsz : wr.heap.size < w2.heap.size := by omega
        obtain ⟨t0, t1, _, _, _⟩ := step_cells ht.out
        rcases Int.lt_or_le H (f k).wall with hlw | hlw
        · go_wp2_with fail
          exact ⟨⟨k + 1, (f k).wall, (f k).wall, l0, l1, l2, by omega, HLM.out, by go_num, rfl, g0, g2, near_read HI.out e0' hlw, hG.out, by omega, hx.out, hc.out⟩, by simp [intOf]; omega⟩
        · have hd : decide (H < (f k).wall) = false := decide_eq_false (Int.not_lt.2 hlw)
          have HLW := Lib.hid hlw
          clear hlw
          go_wp2_with fail
          exact ⟨⟨k + 1, H, (f k).wall, l0, l1, l2, by omega, HLM.out, by go_num, rfl, g0, g2, near_read' HI.out HLW.out, hG.out, by omega, hx.out, hc.out⟩, by simp [intOf]; omega⟩
    · have hcl : decide (ceil ≤ l0) = true := decide_eq_true HI.out.1
      have hE : l0 ≤ H ∨ l0 = H + 1 := HI.out.2.2.2.2.2.2.2.imp id And.left
      clear hB hk2
      by_cases hlt2 : k < n
      · have hlm : ((k : Int) < 1048576) = False := eq_false (by omega)
        have hlm2 : decide ((k : Int) < 1048576) = false := decide_eq_false (by omega)
        clear hlt
        go_wp2_with fail
        refine (last_any (w.heap.size + 1) win ceil node rd l0 l1 l2 _ hC.out).mono ?_
        rintro e w3 ⟨rfl, hb3⟩
        have hs3 := hb3.size
        have hX3 := Lib.hid (below_heap hb3 hX.out (by omega))
        have hG3 := Lib.hid (HB.out.trans (hb3.mono (by omega)))
        clear hb3 hX x0 x1 x2 x3
        obtain ⟨x0, x1, x2, x3⟩ := life_cells hX3.out
        have hx3 : w.heap.size < w3.heap.size := by omega
        rcases hE with hE | rfl
        · have hd2 : decide (l0 ≤ H) = true := decide_eq_true hE
          clear hE
          go_wp2_with fail
          go_ret
          exact ⟨rfl, hG3.out.alloc (by omega) _⟩
        · have hd2 : decide (H + 1 ≤ H) = false := decide_eq_false (by omega)
          have hw1 : IntKind.u64.wrap (H + 1 - H) = 1 := by rw [show H + 1 - H = 1 by omega]; decide
          go_wp2_with fail
          go_ret
          exact ⟨rfl, hG3.out.alloc (by omega) _⟩
      · clear hlt
        go_wp2_with fail
        refine (last_any (w.heap.size + 1) win ceil node rd l0 l1 l2 _ hC.out).mono ?_
        rintro e w3 ⟨rfl, hb3⟩
        have hs3 := hb3.size
        have hX3 := Lib.hid (below_heap hb3 hX.out (by omega))
        have hG3 := Lib.hid (HB.out.trans (hb3.mono (by omega)))
        clear hb3 hX x0 x1 x2 x3
        obtain ⟨x0, x1, x2, x3⟩ := life_cells hX3.out
        have hx3 : w.heap.size < w3.heap.size := by omega
        rcases hE with hE | rfl
        · have hd2 : decide (l0 ≤ H) = true := decide_eq_true hE
          clear hE
          go_wp2_with fail
          go_ret
          exact ⟨rfl, hG3.out.alloc (by omega) _⟩
        · have hd2 : decide (H + 1 ≤ H) = false := decide_eq_false (by omega)
          have hw1 : IntKind.u64.wrap (H + 1 - H) = 1 := by rw [show H + 1 - H = 1 by omega]; decide
          go_wp2_with fail
          go_ret
          exact ⟨rfl, hG3.out.alloc (by omega) _⟩

end Go.Proofs.Ytlgkolmlcbfppaa
