/- tidemarklaw2.ClockReserves: the walk: it answers true at every Life, and turns nothing that was there. -/
import Derived.Test.YtlgkolmlcbfppaaCrash
namespace Go.Proofs.Ytlgkolmlcbfppaa
open Go.RowKit

theorem book_read {kept rd l0 l1 l2 u0 u1 u2 x : Int} (h : BookI kept rd l0 l1 l2 u0 u1 u2) (hx : x ≤ topW) : BookI kept x l0 l1 l2 u0 u1 u2 := by
  obtain ⟨g0, g0', g1, g1', g2, gr, gk, gk', gu, gl⟩ := h
  exact ⟨g0, g0', g1, g1', g2, hx, gk, gk', gu, gl⟩
theorem book_crash {kept rd l0 l1 l2 u0 u1 u2 : Int} (h : BookI kept rd l0 l1 l2 u0 u1 u2) : BookI kept 0 kept 0 0 u0 u1 u2 := by
  obtain ⟨g0, g0', g1, g1', g2, gr, gk, gk', gu, gl⟩ := h
  refine ⟨gk, gk', Int.le_refl _, by decide, Int.le_refl _, by decide, gk, gk', gu, ?_⟩
  rw [ltB_not]; omega
theorem book_obs {kept rd l0 l1 l2 u0 u1 u2 s0 s1 s2 : Int} {m : St} (h : BookI kept rd l0 l1 l2 u0 u1 u2) (e0 : 0 ≤ s0) (e0' : s0 ≤ topW) (e1 : 0 ≤ s1) (e1' : s1 ≤ topL) (e2 : 0 ≤ s2) (hm : m = max2 ⟨l0, l1, l2⟩ ⟨s0, s1, s2⟩) :
    BookI kept rd m.w m.l m.n u0 u1 u2 ∧ ltB m.w m.l m.n s0 s1 s2 = false := by
  obtain ⟨g0, g0', g1, g1', g2, gr, gk, gk', gu, gl⟩ := h
  cases hL : ltB l0 l1 l2 s0 s1 s2
  · obtain ⟨a, b, c⟩ := max2_no g0 g1 g2 hL hm
    rw [a, b, c]
    exact ⟨⟨g0, g0', g1, g1', g2, gr, gk, gk', gu, gl⟩, hL⟩
  · obtain ⟨a, b, c⟩ := max2_yes g0 g1 g2 hL hm
    rw [a, b, c]
    refine ⟨⟨e0, e0', e1, e1', e2, gr, gk, gk', gu, ?_⟩, ltB_self _ _ _⟩
    rw [ltB_not] at gl ⊢
    rw [ltB_iff] at hL
    omega

/-- Where ClockReserves stands at a round's head. -/
def ResRel (w : World) (node win ceil : Int) (p : Option Addr) (n cap bb : Nat) (cv okv i : Value) (wr : World) : Prop :=
  ∃ (k cb : Nat) (kept rd l0 l1 l2 u0 u1 u2 : Int), k ≤ n ∧ cv = .pointer (some ⟨cb, 0, none⟩) ∧ okv = .bool true ∧ i = .int .i64 k ∧ w.heap.size < cb ∧ bb ≠ cb ∧ BookI kept rd l0 l1 l2 u0 u1 u2 ∧
    Below w.heap.size w wr ∧ wr.heap[w.heap.size]? = some (lifeO node win ceil p n cap) ∧ wr.heap[bb]? = some (bookO kept u0 u1 u2 true) ∧ wr.heap[cb]? = some (clkO win kept node rd l0 l1 l2)

set_option maxRecDepth 100000 in
set_option maxHeartbeats 4000000 in
theorem clockReserves_any (node win ceil : Int) (p : Option Addr) (n cap : Nat) (f : Nat → Stp) (w : World) (hn : n ≤ 9223372036854775807)
    (hst : StepsAt w p n f) (hnode : 0 ≤ node) (hw : 0 ≤ win) :
    Calls Try.prog 10 #[.agg #[.int .u32 node, .int .u64 win, .int .u64 ceil, .slice p n cap]] w fun e w' => e = .returned (.bool true) ∧ Below w.heap.size w w' := by
  have HST := Lib.hid hst
  clear hst
  go_enter Try.func10, Try.ntmps10
  go_wp2_with fail
  with_reducible refine (new_any node win _).mono ?_
  rintro e w1 ⟨rfl, hb1, hs1, hk1⟩
  rw [World.size_alloc] at hs1 hk1
  have hx1 := Lib.hid (below_heap hb1 (heap_alloc_at w (lifeO node win ceil p n cap)) (by simp))
  have hB1 := Lib.hid (((Below.refl _ _).alloc (Nat.le_refl _) _).trans (hb1.mono (Nat.le_of_lt (by simp))))
  have hK1 := Lib.hid hk1
  have hlt1 : w.heap.size + 1 < w1.heap.size := by omega
  clear hb1 hk1 hs1
  have hx0 : w.heap.size < w1.heap.size := by omega
  obtain ⟨x0, x1, x2, x3⟩ := life_cells hx1.out
  go_wp2_with fail
  refine (begun_any w1.heap.size (w.heap.size + 1) win node ceil p n cap _ (by omega) (heap_alloc_at w1 _) (heap_alloc_old hK1.out _) hnode hw).mono ?_
  rintro e w2 ⟨kept, l0, l1, l2, u0, u1, u2, rfl, hI2, hT2, hb2, hc2⟩
  have hX2 := Lib.hid (two_heap hT2 (heap_alloc_old hx1.out _) (by omega) (by omega))
  have hB2 := Lib.hid (below_two (hB1.out.alloc (by omega) _) hT2 (by omega) (by omega) (by simp; omega))
  have HI2 := Lib.hid hI2
  have HB2 := Lib.hid hb2
  have HC2 := Lib.hid hc2
  have hsz2 := hT2.size
  rw [World.size_alloc] at hsz2
  clear hI2 hT2 hb2 hc2 hx1 hB1 hK1 x0 x1 x2 x3
  generalize w1.heap.size = bb at *
  obtain ⟨x0, x1, x2, x3⟩ := life_cells hX2.out
  go_wp2_with fail
  go_loopw [3, 5, 6] (ResRel w node win ceil p n cap bb) (fun _ _ i _ => n - (intOf i).toNat)
  case atStart => exact ⟨0, _, kept, 5, l0, l1, l2, u0, u1, u2, Nat.zero_le _, rfl, rfl, rfl, by omega, by omega, HI2.out, hB2.out, hX2.out, HB2.out, HC2.out⟩
  case round =>
    clear x0 x1 x2 x3 hX2 hB2 HI2 HB2 HC2 hsz2 kept l0 l1 l2 u0 u1 u2
    obtain ⟨k, cb, kept, rd, l0, l1, l2, u0, u1, u2, hk, rfl, rfl, rfl, hcb, hne, hI, hB, hx, hb, hc⟩ := hrel
    have HI := Lib.hid hI
    have hX := Lib.hid hx
    have hBk := Lib.hid hb
    have hC := Lib.hid hc
    have HB := Lib.hid hB
    have hbl := lt_of_heap hb
    have hcl := lt_of_heap hc
    obtain ⟨x0, x1, x2, x3⟩ := life_cells hx
    have hx0 : w.heap.size < wr.heap.size := by omega
    clear hx hb hc hI
    by_cases hlt : k < n
    · obtain ⟨b, off, rfl, hbl2, d0, d1, d2, d3, d4, e0, e0', e1, e1', e2, e2', e3⟩ := HST.out k hlt
      rw [← hB.cell (by simpa using hbl2)] at d0 d1 d2 d3 d4
      have hbr : b < wr.heap.size := by omega
      clear hB
      cases q1 : ((f k).kind == 1)
      · cases q2 : ((f k).kind == 2)
        · cases q5 : ((f k).kind == 5)
          · cases q3 : ((f k).kind == 3)
            · cases q4 : ((f k).kind == 4)
              · go_wp2_with fail
                have hx := Lib.hid (heap_alloc_old hX.out (stepO (f k)))
                have hb := Lib.hid (heap_alloc_old hBk.out (stepO (f k)))
                have hc := Lib.hid (heap_alloc_old hC.out (stepO (f k)))
                have ht := Lib.hid (heap_alloc_at wr (stepO (f k)))
                have hG := Lib.hid (HB.out.alloc (by omega) (stepO (f k)))
                have hsz : wr.heap.size < (wr.alloc (stepO (f k))).heap.size := by simp
                clear hX hBk hC HB x0 x1 x2 x3 d0 d1 d2 d3 d4
                exact ⟨⟨k + 1, cb, kept, rd, l0, l1, l2, u0, u1, u2, by omega, rfl, rfl, by go_num, hcb, hne, HI.out, hG.out, hx.out, hb.out, hc.out⟩, by simp [intOf]; omega⟩
              · go_wp2_with fail
                have hx := Lib.hid (heap_alloc_old hX.out (stepO (f k)))
                have hb := Lib.hid (heap_alloc_old hBk.out (stepO (f k)))
                have hc := Lib.hid (heap_alloc_old hC.out (stepO (f k)))
                have ht := Lib.hid (heap_alloc_at wr (stepO (f k)))
                have hG := Lib.hid (HB.out.alloc (by omega) (stepO (f k)))
                have hsz : wr.heap.size < (wr.alloc (stepO (f k))).heap.size := by simp
                clear hX hBk hC HB x0 x1 x2 x3 d0 d1 d2 d3 d4
                obtain ⟨i0, i1, i2, i3, i4, i5, i6, i7, i8, i9⟩ := HI.out
                refine (crash_any bb win kept node ceil u0 u1 u2 (some ⟨b, off, none⟩) n cap _ hb.out i8).mono ?_
                rintro e w2 ⟨c', hcg, rfl, hb2, hbk, hck⟩
                rw [World.size_alloc] at hcg
                have hx' := Lib.hid (below_heap hb2 hx.out (by omega))
                have hG' := Lib.hid (hG.out.trans (hb2.mono (by omega)))
                have hb' := Lib.hid hbk
                have hc' := Lib.hid hck
                have hcb' : w.heap.size < c' := by omega
                have hne' : bb ≠ c' := by omega
                clear hb2 hbk hck hx hb hc hG ht i0 i1 i2 i3 i4 i5 i6 i7 i8 i9
                go_wp2_with fail
                exact ⟨⟨k + 1, c', kept, 0, kept, 0, 0, u0, u1, u2, by omega, rfl, rfl, by go_num, hcb', hne', book_crash HI.out, hG'.out, hx'.out, hb'.out, hc'.out⟩, by simp [intOf]; omega⟩
            · cases qt : ((f k).s0 == 18446744073709551615)
              · have HQ := Lib.hid qt
                clear qt
                go_wp2_with fail
                have hx := Lib.hid (heap_alloc_old hX.out (stepO (f k)))
                have hb := Lib.hid (heap_alloc_old hBk.out (stepO (f k)))
                have hc := Lib.hid (heap_alloc_old hC.out (stepO (f k)))
                have ht := Lib.hid (heap_alloc_at wr (stepO (f k)))
                have hG := Lib.hid (HB.out.alloc (by omega) (stepO (f k)))
                have hsz : wr.heap.size < (wr.alloc (stepO (f k))).heap.size := by simp
                clear hX hBk hC HB x0 x1 x2 x3 d0 d1 d2 d3 d4
                refine (observe_ok cb win kept node rd l0 l1 l2 (f k).s0 (f k).s1 (f k).s2 _ hc.out HQ.out).mono ?_
                rintro e w2 ⟨m, hm, rfl, hg, hkc⟩
                have hsg := hg.size
                have hx' := Lib.hid (gb_heap hg hx.out (by omega))
                have hb' := Lib.hid (gb_heap hg hb.out hne)
                have ht' := Lib.hid (gb_heap hg ht.out (by omega))
                have hG' := Lib.hid (below_gb hG.out hg (by omega) (by simp; omega))
                have hc' := Lib.hid hkc
                obtain ⟨hI2, hL⟩ := book_obs HI.out e1 e1' e2 e2' e3 hm
                have HI2 := Lib.hid hI2
                have HL := Lib.hid hL
                clear hg hkc hm hI2 hL hx hb hc hG ht
                obtain ⟨t0, t1, t2, t3, t4⟩ := step_cells ht'.out
                have hsz2 : wr.heap.size < w2.heap.size := by omega
                go_wp2_with fail
                have gk' := HI2.out.2.2.2.2.2.2.2.1
                refine (use_any bb cb win kept node rd m.w m.l m.n (f k).s0 (f k).s1 (f k).s2 u0 u1 u2 _ hne hb'.out hc'.out (lt_topW e1' HQ.out) e1 hw gk').mono ?_
                rintro e w5 ⟨kept', v0, v1, v2, rfl, hU, hT5, hb5, hc5⟩
                have HI5 := Lib.hid (used_ok HI2.out HL.out hU)
                have hx5 := Lib.hid (two_heap hT5 hx'.out (by omega) (by omega))
                have hG5 := Lib.hid (below_two hG'.out hT5 (by omega) (by omega) (by omega))
                have HB5 := Lib.hid hb5
                have HC5 := Lib.hid hc5
                clear hU hT5 hb5 hc5 gk' hx' hb' ht' hG' hc' t0 t1 t2 t3 t4
                go_wp2_with fail
                exact ⟨⟨k + 1, cb, kept', rd, m.w, m.l, m.n, v0, v1, v2, by omega, rfl, rfl, by go_num, hcb, hne, HI5.out, hG5.out, hx5.out, HB5.out, HC5.out⟩, by simp [intOf]; omega⟩
              · have HQ := Lib.hid qt
                clear qt
                go_wp2_with fail
                have hx := Lib.hid (heap_alloc_old hX.out (stepO (f k)))
                have hb := Lib.hid (heap_alloc_old hBk.out (stepO (f k)))
                have hc := Lib.hid (heap_alloc_old hC.out (stepO (f k)))
                have ht := Lib.hid (heap_alloc_at wr (stepO (f k)))
                have hG := Lib.hid (HB.out.alloc (by omega) (stepO (f k)))
                have hsz : wr.heap.size < (wr.alloc (stepO (f k))).heap.size := by simp
                clear hX hBk hC HB x0 x1 x2 x3 d0 d1 d2 d3 d4
                refine (observe_top cb win kept node rd l0 l1 l2 (f k).s0 (f k).s1 (f k).s2 _ hc.out HQ.out).mono ?_
                rintro e w2 ⟨rfl, hb2⟩
                have hx' := Lib.hid (below_heap hb2 hx.out (by omega))
                have hb' := Lib.hid (below_heap hb2 hb.out (by omega))
                have hc' := Lib.hid (below_heap hb2 hc.out (by omega))
                have hG' := Lib.hid (hG.out.trans (hb2.mono (by omega)))
                clear hb2 hx hb hc hG ht
                go_wp2_with fail
                exact ⟨⟨k + 1, cb, kept, rd, l0, l1, l2, u0, u1, u2, by omega, rfl, rfl, by go_num, hcb, hne, HI.out, hG'.out, hx'.out, hb'.out, hc'.out⟩, by simp [intOf]; omega⟩
          · go_wp2_with fail
            have hx := Lib.hid (heap_alloc_old hX.out (stepO (f k)))
            have hb := Lib.hid (heap_alloc_old hBk.out (stepO (f k)))
            have hc := Lib.hid (heap_alloc_old hC.out (stepO (f k)))
            have ht := Lib.hid (heap_alloc_at wr (stepO (f k)))
            have hG := Lib.hid (HB.out.alloc (by omega) (stepO (f k)))
            have hsz : wr.heap.size < (wr.alloc (stepO (f k))).heap.size := by simp
            clear hX hBk hC HB x0 x1 x2 x3 d0 d1 d2 d3 d4
            refine (ticked_any bb cb win kept node rd l0 l1 l2 u0 u1 u2 false _ hne hb.out hc.out HI.out hnode hw).mono ?_
            rintro e w2 ⟨kept', n0, n1, n2, v0, v1, v2, rfl, hI2, hT2, hb2, hc2⟩
            have hx' := Lib.hid (two_heap hT2 hx.out (by omega) (by omega))
            have hG' := Lib.hid (below_two hG.out hT2 (by omega) (by omega) (by simp; omega))
            have hb' := Lib.hid hb2
            have hc' := Lib.hid hc2
            have HI2 := Lib.hid hI2
            clear hT2 hb2 hc2 hI2 hx hb hc hG ht
            go_wp2_with fail
            exact ⟨⟨k + 1, cb, kept', rd, n0, n1, n2, v0, v1, v2, by omega, rfl, rfl, by go_num, hcb, hne, HI2.out, hG'.out, hx'.out, hb'.out, hc'.out⟩, by simp [intOf]; omega⟩
        · go_wp2_with fail
          have hx := Lib.hid (heap_alloc_old hX.out (stepO (f k)))
          have hb := Lib.hid (heap_alloc_old hBk.out (stepO (f k)))
          have hc := Lib.hid (heap_alloc_old hC.out (stepO (f k)))
          have ht := Lib.hid (heap_alloc_at wr (stepO (f k)))
          have hG := Lib.hid (HB.out.alloc (by omega) (stepO (f k)))
          have hsz : wr.heap.size < (wr.alloc (stepO (f k))).heap.size := by simp
          clear hX hBk hC HB x0 x1 x2 x3 d0 d1 d2 d3 d4
          refine (ticked_any bb cb win kept node rd l0 l1 l2 u0 u1 u2 true _ hne hb.out hc.out HI.out hnode hw).mono ?_
          rintro e w2 ⟨kept', n0, n1, n2, v0, v1, v2, rfl, hI2, hT2, hb2, hc2⟩
          have hx' := Lib.hid (two_heap hT2 hx.out (by omega) (by omega))
          have hG' := Lib.hid (below_two hG.out hT2 (by omega) (by omega) (by simp; omega))
          have hb' := Lib.hid hb2
          have hc' := Lib.hid hc2
          have HI2 := Lib.hid hI2
          clear hT2 hb2 hc2 hI2 hx hb hc hG ht
          go_wp2_with fail
          exact ⟨⟨k + 1, cb, kept', rd, n0, n1, n2, v0, v1, v2, by omega, rfl, rfl, by go_num, hcb, hne, HI2.out, hG'.out, hx'.out, hb'.out, hc'.out⟩, by simp [intOf]; omega⟩
      · go_wp2_with fail
        have hx := Lib.hid (heap_alloc_old hX.out (stepO (f k)))
        have hb := Lib.hid (heap_alloc_old hBk.out (stepO (f k)))
        have hc := Lib.hid (heap_alloc_old hC.out (stepO (f k)))
        have ht := Lib.hid (heap_alloc_at wr (stepO (f k)))
        have hG := Lib.hid (HB.out.alloc (by omega) (stepO (f k)))
        have hsz : wr.heap.size < (wr.alloc (stepO (f k))).heap.size := by simp
        clear hX hBk hC HB x0 x1 x2 x3 d0 d1 d2 d3 d4
        refine (read_any cb win kept node rd l0 l1 l2 (f k).wall _ hc.out).mono ?_
        rintro e w2 ⟨rfl, hg, hkc⟩
        have hx' := Lib.hid (gb_heap hg hx.out (by omega))
        have hb' := Lib.hid (gb_heap hg hb.out hne)
        have hG' := Lib.hid (below_gb hG.out hg (by omega) (by simp; omega))
        have hc' := Lib.hid hkc
        clear hg hkc hx hb hc hG ht
        go_wp2_with fail
        exact ⟨⟨k + 1, cb, kept, (f k).wall, l0, l1, l2, u0, u1, u2, by omega, rfl, rfl, by go_num, hcb, hne, book_read HI.out e0', hG'.out, hx'.out, hb'.out, hc'.out⟩, by simp [intOf]; omega⟩
    · obtain rfl : k = n := by omega
      go_wp2_with fail
      refine (crash_any bb win kept node ceil u0 u1 u2 p k cap _ hBk.out HI.out.2.2.2.2.2.2.2.2.1).mono ?_
      rintro e w2 ⟨c', hcg, rfl, hb2, hbk, hck⟩
      have hG' := Lib.hid (HB.out.trans (hb2.mono (by omega)))
      clear hb2 hbk hck
      go_wp2_with fail
      go_ret
      exact ⟨rfl, hG'.out⟩

end Go.Proofs.Ytlgkolmlcbfppaa
