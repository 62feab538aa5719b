/- tidemarklaw2.ClockRises: the walk: it answers true at every Life, and turns nothing that was there. -/
import Derived.Test.YtlgkolmlcbfppaaLife
namespace Go.Proofs.Ytlgkolmlcbfppaa
open Go.RowKit

/-- Where ClockRises stands at a round's head. -/
def RisesRel (w : World) (node win ceil : Int) (p : Option Addr) (n cap hb : Nat) (r i : Value) (wr : World) : Prop :=
  ∃ (k : Nat) (rd l0 l1 l2 : Int), k ≤ n ∧ i = .int .i64 k ∧ r = .int .u64 rd ∧ 0 ≤ l0 ∧ l0 ≤ topW ∧ 0 ≤ l1 ∧ l1 ≤ topL ∧ 0 ≤ l2 ∧ rd ≤ topW ∧ Below w.heap.size w wr ∧ hb < wr.heap.size ∧
    wr.heap[w.heap.size]? = some (lifeO node win ceil p n cap) ∧ wr.heap[w.heap.size + 1]? = some (clkO win ceil node rd l0 l1 l2) ∧ wr.heap[hb]? = some (stO l0 l1 l2)

set_option maxRecDepth 100000 in
set_option maxHeartbeats 2000000 in
theorem clockRises_any (node win ceil : Int) (p : Option Addr) (n cap : Nat) (f : Nat → Stp) (w : World) (hn : n ≤ 9223372036854775807)
    (hst : StepsAt w p n f) (hnode : 0 ≤ node) (hc0 : 0 ≤ ceil) (hc1 : ceil ≤ topW) :
    Calls Try.prog 4 #[.agg #[.int .u32 node, .int .u64 win, .int .u64 ceil, .slice p n cap]] w fun e w' => e = .returned (.bool true) ∧ Below w.heap.size w w' := by
  have HST := Lib.hid hst
  clear hst
  go_enter Try.func4, Try.ntmps4
  go_wp2_with fail
  with_reducible refine (reopen_any node win ceil _).mono ?_
  rintro e w1 ⟨rfl, hb1, hs1, hk1⟩
  rw [World.size_alloc] at hs1 hk1
  have hx1 := Lib.hid (below_heap hb1 (heap_alloc_at w (lifeO node win ceil p n cap)) (by simp))
  have hB1 := Lib.hid (((Below.refl _ _).alloc (Nat.le_refl _) _).trans (hb1.mono (Nat.le_of_lt (by simp))))
  obtain ⟨x0, x1, x2, x3⟩ := life_cells hx1.out
  have hK1 := Lib.hid hk1
  have hlt1 : w.heap.size + 1 < w1.heap.size := by omega
  clear hb1 hk1 hs1
  go_wp2_with fail
  go_loopw [5, 6] (RisesRel w node win ceil p n cap w1.heap.size) (fun _ i _ => n - (intOf i).toNat)
  case atStart => exact ⟨0, 0, ceil, 0, 0, Nat.zero_le _, rfl, rfl, hc0, hc1, Int.le_refl _, by decide, Int.le_refl _, by decide, hB1.out.alloc (by omega) _, by simp, heap_alloc_old hx1.out _, heap_alloc_old hK1.out _, heap_alloc_at w1 _⟩
  case round =>
    clear x0 x1 x2 x3 hx1 hB1 hK1
    generalize w1.heap.size = hb at *
    obtain ⟨k, rd, l0, l1, l2, hk, rfl, rfl, g0, g0', g1, g1', g2, gr, hB, hs, hx, hc, hh⟩ := hrel
    have hX := Lib.hid hx
    have hC := Lib.hid hc
    have hH := Lib.hid hh
    have HB := Lib.hid hB
    obtain ⟨x0, x1, x2, x3⟩ := life_cells hx
    clear hx hc hh
    by_cases hlt : k < n
    · obtain ⟨b, off, rfl, hbl, d0, d1, d2, d3, d4, e0, e0', e1, e1', e2, e2', e3⟩ := HST.out k hlt
      rw [← hB.cell (by simpa using hbl)] at d0 d1 d2 d3 d4
      have hbr : b < wr.heap.size := by omega
      clear hB
      have hx0 : w.heap.size < wr.heap.size := by omega
      cases q1 : ((f k).kind == 1)
      · cases q2 : ((f k).kind == 2)
        · cases q3 : ((f k).kind == 3)
          · go_wp2_with fail
            have hx := Lib.hid (heap_alloc_old hX.out (stepO (f k)))
            have hc := Lib.hid (heap_alloc_old hC.out (stepO (f k)))
            have hh := Lib.hid (heap_alloc_old hH.out (stepO (f k)))
            have ht := Lib.hid (heap_alloc_at wr (stepO (f k)))
            have hG := Lib.hid (HB.out.alloc (by omega) (stepO (f k)))
            have hsz : wr.heap.size < (wr.alloc (stepO (f k))).heap.size := by simp
            clear hX hC hH HB x0 x1 x2 x3 d0 d1 d2 d3 d4
            have HL := Lib.hid (ltB_self l0 l1 l2)
            refine (last_any (w.heap.size + 1) win ceil node rd l0 l1 l2 _ hc.out).mono ?_
            rintro e w3 ⟨rfl, hb3⟩
            have hs3 := hb3.size
            have hx3 := Lib.hid (below_heap hb3 hx.out (by omega))
            have hc3 := Lib.hid (below_heap hb3 hc.out (by omega))
            have hh3 := Lib.hid (below_heap hb3 hh.out (by omega))
            have ht3 := Lib.hid (below_heap hb3 ht.out hsz)
            have hG3 := Lib.hid (hG.out.trans (hb3.mono (by omega)))
            clear hb3 hx hc hh ht hG
            obtain ⟨m0, m1, m2⟩ := st_cells hh3.out
            obtain ⟨t0, _, _, _, _⟩ := step_cells ht3.out
            have hlt3 : hb < w3.heap.size := by omega
            have hlt4 : wr.heap.size < w3.heap.size := by omega
            go_wp2_with fail
            with_reducible refine (after_any _ _ _ l0 l1 l2 _).mono ?_
            rintro e w4 ⟨rfl, hb4⟩
            have hs4 := hb4.size
            rw [World.size_alloc] at hs4
            have hx4 := Lib.hid (below_heap hb4 (heap_alloc_old hx3.out _) (by simp; omega))
            have hc4 := Lib.hid (below_heap hb4 (heap_alloc_old hc3.out _) (by simp; omega))
            have hh4 := Lib.hid (below_heap hb4 (heap_alloc_old hh3.out _) (by simp; omega))
            have ht4 := Lib.hid (below_heap hb4 (heap_alloc_old ht3.out _) (by simp; omega))
            have hl4 := Lib.hid (below_heap hb4 (heap_alloc_at w3 (stO l0 l1 l2)) (by simp))
            have hG4 := Lib.hid (((hG3.out.alloc (by omega) _)).trans (hb4.mono (by simp; omega)))
            clear hb4 hx3 hc3 hh3 ht3 hG3 m0 m1 m2 t0
            obtain ⟨m0, m1, m2⟩ := st_cells hh4.out
            obtain ⟨n0', n1', n2'⟩ := st_cells hl4.out
            obtain ⟨t0, _, _, _, _⟩ := step_cells ht4.out
            have mf := st_free hh4.out
            have hz4 : hb < w4.heap.size := by omega
            rw [HL.out]
            have q2' : ((f k).kind != 2) = true := by rw [bne, q2]; rfl
            go_wp2_with fail
            exact ⟨⟨k + 1, rd, l0, l1, l2, by omega, by go_num, rfl, g0, g0', g1, g1', g2, gr, below_st3 hG4.out (by omega) _ _ _, by simpa using hz4, heap_st3 hx4.out (by omega) _ _ _, heap_st3 hc4.out (by omega) _ _ _, st_set3 hh4.out _ _ _⟩, by simp [intOf]; omega⟩
          · cases qt : ((f k).s0 == 18446744073709551615)
            · have HQ := Lib.hid qt
              clear qt
              go_wp2_with fail
              have qt := HQ.out
              have hx := Lib.hid (heap_alloc_old hX.out (stepO (f k)))
              have hc := Lib.hid (heap_alloc_old hC.out (stepO (f k)))
              have hh := Lib.hid (heap_alloc_old hH.out (stepO (f k)))
              have ht := Lib.hid (heap_alloc_at wr (stepO (f k)))
              have hG := Lib.hid (HB.out.alloc (by omega) (stepO (f k)))
              have hsz : wr.heap.size < (wr.alloc (stepO (f k))).heap.size := by simp
              clear hX hC hH HB x0 x1 x2 x3 d0 d1 d2 d3 d4
              refine (observe_ok (w.heap.size + 1) win ceil node rd l0 l1 l2 (f k).s0 (f k).s1 (f k).s2 _ hc.out qt).mono ?_
              rintro e w2 ⟨m, hm, rfl, hg, hkc⟩
              have hne : ((f k).s0 != 18446744073709551615) = true := by rw [bne, qt]; rfl
              have hsg := hg.size
              have hx' := Lib.hid (gb_heap hg hx.out (by omega))
              have hh' := Lib.hid (gb_heap hg hh.out (by omega))
              have ht' := Lib.hid (gb_heap hg ht.out (by omega))
              have hG' := Lib.hid (below_gb hG.out hg (by omega) (by simp; omega))
              have hc' := Lib.hid hkc
              clear hg hx hc hh ht hG hkc
              obtain ⟨hx, hh, ht, hG, hc⟩ := And.intro hx' (And.intro hh' (And.intro ht' (And.intro hG' hc')))
              clear hx' hh' ht' hG' hc'
              have hsz : wr.heap.size < w2.heap.size := by omega
              obtain ⟨t0, t1, t2, t3, t4⟩ := step_cells ht.out
              obtain ⟨m0, m1, m2⟩ := st_cells hh.out
              have hhz : hb < w2.heap.size := by omega
              go_wp2_with fail
              refine (after_any (f k).s0 (f k).s1 (f k).s2 l0 l1 l2 _).mono ?_
              rintro e w5 ⟨rfl, hb5⟩
              clear m0 m1 m2 t0 t1 t2 t3 t4
              have hsg5 := hb5.size
              have hx' := Lib.hid (below_heap hb5 hx.out (by omega))
              have hh' := Lib.hid (below_heap hb5 hh.out (by omega))
              have ht' := Lib.hid (below_heap hb5 ht.out (by omega))
              have hc' := Lib.hid (below_heap hb5 hc.out (by omega))
              have hG' := Lib.hid (hG.out.trans (hb5.mono (by omega)))
              clear hb5 hx hc hh ht hG
              obtain ⟨hx, hh, ht, hG, hc⟩ := And.intro hx' (And.intro hh' (And.intro ht' (And.intro hG' hc')))
              clear hx' hh' ht' hG' hc'
              have hsz : wr.heap.size < w5.heap.size := by omega
              obtain ⟨t0, t1, t2, t3, t4⟩ := step_cells ht.out
              obtain ⟨m0, m1, m2⟩ := st_cells hh.out
              have mf := st_free hh.out
              have hhz5 : hb < w5.heap.size := by omega
              cases hL : ltB l0 l1 l2 (f k).s0 (f k).s1 (f k).s2
              · obtain ⟨rfl, rfl, rfl⟩ := max2_no g0 g1 g2 hL hm
                have HL := Lib.hid (ltB_self m.w m.l m.n)
                clear hm hL
                go_wp2_with fail
                refine (last_any (w.heap.size + 1) win ceil node rd m.w m.l m.n _ hc.out).mono ?_
                rintro e w3 ⟨rfl, hb3⟩
                have hs3 := hb3.size
                have hx3 := Lib.hid (below_heap hb3 hx.out (by omega))
                have hc3 := Lib.hid (below_heap hb3 hc.out (by omega))
                have hh3 := Lib.hid (below_heap hb3 hh.out (by omega))
                have ht3 := Lib.hid (below_heap hb3 ht.out hsz)
                have hG3 := Lib.hid (hG.out.trans (hb3.mono (by omega)))
                clear hb3 hx hc hh ht hG
                obtain ⟨m0, m1, m2⟩ := st_cells hh3.out
                obtain ⟨t0, _, _, _, _⟩ := step_cells ht3.out
                have hlt3 : hb < w3.heap.size := by omega
                have hlt4 : wr.heap.size < w3.heap.size := by omega
                go_wp2_with fail
                with_reducible refine (after_any _ _ _ m.w m.l m.n _).mono ?_
                rintro e w4 ⟨rfl, hb4⟩
                have hs4 := hb4.size
                rw [World.size_alloc] at hs4
                have hx4 := Lib.hid (below_heap hb4 (heap_alloc_old hx3.out _) (by simp; omega))
                have hc4 := Lib.hid (below_heap hb4 (heap_alloc_old hc3.out _) (by simp; omega))
                have hh4 := Lib.hid (below_heap hb4 (heap_alloc_old hh3.out _) (by simp; omega))
                have ht4 := Lib.hid (below_heap hb4 (heap_alloc_old ht3.out _) (by simp; omega))
                have hl4 := Lib.hid (below_heap hb4 (heap_alloc_at w3 (stO m.w m.l m.n)) (by simp))
                have hG4 := Lib.hid (((hG3.out.alloc (by omega) _)).trans (hb4.mono (by simp; omega)))
                clear hb4 hx3 hc3 hh3 ht3 hG3 m0 m1 m2 t0
                obtain ⟨m0, m1, m2⟩ := st_cells hh4.out
                obtain ⟨n0', n1', n2'⟩ := st_cells hl4.out
                obtain ⟨t0, _, _, _, _⟩ := step_cells ht4.out
                have mf := st_free hh4.out
                have hz4 : hb < w4.heap.size := by omega
                rw [HL.out]
                have q2' : ((f k).kind != 2) = true := by rw [bne, q2]; rfl
                go_wp2_with fail
                exact ⟨⟨k + 1, rd, m.w, m.l, m.n, by omega, by go_num, rfl, g0, g0', g1, g1', g2, gr, below_st3 hG4.out (by omega) _ _ _, by simpa using hz4, heap_st3 hx4.out (by omega) _ _ _, heap_st3 hc4.out (by omega) _ _ _, st_set3 hh4.out _ _ _⟩, by simp [intOf]; omega⟩
              · obtain ⟨e4, e5, e6⟩ := max2_yes g0 g1 g2 hL hm
                have HL := Lib.hid (ltB_self m.w m.l m.n)
                rw [← e4] at t2 e1 e1'
                rw [← e5] at t3 e2 e2'
                rw [← e6] at t4 e3
                clear hm hL e4 e5 e6
                go_wp2_with fail
                have hh' := Lib.hid (st_set3 hh.out m.w m.l m.n)
                have hx' := Lib.hid (heap_st3 hx.out (show w.heap.size ≠ hb by omega) m.w m.l m.n)
                have hc' := Lib.hid (heap_st3 hc.out (show w.heap.size + 1 ≠ hb by omega) m.w m.l m.n)
                have ht' := Lib.hid (heap_st3 ht.out (show wr.heap.size ≠ hb by omega) m.w m.l m.n)
                have hG' := Lib.hid (below_st3 hG.out (show w.heap.size ≤ hb by omega) m.w m.l m.n)
                have hsz' : w5.heap.size = (((w5.setCell ⟨hb, 0, none⟩ (.int .u64 m.w)).setCell ⟨hb, 1, none⟩ (.int .u32 m.l)).setCell ⟨hb, 2, none⟩ (.int .u32 m.n)).heap.size := by simp
                clear hx hc hh ht hG m0 m1 m2 t0 t1 t2 t3 t4 mf
                generalize (((w5.setCell ⟨hb, 0, none⟩ (.int .u64 m.w)).setCell ⟨hb, 1, none⟩ (.int .u32 m.l)).setCell ⟨hb, 2, none⟩ (.int .u32 m.n)) = w6 at *
                obtain ⟨hx, hh, ht, hG, hc⟩ := And.intro hx' (And.intro hh' (And.intro ht' (And.intro hG' hc')))
                clear hx' hh' ht' hG' hc'
                have hsz : wr.heap.size < w6.heap.size := by omega
                clear hsz'
                refine (last_any (w.heap.size + 1) win ceil node rd m.w m.l m.n _ hc.out).mono ?_
                rintro e w3 ⟨rfl, hb3⟩
                have hs3 := hb3.size
                have hx3 := Lib.hid (below_heap hb3 hx.out (by omega))
                have hc3 := Lib.hid (below_heap hb3 hc.out (by omega))
                have hh3 := Lib.hid (below_heap hb3 hh.out (by omega))
                have ht3 := Lib.hid (below_heap hb3 ht.out hsz)
                have hG3 := Lib.hid (hG.out.trans (hb3.mono (by omega)))
                clear hb3 hx hc hh ht hG
                obtain ⟨m0, m1, m2⟩ := st_cells hh3.out
                obtain ⟨t0, _, _, _, _⟩ := step_cells ht3.out
                have hlt3 : hb < w3.heap.size := by omega
                have hlt4 : wr.heap.size < w3.heap.size := by omega
                go_wp2_with fail
                with_reducible refine (after_any _ _ _ m.w m.l m.n _).mono ?_
                rintro e w4 ⟨rfl, hb4⟩
                have hs4 := hb4.size
                rw [World.size_alloc] at hs4
                have hx4 := Lib.hid (below_heap hb4 (heap_alloc_old hx3.out _) (by simp; omega))
                have hc4 := Lib.hid (below_heap hb4 (heap_alloc_old hc3.out _) (by simp; omega))
                have hh4 := Lib.hid (below_heap hb4 (heap_alloc_old hh3.out _) (by simp; omega))
                have ht4 := Lib.hid (below_heap hb4 (heap_alloc_old ht3.out _) (by simp; omega))
                have hl4 := Lib.hid (below_heap hb4 (heap_alloc_at w3 (stO m.w m.l m.n)) (by simp))
                have hG4 := Lib.hid (((hG3.out.alloc (by omega) _)).trans (hb4.mono (by simp; omega)))
                clear hb4 hx3 hc3 hh3 ht3 hG3 m0 m1 m2 t0
                obtain ⟨m0, m1, m2⟩ := st_cells hh4.out
                obtain ⟨n0', n1', n2'⟩ := st_cells hl4.out
                obtain ⟨t0, _, _, _, _⟩ := step_cells ht4.out
                have mf := st_free hh4.out
                have hz4 : hb < w4.heap.size := by omega
                rw [HL.out]
                have q2' : ((f k).kind != 2) = true := by rw [bne, q2]; rfl
                go_wp2_with fail
                exact ⟨⟨k + 1, rd, m.w, m.l, m.n, by omega, by go_num, rfl, e1, e1', e2, e2', e3, gr, below_st3 hG4.out (by omega) _ _ _, by simpa using hz4, heap_st3 hx4.out (by omega) _ _ _, heap_st3 hc4.out (by omega) _ _ _, st_set3 hh4.out _ _ _⟩, by simp [intOf]; omega⟩
            · have HQ := Lib.hid qt
              clear qt
              go_wp2_with fail
              have qt := HQ.out
              have hx := Lib.hid (heap_alloc_old hX.out (stepO (f k)))
              have hc := Lib.hid (heap_alloc_old hC.out (stepO (f k)))
              have hh := Lib.hid (heap_alloc_old hH.out (stepO (f k)))
              have ht := Lib.hid (heap_alloc_at wr (stepO (f k)))
              have hG := Lib.hid (HB.out.alloc (by omega) (stepO (f k)))
              have hsz : wr.heap.size < (wr.alloc (stepO (f k))).heap.size := by simp
              clear hX hC hH HB x0 x1 x2 x3 d0 d1 d2 d3 d4
              refine (observe_top (w.heap.size + 1) win ceil node rd l0 l1 l2 (f k).s0 (f k).s1 (f k).s2 _ hc.out qt).mono ?_
              rintro e w2 ⟨rfl, hb5⟩
              have hne : ((f k).s0 != 18446744073709551615) = false := by rw [bne, qt]; rfl
              have hsg := hb5.size
              have hx' := Lib.hid (below_heap hb5 hx.out (by omega))
              have hh' := Lib.hid (below_heap hb5 hh.out (by omega))
              have ht' := Lib.hid (below_heap hb5 ht.out (by omega))
              have hc' := Lib.hid (below_heap hb5 hc.out (by omega))
              have hG' := Lib.hid (hG.out.trans (hb5.mono (by omega)))
              clear hb5 hx hc hh ht hG
              obtain ⟨hx, hh, ht, hG, hc⟩ := And.intro hx' (And.intro hh' (And.intro ht' (And.intro hG' hc')))
              clear hx' hh' ht' hG' hc'
              have hsz : wr.heap.size < w2.heap.size := by omega
              obtain ⟨t0, t1, t2, t3, t4⟩ := step_cells ht.out
              have HL := Lib.hid (ltB_self l0 l1 l2)
              go_wp2_with fail
              refine (last_any (w.heap.size + 1) win ceil node rd l0 l1 l2 _ hc.out).mono ?_
              rintro e w3 ⟨rfl, hb3⟩
              have hs3 := hb3.size
              have hx3 := Lib.hid (below_heap hb3 hx.out (by omega))
              have hc3 := Lib.hid (below_heap hb3 hc.out (by omega))
              have hh3 := Lib.hid (below_heap hb3 hh.out (by omega))
              have ht3 := Lib.hid (below_heap hb3 ht.out hsz)
              have hG3 := Lib.hid (hG.out.trans (hb3.mono (by omega)))
              clear hb3 hx hc hh ht hG
              obtain ⟨m0, m1, m2⟩ := st_cells hh3.out
              obtain ⟨t0, _, _, _, _⟩ := step_cells ht3.out
              have hlt3 : hb < w3.heap.size := by omega
              have hlt4 : wr.heap.size < w3.heap.size := by omega
              go_wp2_with fail
              with_reducible refine (after_any _ _ _ l0 l1 l2 _).mono ?_
              rintro e w4 ⟨rfl, hb4⟩
              have hs4 := hb4.size
              rw [World.size_alloc] at hs4
              have hx4 := Lib.hid (below_heap hb4 (heap_alloc_old hx3.out _) (by simp; omega))
              have hc4 := Lib.hid (below_heap hb4 (heap_alloc_old hc3.out _) (by simp; omega))
              have hh4 := Lib.hid (below_heap hb4 (heap_alloc_old hh3.out _) (by simp; omega))
              have ht4 := Lib.hid (below_heap hb4 (heap_alloc_old ht3.out _) (by simp; omega))
              have hl4 := Lib.hid (below_heap hb4 (heap_alloc_at w3 (stO l0 l1 l2)) (by simp))
              have hG4 := Lib.hid (((hG3.out.alloc (by omega) _)).trans (hb4.mono (by simp; omega)))
              clear hb4 hx3 hc3 hh3 ht3 hG3 m0 m1 m2 t0
              obtain ⟨m0, m1, m2⟩ := st_cells hh4.out
              obtain ⟨n0', n1', n2'⟩ := st_cells hl4.out
              obtain ⟨t0, _, _, _, _⟩ := step_cells ht4.out
              have mf := st_free hh4.out
              have hz4 : hb < w4.heap.size := by omega
              rw [HL.out]
              have q2' : ((f k).kind != 2) = true := by rw [bne, q2]; rfl
              go_wp2_with fail
              exact ⟨⟨k + 1, rd, l0, l1, l2, by omega, by go_num, rfl, g0, g0', g1, g1', g2, gr, below_st3 hG4.out (by omega) _ _ _, by simpa using hz4, heap_st3 hx4.out (by omega) _ _ _, heap_st3 hc4.out (by omega) _ _ _, st_set3 hh4.out _ _ _⟩, by simp [intOf]; omega⟩
        · go_wp2_with fail
          have hx := Lib.hid (heap_alloc_old hX.out (stepO (f k)))
          have hc := Lib.hid (heap_alloc_old hC.out (stepO (f k)))
          have hh := Lib.hid (heap_alloc_old hH.out (stepO (f k)))
          have ht := Lib.hid (heap_alloc_at wr (stepO (f k)))
          have hG := Lib.hid (HB.out.alloc (by omega) (stepO (f k)))
          have hsz : wr.heap.size < (wr.alloc (stepO (f k))).heap.size := by simp
          clear hX hC hH HB x0 x1 x2 x3 d0 d1 d2 d3 d4
          refine (rises_any (w.heap.size + 1) win ceil node rd l0 l1 l2 _ hc.out g0 g0' g1 g1' gr).mono ?_
          rintro e w2 ⟨n0, n1, n2, rfl, hTL, hg, hkc⟩
          obtain ⟨a0, a0', a1, a1', a2, hTL⟩ := tickL_bounds hTL g0 g0' g1 g1' g2 hnode
          have HL := Lib.hid hTL
          clear hTL
          have hsg := hg.size
          have hx' := Lib.hid (gb_heap hg hx.out (by omega))
          have hh' := Lib.hid (gb_heap hg hh.out (by omega))
          have ht' := Lib.hid (gb_heap hg ht.out (by omega))
          have hG' := Lib.hid (below_gb hG.out hg (by omega) (by simp; omega))
          have hc' := Lib.hid hkc
          clear hg hx hc hh ht hG hkc
          obtain ⟨hx, hh, ht, hG, hc⟩ := And.intro hx' (And.intro hh' (And.intro ht' (And.intro hG' hc')))
          clear hx' hh' ht' hG' hc'
          have hsz : wr.heap.size < w2.heap.size := by omega
          obtain ⟨t0, t1, _, _, _⟩ := step_cells ht.out
          go_wp2_with fail
          refine (last_any (w.heap.size + 1) win ceil node rd n0 n1 n2 _ hc.out).mono ?_
          rintro e w3 ⟨rfl, hb3⟩
          have hs3 := hb3.size
          have hx3 := Lib.hid (below_heap hb3 hx.out (by omega))
          have hc3 := Lib.hid (below_heap hb3 hc.out (by omega))
          have hh3 := Lib.hid (below_heap hb3 hh.out (by omega))
          have ht3 := Lib.hid (below_heap hb3 ht.out hsz)
          have hG3 := Lib.hid (hG.out.trans (hb3.mono (by omega)))
          clear hb3 hx hc hh ht hG
          obtain ⟨m0, m1, m2⟩ := st_cells hh3.out
          obtain ⟨t0, _, _, _, _⟩ := step_cells ht3.out
          have hlt3 : hb < w3.heap.size := by omega
          have hlt4 : wr.heap.size < w3.heap.size := by omega
          go_wp2_with fail
          with_reducible refine (after_any _ _ _ n0 n1 n2 _).mono ?_
          rintro e w4 ⟨rfl, hb4⟩
          have hs4 := hb4.size
          rw [World.size_alloc] at hs4
          have hx4 := Lib.hid (below_heap hb4 (heap_alloc_old hx3.out _) (by simp; omega))
          have hc4 := Lib.hid (below_heap hb4 (heap_alloc_old hc3.out _) (by simp; omega))
          have hh4 := Lib.hid (below_heap hb4 (heap_alloc_old hh3.out _) (by simp; omega))
          have ht4 := Lib.hid (below_heap hb4 (heap_alloc_old ht3.out _) (by simp; omega))
          have hl4 := Lib.hid (below_heap hb4 (heap_alloc_at w3 (stO n0 n1 n2)) (by simp))
          have hG4 := Lib.hid (((hG3.out.alloc (by omega) _)).trans (hb4.mono (by simp; omega)))
          clear hb4 hx3 hc3 hh3 ht3 hG3 m0 m1 m2 t0
          obtain ⟨m0, m1, m2⟩ := st_cells hh4.out
          obtain ⟨n0', n1', n2'⟩ := st_cells hl4.out
          obtain ⟨t0, _, _, _, _⟩ := step_cells ht4.out
          have mf := st_free hh4.out
          have hz4 : hb < w4.heap.size := by omega
          rw [HL.out]
          have q2' : ((f k).kind != 2) = false := by rw [bne, q2]; rfl
          go_wp2_with fail
          exact ⟨⟨k + 1, rd, n0, n1, n2, by omega, by go_num, rfl, a0, a0', a1, a1', a2, gr, below_st3 hG4.out (by omega) _ _ _, by simpa using hz4, heap_st3 hx4.out (by omega) _ _ _, heap_st3 hc4.out (by omega) _ _ _, st_set3 hh4.out _ _ _⟩, by simp [intOf]; omega⟩
      · have q2 : ((f k).kind == 2) = false := by rw [beq_iff_eq] at q1; rw [q1]; rfl
        go_wp2_with fail
        have hx := Lib.hid (heap_alloc_old hX.out (stepO (f k)))
        have hc := Lib.hid (heap_alloc_old hC.out (stepO (f k)))
        have hh := Lib.hid (heap_alloc_old hH.out (stepO (f k)))
        have ht := Lib.hid (heap_alloc_at wr (stepO (f k)))
        have hG := Lib.hid (HB.out.alloc (by omega) (stepO (f k)))
        have hsz : wr.heap.size < (wr.alloc (stepO (f k))).heap.size := by simp
        clear hX hC hH HB x0 x1 x2 x3 d0 d1 d2 d3 d4
        refine (read_any (w.heap.size + 1) win ceil node rd l0 l1 l2 (f k).wall _ hc.out).mono ?_
        rintro e w2 ⟨rfl, hg, hkc⟩
        have hsg := hg.size
        have hx' := Lib.hid (gb_heap hg hx.out (by omega))
        have hh' := Lib.hid (gb_heap hg hh.out (by omega))
        have ht' := Lib.hid (gb_heap hg ht.out (by omega))
        have hG' := Lib.hid (below_gb hG.out hg (by omega) (by simp; omega))
        have hc' := Lib.hid hkc
        clear hg hx hc hh ht hG hkc
        obtain ⟨hx, hh, ht, hG, hc⟩ := And.intro hx' (And.intro hh' (And.intro ht' (And.intro hG' hc')))
        clear hx' hh' ht' hG' hc'
        have hsz : wr.heap.size < w2.heap.size := by omega
        obtain ⟨t0, t1, _, _, _⟩ := step_cells ht.out
        have HL := Lib.hid (ltB_self l0 l1 l2)
        go_wp2_with fail
        refine (last_any (w.heap.size + 1) win ceil node (f k).wall l0 l1 l2 _ hc.out).mono ?_
        rintro e w3 ⟨rfl, hb3⟩
        have hs3 := hb3.size
        have hx3 := Lib.hid (below_heap hb3 hx.out (by omega))
        have hc3 := Lib.hid (below_heap hb3 hc.out (by omega))
        have hh3 := Lib.hid (below_heap hb3 hh.out (by omega))
        have ht3 := Lib.hid (below_heap hb3 ht.out hsz)
        have hG3 := Lib.hid (hG.out.trans (hb3.mono (by omega)))
        clear hb3 hx hc hh ht hG
        obtain ⟨m0, m1, m2⟩ := st_cells hh3.out
        obtain ⟨t0, _, _, _, _⟩ := step_cells ht3.out
        have hlt3 : hb < w3.heap.size := by omega
        have hlt4 : wr.heap.size < w3.heap.size := by omega
        go_wp2_with fail
        with_reducible refine (after_any _ _ _ l0 l1 l2 _).mono ?_
        rintro e w4 ⟨rfl, hb4⟩
        have hs4 := hb4.size
        rw [World.size_alloc] at hs4
        have hx4 := Lib.hid (below_heap hb4 (heap_alloc_old hx3.out _) (by simp; omega))
        have hc4 := Lib.hid (below_heap hb4 (heap_alloc_old hc3.out _) (by simp; omega))
        have hh4 := Lib.hid (below_heap hb4 (heap_alloc_old hh3.out _) (by simp; omega))
        have ht4 := Lib.hid (below_heap hb4 (heap_alloc_old ht3.out _) (by simp; omega))
        have hl4 := Lib.hid (below_heap hb4 (heap_alloc_at w3 (stO l0 l1 l2)) (by simp))
        have hG4 := Lib.hid (((hG3.out.alloc (by omega) _)).trans (hb4.mono (by simp; omega)))
        clear hb4 hx3 hc3 hh3 ht3 hG3 m0 m1 m2 t0
        obtain ⟨m0, m1, m2⟩ := st_cells hh4.out
        obtain ⟨n0', n1', n2'⟩ := st_cells hl4.out
        obtain ⟨t0, _, _, _, _⟩ := step_cells ht4.out
        have mf := st_free hh4.out
        have hz4 : hb < w4.heap.size := by omega
        rw [HL.out]
        have q2' : ((f k).kind != 2) = true := by rw [bne, q2]; rfl
        go_wp2_with fail
        exact ⟨⟨k + 1, (f k).wall, l0, l1, l2, by omega, by go_num, rfl, g0, g0', g1, g1', g2, e0', below_st3 hG4.out (by omega) _ _ _, by simpa using hz4, heap_st3 hx4.out (by omega) _ _ _, heap_st3 hc4.out (by omega) _ _ _, st_set3 hh4.out _ _ _⟩, by simp [intOf]; omega⟩
    · obtain rfl : k = n := by omega
      have hx0 : w.heap.size < wr.heap.size := by omega
      go_wp2_with fail
      refine (rises_any (w.heap.size + 1) win ceil node rd l0 l1 l2 _ hC.out g0 g0' g1 g1' gr).mono ?_
      rintro e w2 ⟨n0, n1, n2, rfl, hTL, hg, hkc⟩
      have hG' := Lib.hid (below_gb HB.out hg (by omega) (by omega))
      clear hg hkc hTL
      go_wp2
      go_ret
      exact ⟨rfl, hG'.out⟩

end Go.Proofs.Ytlgkolmlcbfppaa
