/- book.ticked and book.begun: the walks. -/
import Derived.Test.YtlgkolmlcbfppaaUse
namespace Go.Proofs.Ytlgkolmlcbfppaa
open Go.RowKit

theorem er_cases {node rd l0 l1 l2 s0 s1 s2 er n0 n1 n2 : Int} (h : TickR node rd l0 l1 l2 s0 s1 s2 er n0 n1 n2) : er = 11 ∨ er = 0 := by
  rcases h with ⟨h, _⟩ | ⟨h, _⟩
  · exact Or.inl h
  · exact Or.inr h

/-- What stands between the clock and its book: the ceiling is the kept one, above all that was used; the last stamp is not below it. -/
def BookI (kept rd l0 l1 l2 u0 u1 u2 : Int) : Prop :=
  0 ≤ l0 ∧ l0 ≤ topW ∧ 0 ≤ l1 ∧ l1 ≤ topL ∧ 0 ≤ l2 ∧ rd ≤ topW ∧ 0 ≤ kept ∧ kept ≤ topW ∧ u0 < kept ∧ ltB l0 l1 l2 u0 u1 u2 = false

def TickedP (bb cb : Nat) (win node rd : Int) (w : World) (e : Ending) (w' : World) : Prop :=
  ∃ kept n0 n1 n2 v0 v1 v2 : Int, e = .returned (.bool true) ∧ BookI kept rd n0 n1 n2 v0 v1 v2 ∧ Two bb cb w w' ∧
    w'.heap[bb]? = some (bookO kept v0 v1 v2 true) ∧ w'.heap[cb]? = some (clkO win kept node rd n0 n1 n2)

theorem ticked_ok {kept node rd l0 l1 l2 u0 u1 u2 s0 s1 s2 n0 n1 n2 : Int} (hI : BookI kept rd l0 l1 l2 u0 u1 u2) (hn : 0 ≤ node) (hR : TickR node rd l0 l1 l2 s0 s1 s2 0 n0 n1 n2) :
    n0 = s0 ∧ n1 = s1 ∧ n2 = s2 ∧ s0 < topW ∧ 0 ≤ s0 ∧ ltB u0 u1 u2 s0 s1 s2 = true ∧ BookI kept rd s0 s1 s2 u0 u1 u2 := by
  obtain ⟨g0, g0', g1, g1', g2, gr, gk, gk', gu, gl⟩ := hI
  rw [ltB_not] at gl
  have hT : 0 < topL := by decide
  rcases hR with ⟨h, _⟩ | ⟨_, h2, hs, h3, h4, h5, h6⟩
  · cases h
  · have : ltB u0 u1 u2 s0 s1 s2 = true := by rw [ltB_iff]; omega
    refine ⟨h3, h4, h5, hs, by omega, this, by omega, by omega, by omega, by omega, by omega, gr, gk, gk', gu, ?_⟩
    rw [ltB_not]; rw [ltB_iff] at this; omega
theorem used_ok {kept kept' rd l0 l1 l2 u0 u1 u2 s0 s1 s2 v0 v1 v2 : Int} {any : Bool} (hI : BookI kept rd l0 l1 l2 u0 u1 u2) (hl : ltB l0 l1 l2 s0 s1 s2 = false) (hU : UseR kept s0 s1 s2 u0 u1 u2 any kept' v0 v1 v2) :
    BookI kept' rd l0 l1 l2 v0 v1 v2 := by
  obtain ⟨g0, g0', g1, g1', g2, gr, gk, gk', gu, gl⟩ := hI
  obtain ⟨a, b, c, d⟩ := hU
  rcases d with ⟨rfl, rfl, rfl⟩ | ⟨_, rfl, rfl, rfl⟩
  · exact ⟨g0, g0', g1, g1', g2, gr, by omega, b, c, hl⟩
  · exact ⟨g0, g0', g1, g1', g2, gr, by omega, b, by omega, gl⟩

set_option maxHeartbeats 4000000 in
theorem ticked_any (bb cb : Nat) (win kept node rd l0 l1 l2 u0 u1 u2 : Int) (used : Bool) (w : World) (hne : bb ≠ cb)
    (h : w.heap[bb]? = some (bookO kept u0 u1 u2 true)) (hc : w.heap[cb]? = some (clkO win kept node rd l0 l1 l2)) (hI : BookI kept rd l0 l1 l2 u0 u1 u2) (hn : 0 ≤ node) (hw : 0 ≤ win) :
    Calls Try.prog 26 #[.pointer (some ⟨bb, 0, none⟩), .pointer (some ⟨cb, 0, none⟩), .bool used] w (TickedP bb cb win node rd w) := by
  have hbl := lt_of_heap h
  have hcl := lt_of_heap hc
  have H := Lib.hid h
  have HC := Lib.hid hc
  have HI := Lib.hid hI
  obtain ⟨g0, g0', g1, g1', g2, gr, gk, gk', gu, gl⟩ := hI
  clear h hc gl
  go_enter Try.func26, Try.ntmps26
  go_wp2_with fail
  with_reducible refine (tick_any cb win kept node rd l0 l1 l2 _ HC.out g0 g0' g1 g1' gr).mono ?_
  rintro e w1 ⟨s0, s1, s2, er, n0, n1, n2, rfl, hR, hg1, hk1⟩
  have hsz1 := hg1.size
  have H1 := Lib.hid (gb_heap hg1 H.out hne)
  have HC1 := Lib.hid hk1
  have HT1 := Lib.hid (Two.ofG2 (g := bb) hg1)
  clear hg1 hk1 H HC g0 g0' g1 g1' g2 gr gk gu
  rcases er_cases hR with rfl | rfl
  · have hz : s0 = 0 ∧ s1 = 0 ∧ s2 = 0 ∧ n0 = l0 ∧ n1 = l1 ∧ n2 = l2 := by
      rcases hR with ⟨_, a, b, c, d, e, f, _⟩ | ⟨a, _⟩
      · exact ⟨a, b, c, d, e, f⟩
      · cases a
    obtain ⟨rfl, rfl, rfl, rfl, rfl, rfl⟩ := hz
    clear hR
    go_wp2_with fail
    go_ret
    exact ⟨kept, _, _, _, _, _, _, rfl, HI.out, HT1.out.alloc _, heap_alloc_old H1.out _, heap_alloc_old HC1.out _⟩
  · obtain ⟨rfl, rfl, rfl, hs, hs0, hlt, hI2⟩ := ticked_ok HI.out hn hR
    have HI2 := Lib.hid hI2
    have HL := Lib.hid hlt
    clear hR hI2 hlt HI
    obtain ⟨b0, b1, b2, b3, b4⟩ := book_cells H1.out
    have hbl1 : bb < w1.heap.size := by omega
    have hcl1 : cb < w1.heap.size := by omega
    go_wp2_with fail
    go_region_with ((go_at_call 18; refine (after_any n0 n1 n2 u0 u1 u2 _).mono ?_; rintro e w4 ⟨rfl, hb4⟩; rw [HL.out]; have hsz4 := hb4.size; have H4 := Lib.hid (below_heap hb4 (heap_drew (heap_alloc_old H1.out _)) (by simp; omega)); have HS4 := Lib.hid (below_heap hb4 (heap_drew (heap_alloc_at w1 (stO n0 n1 n2))) (by simp)); have HC4 := Lib.hid (below_heap hb4 (heap_drew (heap_alloc_old HC1.out _)) (by simp; omega)); have HT4 := Lib.hid ((HT1.out.alloc _).drew.trans (Two.ofBelow hb4)); clear hb4; obtain ⟨c0, c1, c2, c3, c4⟩ := book_cells H4.out; obtain ⟨r0, r1, r2⟩ := st_cells HS4.out))
    all_goals
      clear b0 b1 b2 b3 b4 c0 c1 c2 c3 c4
      cases used
      · go_wp2_with fail
        go_ret
        exact ⟨kept, _, _, _, _, _, _, rfl, HI2.out, HT4.out, H4.out, HC4.out⟩
      · go_wp2_with fail
        refine (use_any bb cb win kept node rd n0 n1 n2 n0 n1 n2 u0 u1 u2 _ hne H4.out HC4.out hs hs0 hw gk').mono ?_
        rintro e w5 ⟨kept', v0, v1, v2, rfl, hU, hT5, hb5, hc5⟩
        have HI5 := Lib.hid (used_ok HI2.out (ltB_self n0 n1 n2) hU)
        have HT5 := Lib.hid (HT4.out.trans hT5)
        have HB5 := Lib.hid hb5
        have HC5 := Lib.hid hc5
        clear hU hT5 hb5 hc5
        go_wp2_with fail
        go_ret
        exact ⟨kept', _, _, _, _, _, _, rfl, HI5.out, HT5.out, HB5.out, HC5.out⟩

set_option maxHeartbeats 4000000 in
theorem begun_any (bb cb : Nat) (win node ceil : Int) (p : Option Addr) (n cap : Nat) (w : World) (hne : bb ≠ cb)
    (h : w.heap[bb]? = some (bookO 0 0 0 0 false)) (hc : w.heap[cb]? = some (clkO win 0 node 0 0 0 0)) (hn : 0 ≤ node) (hw : 0 ≤ win) :
    Calls Try.prog 25 #[.pointer (some ⟨bb, 0, none⟩), .pointer (some ⟨cb, 0, none⟩), .agg #[.int .u32 node, .int .u64 win, .int .u64 ceil, .slice p n cap]] w (TickedP bb cb win node 5 w) := by
  have hbl := lt_of_heap h
  have hcl := lt_of_heap hc
  have H := Lib.hid h
  have HC := Lib.hid hc
  clear h hc
  go_enter Try.func25, Try.ntmps25
  go_wp2_with fail
  refine (read_any cb win 0 node 0 0 0 0 5 _ (heap_alloc_old HC.out _)).mono ?_
  rintro e w1 ⟨rfl, hg1, hk1⟩
  have hsz1 := hg1.size
  rw [World.size_alloc] at hsz1
  have H1 := Lib.hid (gb_heap hg1 (heap_alloc_old H.out _) hne)
  have HX1 := Lib.hid (gb_heap hg1 (heap_alloc_at w (lifeO node win ceil p n cap)) (by omega))
  have HC1 := Lib.hid hk1
  have HT1 := Lib.hid (((Two.refl bb cb w).alloc _).trans (Two.ofG2 (g := bb) hg1))
  clear hg1 hk1 H HC
  go_wp2_with fail
  refine (tick_any cb win 0 node 5 0 0 0 _ HC1.out (by decide) (by decide) (by decide) (by decide) (by decide)).mono ?_
  rintro e w2 ⟨s0, s1, s2, er, n0, n1, n2, rfl, hR, hg2, hk2⟩
  have hz : er = 0 ∧ s0 = 5 ∧ s1 = 0 ∧ s2 = node ∧ n0 = 5 ∧ n1 = 0 ∧ n2 = node := by
    unfold TickR topW topL at hR
    omega
  obtain ⟨rfl, rfl, rfl, rfl, rfl, rfl, rfl⟩ := hz
  have hsz2 := hg2.size
  have H2 := Lib.hid (gb_heap hg2 H1.out hne)
  have HX2 := Lib.hid (gb_heap hg2 HX1.out (by omega))
  have HC2 := Lib.hid hk2
  have HT2 := Lib.hid (HT1.out.trans (Two.ofG2 (g := bb) hg2))
  clear hg2 hk2 H1 HC1 HX1 HT1 hR
  have hxl2 : w.heap.size < w2.heap.size := by omega
  obtain ⟨x0, x1, x2, x3⟩ := life_cells HX2.out
  go_wp2_with fail
  refine (use_first bb cb win n2 5 5 0 n2 5 0 n2 0 0 0 _ hne (heap_alloc_old H2.out _) (heap_alloc_old HC2.out _) (by decide) (by decide) hw).mono ?_
  rintro e w5 ⟨kept', v0, v1, v2, rfl, hU, hT5, hb5, hc5⟩
  have HI5 := Lib.hid (show BookI kept' 5 5 0 n2 v0 v1 v2 from by
    obtain ⟨a, b, c, d⟩ := hU
    rcases d with ⟨rfl, rfl, rfl⟩ | ⟨d, _⟩
    · exact ⟨by decide, by decide, by decide, by decide, hn, by decide, by omega, b, c, ltB_self _ _ _⟩
    · cases d)
  have HT5 := Lib.hid ((HT2.out.alloc _).trans hT5)
  have HB5 := Lib.hid hb5
  have HC5 := Lib.hid hc5
  clear hU hT5 hb5 hc5
  go_wp2_with fail
  go_ret
  exact ⟨kept', _, _, _, _, _, _, rfl, HI5.out, HT5.out, HB5.out, HC5.out⟩

end Go.Proofs.Ytlgkolmlcbfppaa
