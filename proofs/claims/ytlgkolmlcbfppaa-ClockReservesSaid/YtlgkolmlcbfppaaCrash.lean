/- book.crash: the walk. -/
import Derived.Test.YtlgkolmlcbfppaaBook
namespace Go.Proofs.Ytlgkolmlcbfppaa
open Go.RowKit

def CrashP (bb : Nat) (win kept node u0 u1 u2 : Int) (w : World) (e : Ending) (w' : World) : Prop :=
  ∃ c : Nat, w.heap.size ≤ c ∧ e = .returned (.tuple #[.pointer (some ⟨c, 0, none⟩), .bool true]) ∧ Below w.heap.size w w' ∧
    w'.heap[bb]? = some (bookO kept u0 u1 u2 true) ∧ w'.heap[c]? = some (clkO win kept node 0 kept 0 0)

theorem reopen_c (node win ceil : Int) (w : World) :
    Calls Try.prog 14 #[.int .u32 node, .int .u64 win, .int .u64 ceil] w fun e w' => ∃ c : Nat, w.heap.size ≤ c ∧ c < w'.heap.size ∧ e = .returned (.pointer (some ⟨c, 0, none⟩)) ∧ Below w.heap.size w w' ∧ w'.heap[c]? = some (clkO win ceil node 0 ceil 0 0) :=
  (reopen_any node win ceil w).mono fun _ _ ⟨h1, h2, h3, h4⟩ => ⟨w.heap.size, Nat.le_refl _, by omega, h1, h2, h4⟩

set_option maxHeartbeats 8000000 in
theorem crash_any (bb : Nat) (win kept node ceil u0 u1 u2 : Int) (p : Option Addr) (n cap : Nat) (w : World)
    (h : w.heap[bb]? = some (bookO kept u0 u1 u2 true)) (hu : u0 < kept) :
    Calls Try.prog 28 #[.pointer (some ⟨bb, 0, none⟩), .agg #[.int .u32 node, .int .u64 win, .int .u64 ceil, .slice p n cap]] w (CrashP bb win kept node u0 u1 u2 w) := by
  have hbl := lt_of_heap h
  have H := Lib.hid h
  have HL := Lib.hid (ltB_wall (l1 := u1) (l2 := u2) (s1 := 0) (s2 := 0) hu)
  obtain ⟨b0, b1, b2, b3, b4⟩ := book_cells h
  clear h
  go_enter Try.func28, Try.ntmps28
  go_wp2_with fail
  go_region_with ((go_at_call 14; refine (reopen_c node win kept _).mono ?_; rintro e w1 ⟨c, hcg, hcl, rfl, hb1, hk1⟩; have H1 := Lib.hid (below_heap hb1 (heap_drew (heap_alloc_old H.out _)) (by simp; omega)); have HX1 := Lib.hid (below_heap hb1 (heap_drew (heap_alloc_at w (lifeO node win ceil p n cap))) (by simp)); have HC1 := Lib.hid hk1; have HB1 := Lib.hid ((((Below.refl _ w).alloc (Nat.le_refl _) _).drew).trans (hb1.mono (by simp))); have hcw : w.heap.size < c := Nat.lt_of_lt_of_le (by simp) hcg; clear hb1 hk1 hcg; obtain ⟨x0, x1, x2, x3⟩ := life_cells HX1.out; obtain ⟨d0, d1, d2, d3, d4⟩ := book_cells H1.out))
  all_goals
    clear x0 x1 x2 x3
    have hbl1 : bb < w1.heap.size := by omega
    go_wp2_with fail
    go_quiet ((go_at_call 43; exact Calls.quiet_of_same ((ceiling_any c win kept node 0 kept 0 0 _ (heap_drewN HC1.out)).mono fun _ _ h => ⟨h.1, h.2.symm⟩)))
    have H2 := Lib.hid (heap_drewN (n := nq) H1.out)
    have HC2 := Lib.hid (heap_drewN (n := nq) HC1.out)
    have HB2 := Lib.hid (below_drewN HB1.out nq)
    have hsz2 : w1.heap.size = (w1.drewN nq).heap.size := rfl
    clear b0 b1 b2 b3 b4 d0 d1 d2 d3 d4 H1 HC1 HB1 HX1
    generalize w1.drewN nq = w2 at *
    have hbl2 : bb < w2.heap.size := by omega
    have hcl2 : c < w2.heap.size := by omega
    obtain ⟨d0, d1, d2, d3, d4⟩ := book_cells H2.out
    go_wp2_with fail
    go_region_with (first
      | (go_at_call 19; refine (last_any c win kept node 0 kept 0 0 _ (heap_drew HC2.out)).mono ?_; rintro e w3 ⟨rfl, hb3⟩; have hsz3 := hb3.size; have H3 := Lib.hid (below_heap hb3 (heap_drew H2.out) hbl2); have HC3 := Lib.hid (below_heap hb3 (heap_drew HC2.out) hcl2); have HB3 := Lib.hid (HB2.out.drew.trans (hb3.mono (by simp; omega))); clear hb3; obtain ⟨c0, c1, c2, c3, c4⟩ := book_cells H3.out)
      | (go_at_call 18; refine (after_any kept 0 0 u0 u1 u2 _).mono ?_; rintro e w4 ⟨rfl, hb4⟩; rw [HL.out]; have hsz4 := hb4.size; have hbl3 : bb < w3.heap.size := Nat.lt_of_lt_of_le hbl2 hsz3; have hcl3 : c < w3.heap.size := Nat.lt_of_lt_of_le hcl2 hsz3; have H4 := Lib.hid (below_heap hb4 H3.out hbl3); have HC4 := Lib.hid (below_heap hb4 HC3.out hcl3); have HB4 := Lib.hid (HB3.out.trans (hb4.mono HB3.out.size)); clear hb4; obtain ⟨e0, e1, e2, e3, e4⟩ := book_cells H4.out))
    all_goals
      go_wp2_with fail
      go_ret2
      exact ⟨c, by omega, rfl, HB4.out, H4.out, HC4.out⟩

end Go.Proofs.Ytlgkolmlcbfppaa
