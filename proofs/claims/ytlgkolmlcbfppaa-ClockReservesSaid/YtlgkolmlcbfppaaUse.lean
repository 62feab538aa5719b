/- tidemarklaw2.book.use: the walk: what it answers and what it turns. -/
import Derived.Test.YtlgkolmlcbfppaaLife
import Derived.Deep.RegionWith
import Derived.RegionTactic
namespace Go.Proofs.Ytlgkolmlcbfppaa
open Go.RowKit

theorem ltB_iff (a0 a1 a2 b0 b1 b2 : Int) : ltB a0 a1 a2 b0 b1 b2 = true ↔ (a0 < b0 ∨ (a0 = b0 ∧ (a1 < b1 ∨ (a1 = b1 ∧ a2 < b2)))) := by
  unfold ltB
  by_cases h : a0 ≠ b0
  · rw [if_pos h]; simp; omega
  · rw [if_neg h]
    by_cases k : a1 ≠ b1
    · rw [if_pos k]; simp; omega
    · rw [if_neg k]; simp; omega
theorem ltB_not (a0 a1 a2 b0 b1 b2 : Int) : ltB a0 a1 a2 b0 b1 b2 = false ↔ ¬ (a0 < b0 ∨ (a0 = b0 ∧ (a1 < b1 ∨ (a1 = b1 ∧ a2 < b2)))) := by
  rw [← ltB_iff]; simp

/-- Only the two blocks g and b of what was there may have turned. -/
structure Two (g b : Nat) (w w' : World) : Prop where
  os : w'.os = w.os
  tape : w'.tape = w.tape
  output : w'.output = w.output
  size : w.heap.size ≤ w'.heap.size
  block : ∀ k, k < w.heap.size → k ≠ g → k ≠ b → w'.heap[k]? = w.heap[k]?
theorem Two.refl (g b : Nat) (w : World) : Two g b w w := ⟨rfl, rfl, rfl, Nat.le_refl _, fun _ _ _ _ => rfl⟩
theorem Two.trans {g b : Nat} {u v w : World} (h : Two g b u v) (k : Two g b v w) : Two g b u w :=
  ⟨k.os.trans h.os, k.tape.trans h.tape, k.output.trans h.output, Nat.le_trans h.size k.size, fun i hi h1 h2 => (k.block i (Nat.lt_of_lt_of_le hi h.size) h1 h2).trans (h.block i hi h1 h2)⟩
theorem Two.ofBelow {g b : Nat} {w w' : World} (h : Below w.heap.size w w') : Two g b w w' := ⟨h.os, h.tape, h.output, h.size, fun k hk _ _ => h.block k hk⟩
theorem Two.ofG1 {g b : Nat} {w w' : World} (h : w.grownBy w' (some g)) : Two g b w w' := ⟨h.os, h.tape, h.output, h.size, fun k hk h1 _ => h.block k hk (by simpa using h1)⟩
theorem Two.ofG2 {g b : Nat} {w w' : World} (h : w.grownBy w' (some b)) : Two g b w w' := ⟨h.os, h.tape, h.output, h.size, fun k hk _ h2 => h.block k hk (by simpa using h2)⟩
theorem Two.alloc {g b : Nat} {u w : World} (h : Two g b u w) (o : Obj) : Two g b u (w.alloc o) := h.trans (Two.ofBelow ((Below.refl _ _).alloc (Nat.le_refl _) _))
theorem Two.drew {g b : Nat} {u w : World} (h : Two g b u w) : Two g b u w.drew := h.trans ⟨rfl, rfl, rfl, Nat.le_refl _, fun _ _ _ _ => rfl⟩
theorem Two.drewN {g b : Nat} {u w : World} (h : Two g b u w) (n : Nat) : Two g b u (w.drewN n) := h.trans ⟨rfl, rfl, rfl, Nat.le_refl _, fun _ _ _ _ => rfl⟩
theorem Two.set1 {g b : Nat} {u w : World} (h : Two g b u w) (k : Nat) (v : Value) : Two g b u (w.setCell ⟨g, k, none⟩ v) := h.trans (Two.ofG1 (gb_set (gb_refl _ _) (.inl rfl) _))
theorem two_heap {g b i : Nat} {w w' : World} {o : Obj} (h : Two g b w w') (hb : w.heap[i]? = some o) (h1 : i ≠ g) (h2 : i ≠ b) : w'.heap[i]? = some o := by
  rw [h.block i (lt_of_heap hb) h1 h2]; exact hb
theorem below_two {B g b : Nat} {u v w : World} (h : Below B u v) (k : Two g b v w) (hg : B ≤ g) (hb : B ≤ b) (hB : B ≤ v.heap.size) : Below B u w :=
  ⟨k.os.trans h.os, k.tape.trans h.tape, k.output.trans h.output, Nat.le_trans h.size k.size, fun i hi => (k.block i (by omega) (by omega) (by omega)).trans (h.block i hi)⟩

/-- A book: the ceiling that is kept, the greatest stamp that was used, whether there is one. -/
def bookO (kept u0 u1 u2 : Int) (any : Bool) : Obj := .cells #[.int .u64 kept, .int .u64 u0, .int .u32 u1, .int .u32 u2, .bool any] 55 (0, 0)
theorem book_cells {w : World} {b : Nat} {kept u0 u1 u2 : Int} {any : Bool} (h : w.heap[b]? = some (bookO kept u0 u1 u2 any)) :
    w.cell? ⟨b, 0, none⟩ = some (.int .u64 kept) ∧ w.cell? ⟨b, 1, none⟩ = some (.int .u64 u0) ∧ w.cell? ⟨b, 2, none⟩ = some (.int .u32 u1) ∧ w.cell? ⟨b, 3, none⟩ = some (.int .u32 u2) ∧ w.cell? ⟨b, 4, none⟩ = some (.bool any) := by
  simp [World.cell?, h, bookO]
theorem book_free {w : World} {b : Nat} {kept u0 u1 u2 : Int} {any : Bool} (h : w.heap[b]? = some (bookO kept u0 u1 u2 any)) (k : Nat) : w.frozen? ⟨b, k, none⟩ = false := by
  simp [World.frozen?, h, bookO]

def UseR (kept s0 s1 s2 u0 u1 u2 : Int) (any : Bool) (kept' v0 v1 v2 : Int) : Prop :=
  kept ≤ kept' ∧ kept' ≤ topW ∧ s0 < kept' ∧ ((v0 = s0 ∧ v1 = s1 ∧ v2 = s2) ∨ (any = true ∧ v0 = u0 ∧ v1 = u1 ∧ v2 = u2))

def UseP (bb cb : Nat) (win kept node rd l0 l1 l2 s0 s1 s2 u0 u1 u2 : Int) (any : Bool) (w : World) (e : Ending) (w' : World) : Prop :=
  ∃ kept' v0 v1 v2 : Int, e = .returned (.bool true) ∧ UseR kept s0 s1 s2 u0 u1 u2 any kept' v0 v1 v2 ∧ Two bb cb w w' ∧
    w'.heap[bb]? = some (bookO kept' v0 v1 v2 true) ∧ w'.heap[cb]? = some (clkO win kept' node rd l0 l1 l2)

theorem ahead_bounds {win s : Int} (hs : s < topW) (hw : 0 ≤ win) : s < aheadF win s ∧ aheadF win s ≤ topW := by
  by_cases h : topW - 1 ≤ s ∨ topW - 1 - s ≤ win
  · rw [ahead_top h]; omega
  · rw [ahead_sum h]; omega

theorem book_set0 {w : World} {b : Nat} {kept u0 u1 u2 : Int} {any : Bool} (h : w.heap[b]? = some (bookO kept u0 u1 u2 any)) (x : Int) : (w.setCell ⟨b, 0, none⟩ (.int .u64 x)).heap[b]? = some (bookO x u0 u1 u2 any) :=
  heap_set_same h 0 _
theorem book_set1 {w : World} {b : Nat} {kept u0 u1 u2 : Int} {any : Bool} (h : w.heap[b]? = some (bookO kept u0 u1 u2 any)) (x y z : Int) :
    (((w.setCell ⟨b, 1, none⟩ (.int .u64 x)).setCell ⟨b, 2, none⟩ (.int .u32 y)).setCell ⟨b, 3, none⟩ (.int .u32 z)).heap[b]? = some (bookO kept x y z any) :=
  heap_set_same (heap_set_same (heap_set_same h 1 _) 2 _) 3 _
theorem book_set4 {w : World} {b : Nat} {kept u0 u1 u2 : Int} {any : Bool} (h : w.heap[b]? = some (bookO kept u0 u1 u2 any)) (x : Bool) : (w.setCell ⟨b, 4, none⟩ (.bool x)).heap[b]? = some (bookO kept u0 u1 u2 x) :=
  heap_set_same h 4 _
theorem quiet_add_same {P : Program} {f : FuncId} {args : Array Value} {w : World} {a n : Nat} {v : Value}
    (h : Calls P f args (w.drewN (a + n)) fun e w' => e = .returned v ∧ w.drewN (a + n) = w') :
    Calls P f args (w.drewN (a + n)) fun e w'' => e = .returned v ∧ ∃ m, w'' = w.drewN (a + m) :=
  h.mono fun _ _ ⟨he, hm⟩ => ⟨he, n, hm.symm⟩

theorem heap_book3 {w : World} {b g : Nat} {o : Obj} (h : w.heap[b]? = some o) (hne : b ≠ g) (x y z : Int) :
    (((w.setCell ⟨g, 1, none⟩ (.int .u64 x)).setCell ⟨g, 2, none⟩ (.int .u32 y)).setCell ⟨g, 3, none⟩ (.int .u32 z)).heap[b]? = some o :=
  heap_set_other (heap_set_other (heap_set_other h hne _) hne _) hne _

set_option maxHeartbeats 4000000 in
/-- book.use: no stamp was used before. -/
theorem use_first (bb cb : Nat) (win node rd l0 l1 l2 s0 s1 s2 u0 u1 u2 : Int) (w : World) (hne : bb ≠ cb)
    (h : w.heap[bb]? = some (bookO 0 u0 u1 u2 false)) (hc : w.heap[cb]? = some (clkO win 0 node rd l0 l1 l2)) (hs : s0 < topW) (hs0 : 0 ≤ s0) (hw : 0 ≤ win) :
    Calls Try.prog 27 #[.pointer (some ⟨bb, 0, none⟩), .pointer (some ⟨cb, 0, none⟩), .agg #[.int .u64 s0, .int .u32 s1, .int .u32 s2]] w
      (UseP bb cb win 0 node rd l0 l1 l2 s0 s1 s2 u0 u1 u2 false w) := by
  have hbl := lt_of_heap h
  have hcl := lt_of_heap hc
  have H := Lib.hid h
  have HC := Lib.hid hc
  have hA := ahead_bounds (win := win) hs hw
  have hks : (0 : Int) ≤ s0 := hs0
  clear h hc
  go_enter Try.func27, Try.ntmps27
  go_wp2_with fail
  refine (need_yes cb win 0 node rd l0 l1 l2 s0 s1 s2 _ (heap_alloc_old HC.out _) hs hks hs0 hw).mono ?_
  rintro e w1 ⟨rfl, hb1⟩
  have hsz1 := hb1.size
  rw [World.size_alloc] at hsz1
  have H1 := Lib.hid (below_heap hb1 (heap_alloc_old H.out _) (by simp; omega))
  have HC1 := Lib.hid (below_heap hb1 (heap_alloc_old HC.out _) (by simp; omega))
  have HS1 := Lib.hid (below_heap hb1 (heap_alloc_at w (stO s0 s1 s2)) (by simp))
  have HT1 := Lib.hid (((Two.refl bb cb w).alloc _).trans (Two.ofBelow hb1))
  clear hb1 H HC
  go_wp2_with fail
  refine (reserve_any cb win 0 node rd l0 l1 l2 (aheadF win s0) _ HC1.out).mono ?_
  rintro e w2 ⟨rfl, hg2, hk2⟩
  rw [Int.max_eq_right (by omega)] at hk2
  have hsz2 := hg2.size
  have H2 := Lib.hid (gb_heap hg2 H1.out hne)
  have HS2 := Lib.hid (gb_heap hg2 HS1.out (by omega))
  have HC2 := Lib.hid hk2
  have HT2 := Lib.hid (HT1.out.trans (Two.ofG2 hg2))
  clear hg2 hk2 H1 HC1 HS1 HT1
  obtain ⟨b0, b1, b2, b3, b4⟩ := book_cells H2.out
  have bf := book_free H2.out
  obtain ⟨hA1, hA2⟩ := hA
  have hgt : 0 < aheadF win s0 := by omega
  have hle : 0 ≤ aheadF win s0 := by omega
  have hgt' : decide (s0 < aheadF win s0) = true := decide_eq_true hA1
  generalize hK : aheadF win s0 = kept' at *
  clear hK
  go_wp2_with fail
  have H3 := Lib.hid (book_set0 H2.out kept')
  have HS3 := Lib.hid (heap_set_other (p := ⟨bb, 0, none⟩) HS2.out (show w.heap.size ≠ bb by omega) (.int .u64 kept'))
  have HC3 := Lib.hid (heap_set_other (p := ⟨bb, 0, none⟩) HC2.out (show cb ≠ bb from fun e => hne e.symm) (.int .u64 kept'))
  have HT3 := Lib.hid (HT2.out.set1 0 (.int .u64 kept'))
  have hsz3 : w2.heap.size = (w2.setCell ⟨bb, 0, none⟩ (.int .u64 kept')).heap.size := by simp
  clear H2 HS2 HC2 HT2 b0 b1 b2 b3 b4 bf hgt
  generalize w2.setCell ⟨bb, 0, none⟩ (.int .u64 kept') = w3 at *
  have hbl3 : bb < w3.heap.size := by omega
  have hcl3 : cb < w3.heap.size := by omega
  have hwl3 : w.heap.size < w3.heap.size := by omega
  obtain ⟨b0, b1, b2, b3, b4⟩ := book_cells H3.out
  have bf := book_free H3.out
  obtain ⟨p0, p1, p2⟩ := st_cells HS3.out
  go_quiet (fail)
  have H4 := Lib.hid (heap_drewN (n := nq) H3.out)
  have HS4 := Lib.hid (heap_drewN (n := nq) HS3.out)
  have HC4 := Lib.hid (heap_drewN (n := nq) HC3.out)
  have HT4 := Lib.hid (HT3.out.drewN nq)
  have hsz4 : w3.heap.size = (w3.drewN nq).heap.size := rfl
  clear b0 b1 b2 b3 b4 bf p0 p1 p2 H3 HS3 HC3 HT3
  generalize w3.drewN nq = w4 at *
  obtain ⟨b0, b1, b2, b3, b4⟩ := book_cells H4.out
  have bf := book_free H4.out
  obtain ⟨p0, p1, p2⟩ := st_cells HS4.out
  go_wp2_with fail
  have HX := Lib.hid (book_set4 (book_set1 H4.out s0 s1 s2) true)
  have HY := Lib.hid (heap_set_other (p := ⟨bb, 4, none⟩) (heap_book3 HC4.out (show cb ≠ bb from fun e => hne e.symm) s0 s1 s2) (show cb ≠ bb from fun e => hne e.symm) (.bool true))
  have HZ := Lib.hid (heap_set_other (p := ⟨bb, 4, none⟩) (heap_book3 HS4.out (show w.heap.size ≠ bb by omega) s0 s1 s2) (show w.heap.size ≠ bb by omega) (.bool true))
  have HU := Lib.hid ((((HT4.out.set1 1 (.int .u64 s0)).set1 2 (.int .u32 s1)).set1 3 (.int .u32 s2)).set1 4 (.bool true))
  clear b0 b1 b2 b3 b4 bf p0 p1 p2
  generalize (((w4.setCell ⟨bb, 1, none⟩ (.int .u64 s0)).setCell ⟨bb, 2, none⟩ (.int .u32 s1)).setCell ⟨bb, 3, none⟩ (.int .u32 s2)).setCell ⟨bb, 4, none⟩ (.bool true) = w5 at *
  obtain ⟨b0, b1, b2, b3, b4⟩ := book_cells HX.out
  obtain ⟨p0, p1, p2⟩ := st_cells HZ.out
  go_quiet ((go_at_call 43; exact Calls.quiet_of_same ((ceiling_any cb win kept' node rd l0 l1 l2 _ (heap_drewN HY.out)).mono fun _ _ h => ⟨h.1, h.2.symm⟩)))
  go_wp2_with fail
  go_ret
  exact ⟨kept', s0, s1, s2, rfl, ⟨hle, hA2, hA1, Or.inl ⟨rfl, rfl, rfl⟩⟩, HU.out.drewN _, heap_drewN HX.out, heap_drewN HY.out⟩
set_option maxHeartbeats 8000000 in
/-- book.use: a ceiling is needed. -/
theorem use_need (bb cb : Nat) (win kept node rd l0 l1 l2 s0 s1 s2 u0 u1 u2 : Int) (w : World) (hne : bb ≠ cb)
    (h : w.heap[bb]? = some (bookO kept u0 u1 u2 true)) (hc : w.heap[cb]? = some (clkO win kept node rd l0 l1 l2)) (hs : s0 < topW) (hs0 : 0 ≤ s0) (hw : 0 ≤ win) (hks : kept ≤ s0) :
    Calls Try.prog 27 #[.pointer (some ⟨bb, 0, none⟩), .pointer (some ⟨cb, 0, none⟩), .agg #[.int .u64 s0, .int .u32 s1, .int .u32 s2]] w
      (UseP bb cb win kept node rd l0 l1 l2 s0 s1 s2 u0 u1 u2 true w) := by
  have hbl := lt_of_heap h
  have hcl := lt_of_heap hc
  have H := Lib.hid h
  have HC := Lib.hid hc
  have hA := ahead_bounds (win := win) hs hw
  clear h hc
  go_enter Try.func27, Try.ntmps27
  go_wp2_with fail
  refine (need_yes cb win kept node rd l0 l1 l2 s0 s1 s2 _ (heap_alloc_old HC.out _) hs hks hs0 hw).mono ?_
  rintro e w1 ⟨rfl, hb1⟩
  have hsz1 := hb1.size
  rw [World.size_alloc] at hsz1
  have H1 := Lib.hid (below_heap hb1 (heap_alloc_old H.out _) (by simp; omega))
  have HC1 := Lib.hid (below_heap hb1 (heap_alloc_old HC.out _) (by simp; omega))
  have HS1 := Lib.hid (below_heap hb1 (heap_alloc_at w (stO s0 s1 s2)) (by simp))
  have HT1 := Lib.hid (((Two.refl bb cb w).alloc _).trans (Two.ofBelow hb1))
  clear hb1 H HC
  go_wp2_with fail
  refine (reserve_any cb win kept node rd l0 l1 l2 (aheadF win s0) _ HC1.out).mono ?_
  rintro e w2 ⟨rfl, hg2, hk2⟩
  rw [Int.max_eq_right (by omega)] at hk2
  have hsz2 := hg2.size
  have H2 := Lib.hid (gb_heap hg2 H1.out hne)
  have HS2 := Lib.hid (gb_heap hg2 HS1.out (by omega))
  have HC2 := Lib.hid hk2
  have HT2 := Lib.hid (HT1.out.trans (Two.ofG2 hg2))
  clear hg2 hk2 H1 HC1 HS1 HT1
  obtain ⟨b0, b1, b2, b3, b4⟩ := book_cells H2.out
  have bf := book_free H2.out
  obtain ⟨hA1, hA2⟩ := hA
  have hgt : kept < aheadF win s0 := by omega
  have hle : kept ≤ aheadF win s0 := by omega
  have hgt' : decide (s0 < aheadF win s0) = true := decide_eq_true hA1
  generalize hK : aheadF win s0 = kept' at *
  clear hK
  go_wp2_with fail
  have H3 := Lib.hid (book_set0 H2.out kept')
  have HS3 := Lib.hid (heap_set_other (p := ⟨bb, 0, none⟩) HS2.out (show w.heap.size ≠ bb by omega) (.int .u64 kept'))
  have HC3 := Lib.hid (heap_set_other (p := ⟨bb, 0, none⟩) HC2.out (show cb ≠ bb from fun e => hne e.symm) (.int .u64 kept'))
  have HT3 := Lib.hid (HT2.out.set1 0 (.int .u64 kept'))
  have hsz3 : w2.heap.size = (w2.setCell ⟨bb, 0, none⟩ (.int .u64 kept')).heap.size := by simp
  clear H2 HS2 HC2 HT2 b0 b1 b2 b3 b4 bf hgt
  generalize w2.setCell ⟨bb, 0, none⟩ (.int .u64 kept') = w3 at *
  have hbl3 : bb < w3.heap.size := by omega
  have hcl3 : cb < w3.heap.size := by omega
  have hwl3 : w.heap.size < w3.heap.size := by omega
  obtain ⟨b0, b1, b2, b3, b4⟩ := book_cells H3.out
  have bf := book_free H3.out
  obtain ⟨p0, p1, p2⟩ := st_cells HS3.out
  go_region_with ((go_at_call 18; refine (after_any s0 s1 s2 u0 u1 u2 _).mono ?_; rintro e w4 ⟨rfl, hb4⟩; have hsz4 := hb4.size; have H4 := Lib.hid (below_heap hb4 (heap_drew H3.out) hbl3); have HS4 := Lib.hid (below_heap hb4 (heap_drew HS3.out) hwl3); have HC4 := Lib.hid (below_heap hb4 (heap_drew HC3.out) hcl3); have HT4 := Lib.hid (HT3.out.drew.trans (Two.ofBelow hb4)); clear hb4; obtain ⟨c0, c1, c2, c3, c4⟩ := book_cells H4.out; obtain ⟨r0, r1, r2⟩ := st_cells HS4.out))
  all_goals
    have hsz4' : w3.heap.size ≤ w4.heap.size := hsz4
    have hbl4 : bb < w4.heap.size := by omega
    have hcl4 : cb < w4.heap.size := by omega
    have hwl4 : w.heap.size < w4.heap.size := by omega
    clear b0 b1 b2 b3 b4 bf p0 p1 p2 H3 HS3 HC3 HT3 c0 c1 c2 c3 c4 r0 r1 r2 hsz4
    obtain ⟨b0, b1, b2, b3, b4⟩ := book_cells H4.out
    have bf := book_free H4.out
    obtain ⟨p0, p1, p2⟩ := st_cells HS4.out
    cases hL : ltB u0 u1 u2 s0 s1 s2
    · skip
      go_wp2_with fail
      have HX := Lib.hid (book_set4 H4.out true)
      have HY := Lib.hid (heap_set_other (p := ⟨bb, 4, none⟩) HC4.out (show cb ≠ bb from fun e => hne e.symm) (.bool true))
      have HZ := Lib.hid (heap_set_other (p := ⟨bb, 4, none⟩) HS4.out (show w.heap.size ≠ bb by omega) (.bool true))
      have HU := Lib.hid (HT4.out.set1 4 (.bool true))
      clear b0 b1 b2 b3 b4 bf p0 p1 p2
      generalize w4.setCell ⟨bb, 4, none⟩ (.bool true) = w5 at *
      obtain ⟨b0, b1, b2, b3, b4⟩ := book_cells HX.out
      obtain ⟨p0, p1, p2⟩ := st_cells HZ.out
      go_quiet ((go_at_call 43; exact Calls.quiet_of_same ((ceiling_any cb win kept' node rd l0 l1 l2 _ (heap_drewN HY.out)).mono fun _ _ h => ⟨h.1, h.2.symm⟩)))
      go_wp2_with fail
      go_ret
      exact ⟨kept', u0, u1, u2, rfl, ⟨hle, hA2, hA1, Or.inr ⟨rfl, rfl, rfl, rfl⟩⟩, HU.out.drewN _, heap_drewN HX.out, heap_drewN HY.out⟩
    · skip
      go_wp2_with fail
      have HX := Lib.hid (book_set4 (book_set1 H4.out s0 s1 s2) true)
      have HY := Lib.hid (heap_set_other (p := ⟨bb, 4, none⟩) (heap_book3 HC4.out (show cb ≠ bb from fun e => hne e.symm) s0 s1 s2) (show cb ≠ bb from fun e => hne e.symm) (.bool true))
      have HZ := Lib.hid (heap_set_other (p := ⟨bb, 4, none⟩) (heap_book3 HS4.out (show w.heap.size ≠ bb by omega) s0 s1 s2) (show w.heap.size ≠ bb by omega) (.bool true))
      have HU := Lib.hid ((((HT4.out.set1 1 (.int .u64 s0)).set1 2 (.int .u32 s1)).set1 3 (.int .u32 s2)).set1 4 (.bool true))
      clear b0 b1 b2 b3 b4 bf p0 p1 p2
      generalize (((w4.setCell ⟨bb, 1, none⟩ (.int .u64 s0)).setCell ⟨bb, 2, none⟩ (.int .u32 s1)).setCell ⟨bb, 3, none⟩ (.int .u32 s2)).setCell ⟨bb, 4, none⟩ (.bool true) = w5 at *
      obtain ⟨b0, b1, b2, b3, b4⟩ := book_cells HX.out
      obtain ⟨p0, p1, p2⟩ := st_cells HZ.out
      go_quiet ((go_at_call 43; exact Calls.quiet_of_same ((ceiling_any cb win kept' node rd l0 l1 l2 _ (heap_drewN HY.out)).mono fun _ _ h => ⟨h.1, h.2.symm⟩)))
      go_wp2_with fail
      go_ret
      exact ⟨kept', s0, s1, s2, rfl, ⟨hle, hA2, hA1, Or.inl ⟨rfl, rfl, rfl⟩⟩, HU.out.drewN _, heap_drewN HX.out, heap_drewN HY.out⟩

set_option maxHeartbeats 8000000 in
/-- book.use: no ceiling is needed. -/
theorem use_low (bb cb : Nat) (win kept' node rd l0 l1 l2 s0 s1 s2 u0 u1 u2 : Int) (w : World) (hne : bb ≠ cb)
    (h : w.heap[bb]? = some (bookO kept' u0 u1 u2 true)) (hc : w.heap[cb]? = some (clkO win kept' node rd l0 l1 l2)) (hA1 : s0 < kept') (hA2 : kept' ≤ topW) :
    Calls Try.prog 27 #[.pointer (some ⟨bb, 0, none⟩), .pointer (some ⟨cb, 0, none⟩), .agg #[.int .u64 s0, .int .u32 s1, .int .u32 s2]] w
      (UseP bb cb win kept' node rd l0 l1 l2 s0 s1 s2 u0 u1 u2 true w) := by
  have hbl := lt_of_heap h
  have hcl := lt_of_heap hc
  have H := Lib.hid h
  have HC := Lib.hid hc
  have hle : kept' ≤ kept' := Int.le_refl _
  clear h hc
  go_enter Try.func27, Try.ntmps27
  go_wp2_with fail
  refine (need_no cb win kept' node rd l0 l1 l2 s0 s1 s2 _ (heap_alloc_old HC.out _) (Or.inr hA1)).mono ?_
  rintro e w3 ⟨rfl, hb1⟩
  have hsz1 := hb1.size
  rw [World.size_alloc] at hsz1
  have H3 := Lib.hid (below_heap hb1 (heap_alloc_old H.out _) (by simp; omega))
  have HC3 := Lib.hid (below_heap hb1 (heap_alloc_old HC.out _) (by simp; omega))
  have HS3 := Lib.hid (below_heap hb1 (heap_alloc_at w (stO s0 s1 s2)) (by simp))
  have HT3 := Lib.hid (((Two.refl bb cb w).alloc _).trans (Two.ofBelow hb1))
  have hgt' : decide (s0 < kept') = true := decide_eq_true hA1
  clear hb1 H HC
  have hbl3 : bb < w3.heap.size := by omega
  have hcl3 : cb < w3.heap.size := by omega
  have hwl3 : w.heap.size < w3.heap.size := by omega
  obtain ⟨b0, b1, b2, b3, b4⟩ := book_cells H3.out
  have bf := book_free H3.out
  obtain ⟨p0, p1, p2⟩ := st_cells HS3.out
  go_wp2_with fail
  go_region_with ((go_at_call 18; refine (after_any s0 s1 s2 u0 u1 u2 _).mono ?_; rintro e w4 ⟨rfl, hb4⟩; have hsz4 := hb4.size; have H4 := Lib.hid (below_heap hb4 (heap_drew H3.out) hbl3); have HS4 := Lib.hid (below_heap hb4 (heap_drew HS3.out) hwl3); have HC4 := Lib.hid (below_heap hb4 (heap_drew HC3.out) hcl3); have HT4 := Lib.hid (HT3.out.drew.trans (Two.ofBelow hb4)); clear hb4; obtain ⟨c0, c1, c2, c3, c4⟩ := book_cells H4.out; obtain ⟨r0, r1, r2⟩ := st_cells HS4.out))
  all_goals
    have hsz4' : w3.heap.size ≤ w4.heap.size := hsz4
    have hbl4 : bb < w4.heap.size := by omega
    have hcl4 : cb < w4.heap.size := by omega
    have hwl4 : w.heap.size < w4.heap.size := by omega
    clear b0 b1 b2 b3 b4 bf p0 p1 p2 H3 HS3 HC3 HT3 c0 c1 c2 c3 c4 r0 r1 r2 hsz4
    obtain ⟨b0, b1, b2, b3, b4⟩ := book_cells H4.out
    have bf := book_free H4.out
    obtain ⟨p0, p1, p2⟩ := st_cells HS4.out
    cases hL : ltB u0 u1 u2 s0 s1 s2
    · skip
      go_wp2_with fail
      have HX := Lib.hid (book_set4 H4.out true)
      have HY := Lib.hid (heap_set_other (p := ⟨bb, 4, none⟩) HC4.out (show cb ≠ bb from fun e => hne e.symm) (.bool true))
      have HZ := Lib.hid (heap_set_other (p := ⟨bb, 4, none⟩) HS4.out (show w.heap.size ≠ bb by omega) (.bool true))
      have HU := Lib.hid (HT4.out.set1 4 (.bool true))
      clear b0 b1 b2 b3 b4 bf p0 p1 p2
      generalize w4.setCell ⟨bb, 4, none⟩ (.bool true) = w5 at *
      obtain ⟨b0, b1, b2, b3, b4⟩ := book_cells HX.out
      obtain ⟨p0, p1, p2⟩ := st_cells HZ.out
      go_quiet ((go_at_call 43; exact Calls.quiet_of_same ((ceiling_any cb win kept' node rd l0 l1 l2 _ (heap_drewN HY.out)).mono fun _ _ h => ⟨h.1, h.2.symm⟩)))
      go_wp2_with fail
      go_ret
      exact ⟨kept', u0, u1, u2, rfl, ⟨hle, hA2, hA1, Or.inr ⟨rfl, rfl, rfl, rfl⟩⟩, HU.out.drewN _, heap_drewN HX.out, heap_drewN HY.out⟩
    · skip
      go_wp2_with fail
      have HX := Lib.hid (book_set4 (book_set1 H4.out s0 s1 s2) true)
      have HY := Lib.hid (heap_set_other (p := ⟨bb, 4, none⟩) (heap_book3 HC4.out (show cb ≠ bb from fun e => hne e.symm) s0 s1 s2) (show cb ≠ bb from fun e => hne e.symm) (.bool true))
      have HZ := Lib.hid (heap_set_other (p := ⟨bb, 4, none⟩) (heap_book3 HS4.out (show w.heap.size ≠ bb by omega) s0 s1 s2) (show w.heap.size ≠ bb by omega) (.bool true))
      have HU := Lib.hid ((((HT4.out.set1 1 (.int .u64 s0)).set1 2 (.int .u32 s1)).set1 3 (.int .u32 s2)).set1 4 (.bool true))
      clear b0 b1 b2 b3 b4 bf p0 p1 p2
      generalize (((w4.setCell ⟨bb, 1, none⟩ (.int .u64 s0)).setCell ⟨bb, 2, none⟩ (.int .u32 s1)).setCell ⟨bb, 3, none⟩ (.int .u32 s2)).setCell ⟨bb, 4, none⟩ (.bool true) = w5 at *
      obtain ⟨b0, b1, b2, b3, b4⟩ := book_cells HX.out
      obtain ⟨p0, p1, p2⟩ := st_cells HZ.out
      go_quiet ((go_at_call 43; exact Calls.quiet_of_same ((ceiling_any cb win kept' node rd l0 l1 l2 _ (heap_drewN HY.out)).mono fun _ _ h => ⟨h.1, h.2.symm⟩)))
      go_wp2_with fail
      go_ret
      exact ⟨kept', s0, s1, s2, rfl, ⟨hle, hA2, hA1, Or.inl ⟨rfl, rfl, rfl⟩⟩, HU.out.drewN _, heap_drewN HX.out, heap_drewN HY.out⟩

theorem use_any (bb cb : Nat) (win kept node rd l0 l1 l2 s0 s1 s2 u0 u1 u2 : Int) (w : World) (hne : bb ≠ cb)
    (h : w.heap[bb]? = some (bookO kept u0 u1 u2 true)) (hc : w.heap[cb]? = some (clkO win kept node rd l0 l1 l2)) (hs : s0 < topW) (hs0 : 0 ≤ s0) (hw : 0 ≤ win) (hk : kept ≤ topW) :
    Calls Try.prog 27 #[.pointer (some ⟨bb, 0, none⟩), .pointer (some ⟨cb, 0, none⟩), .agg #[.int .u64 s0, .int .u32 s1, .int .u32 s2]] w
      (UseP bb cb win kept node rd l0 l1 l2 s0 s1 s2 u0 u1 u2 true w) := by
  by_cases hks : kept ≤ s0
  · exact use_need bb cb win kept node rd l0 l1 l2 s0 s1 s2 u0 u1 u2 w hne h hc hs hs0 hw hks
  · exact use_low bb cb win kept node rd l0 l1 l2 s0 s1 s2 u0 u1 u2 w hne h hc (Int.not_le.1 hks) hk

end Go.Proofs.Ytlgkolmlcbfppaa
