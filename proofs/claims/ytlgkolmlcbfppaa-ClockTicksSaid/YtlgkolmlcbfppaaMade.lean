/- tidemarklaw2.made: two new clocks in a place. -/
import Derived.Test.YtlgkolmlcbfppaaTellA
namespace Go.Proofs.Ytlgkolmlcbfppaa
open Go.RowKit

/-- A pair is made: both clocks are new, and their pointers lie in the place. -/
def MadeP (B lb off : Nat) (c : Array Value) (w : World) (e : Ending) (w' : World) : Prop :=
  ∃ p : PS, e = .returned (.bool true) ∧ Foot (· = lb) w w' ∧ p.At B lb w' ∧ p.Agree 0 ∧ (∀ k, p.F k → w.heap.size ≤ k) ∧
    w'.heap[lb]? = some (.cells ((c.setIfInBounds off (.pointer (some ⟨p.cb, 0, none⟩))).setIfInBounds (off + 1) (.pointer (some ⟨p.db, 0, none⟩))) 91 (0, 0))

theorem agree_new {cb db rg sg lg : Nat} {node win ceil : Int} (h0 : 0 ≤ ceil) (h1 : ceil ≤ topW) (hn : 0 ≤ node) (hw : 0 ≤ win) (hw' : win ≤ topW) :
    PS.Agree ⟨cb, db, rg, sg, lg, node, win, ceil, 0, ceil, 0, 0, [0], [⟨ceil, 0, 0⟩], [ceil]⟩ 0 := by
  have e : maxTo (stAt [⟨ceil, 0, 0⟩]) 1 = ⟨ceil, 0, 0⟩ := maxTo_one _ h0 (Int.le_refl _) (Int.le_refl _)
  have e2 : maxN (intAt [ceil]) 1 = ceil := by
    show (if (0 : Int) < ceil then ceil else 0) = ceil
    split <;> omega
  exact ⟨Nat.le_refl _, rfl, e, e2, Nat.le_refl _, Nat.le_refl _, Nat.le_refl _, h0, h1, Int.le_refl _, by show (0 : Int) ≤ topL; decide, Int.le_refl _, by show (0 : Int) ≤ topW; decide, hn, hw, hw', h0⟩

set_option maxRecDepth 100000 in
set_option maxHeartbeats 8000000 in
theorem made_new (B lb off : Nat) (c : Array Value) (v0 v1 : Value) (kind place node win num s0 s1 s2 : Int) (w : World) (hb : w.heap[lb]? = some (.cells c 91 (0, 0))) (hB : B ≤ w.heap.size)
    (h0 : c[off]? = some v0) (h1 : c[off + 1]? = some v1) (hn : 0 ≤ node) (hw : 0 ≤ win) (hw' : win ≤ topW) (hk : (kind == 1) = true) :
    Calls Try.prog 40 #[.pointer (some ⟨lb, off, none⟩), .agg #[.int .i64 kind, .int .i64 place, .int .u32 node, .int .u64 win, .int .u64 num, .int .u64 s0, .int .u32 s1, .int .u32 s2]] w (MadeP B lb off c w) := by
  have HB := Lib.hid hb
  have hlb := lt_of_heap hb
  have H0 := Lib.hid h0
  have H1 := Lib.hid h1
  have HN := Lib.hid hn
  have HW := Lib.hid (And.intro hw hw')
  clear hb h0 h1 hn hw hw'
  go_enter Try.func40, Try.ntmps40
  go_wp2_with fail
  refine (new_any node win _).mono ?_
  rintro e w1 ⟨rfl, hb1, hs1, hk1⟩
  rw [World.size_alloc] at hs1 hk1
  have HX1 := Lib.hid (below_heap hb1 (heap_alloc_at w (opO kind place node win num s0 s1 s2)) (by simp))
  have HB1 := Lib.hid (below_heap hb1 (heap_alloc_old HB.out _) (by simp; omega))
  have HBw1 := Lib.hid (((Below.refl _ w).alloc (Nat.le_refl _) (opO kind place node win num s0 s1 s2)).trans (hb1.mono (by simp)))
  have HK1 := Lib.hid hk1
  have hsz1 : w.heap.size + 1 < w1.heap.size := by omega
  clear hb1 hk1 hs1
  have z0 : w1.cell? ⟨lb, off, none⟩ = some v0 := by simp [World.cell?, HB1.out, H0.out]
  have f0 : w1.frozen? ⟨lb, off, none⟩ = false := by simp [World.frozen?, HB1.out]
  obtain ⟨x0, x1, x2, x3, x4, x5, x6, x7⟩ := op_cells HX1.out
  have hnl : w.heap.size ≠ lb := by omega
  go_wp2_with fail
  have HB2 := Lib.hid (heap_set_same HB1.out off (.pointer (some ⟨w.heap.size + 1, 0, none⟩)))
  have HX2 := Lib.hid (heap_set_other (p := ⟨lb, off, none⟩) HX1.out (show w.heap.size ≠ lb by omega) (.pointer (some ⟨w.heap.size + 1, 0, none⟩)))
  have HK2 := Lib.hid (heap_set_other (p := ⟨lb, off, none⟩) HK1.out (show w.heap.size + 1 ≠ lb by omega) (.pointer (some ⟨w.heap.size + 1, 0, none⟩)))
  have HF2 := Lib.hid (Foot.set (F := (· = lb)) (Foot.ofBelow HBw1.out) rfl off (.pointer (some ⟨w.heap.size + 1, 0, none⟩)))
  have hsz2 : w1.heap.size = (w1.setCell ⟨lb, off, none⟩ (.pointer (some ⟨w.heap.size + 1, 0, none⟩))).heap.size := by simp
  clear z0 f0 HB1 HX1 HK1 HBw1 x0 x1 x2 x3 x4 x5 x6 x7 hnl
  generalize w1.setCell ⟨lb, off, none⟩ (.pointer (some ⟨w.heap.size + 1, 0, none⟩)) = w2 at *
  refine (dnew_any node win _).mono ?_
  rintro e w3 ⟨db, rg, sg, lg, g1, g2, g3, g4, rfl, hb3, hd3⟩
  have HB3 := Lib.hid (below_heap hb3 HB2.out (by omega))
  have HK3 := Lib.hid (below_heap hb3 HK2.out (by omega))
  have HF3 := Lib.hid (HF2.out.trans (Foot.ofBelow hb3))
  have HD3 := Lib.hid hd3
  have hsz3 := hb3.size
  clear hb3 hd3 HB2 HK2 HF2 HX2
  have hzz : ((c.setIfInBounds off (.pointer (some ⟨w.heap.size + 1, 0, none⟩)))[off + 1]?) = some v1 := by
    rw [Array.getElem?_setIfInBounds]; simp [H1.out]
  have z1 : w3.cell? ⟨lb, off + 1, none⟩ = some v1 := by simp only [World.cell?, HB3.out, hzz]; rfl
  have f1 : w3.frozen? ⟨lb, off + 1, none⟩ = false := by simp [World.frozen?, HB3.out]
  have hoc : off < c.size := by
    rcases Nat.lt_or_ge off c.size with h | h
    · exact h
    · have := H0.out; rw [Array.getElem?_eq_none h] at this; cases this
  have z2 : w3.cell? ⟨lb, off, none⟩ = some (.pointer (some ⟨w.heap.size + 1, 0, none⟩)) := by simp [World.cell?, HB3.out, hoc]
  clear hzz hoc
  go_wp2_with fail
  go_ret
  have hDb := HD3.out.le
  have F3 : Foot (· = lb) w3 (w3.setCell ⟨lb, off + 1, none⟩ (.pointer (some ⟨db, 0, none⟩))) := Foot.set (F := (· = lb)) (Foot.refl _ w3) rfl (off + 1) _
  refine ⟨⟨w.heap.size + 1, db, rg, sg, lg, node, win, 0, 0, 0, 0, 0, [0], [⟨0, 0, 0⟩], [0]⟩, rfl, HF3.out.trans F3, ⟨heap_set_other HK3.out (by show w.heap.size + 1 ≠ lb; omega) _, foot_dat F3 HD3.out (by show ¬ db = lb; omega) (by show ¬ rg = lb; omega) (by show ¬ sg = lb; omega) (by show ¬ lg = lb; omega), ?_, ?_, ?_⟩, agree_new (Int.le_refl _) (by decide) HN.out HW.out.1 HW.out.2, ?_, heap_set_same HB3.out (off + 1) _⟩
  · simp only; omega
  · simp only; omega
  · intro h; rcases h with h | h | h | h | h <;> simp only at h <;> omega
  · intro k h; rcases h with h | h | h | h | h <;> simp only at h <;> omega

set_option maxRecDepth 100000 in
set_option maxHeartbeats 8000000 in
theorem made_re (B lb off : Nat) (c : Array Value) (v0 v1 : Value) (kind place node win num s0 s1 s2 : Int) (w : World) (hb : w.heap[lb]? = some (.cells c 91 (0, 0))) (hB : B ≤ w.heap.size)
    (h0 : c[off]? = some v0) (h1 : c[off + 1]? = some v1) (hn : 0 ≤ node) (hw : 0 ≤ win) (hw' : win ≤ topW) (hm : 0 ≤ num ∧ num ≤ topW) (hk : (kind == 1) = false) :
    Calls Try.prog 40 #[.pointer (some ⟨lb, off, none⟩), .agg #[.int .i64 kind, .int .i64 place, .int .u32 node, .int .u64 win, .int .u64 num, .int .u64 s0, .int .u32 s1, .int .u32 s2]] w (MadeP B lb off c w) := by
  have HB := Lib.hid hb
  have hlb := lt_of_heap hb
  have H0 := Lib.hid h0
  have H1 := Lib.hid h1
  have HN := Lib.hid hn
  have HW := Lib.hid (And.intro hw hw')
  clear hb h0 h1 hn hw hw'
  go_enter Try.func40, Try.ntmps40
  go_wp2_with fail
  refine (reopen_any node win num _).mono ?_
  rintro e w1 ⟨rfl, hb1, hs1, hk1⟩
  rw [World.size_alloc] at hs1 hk1
  have HX1 := Lib.hid (below_heap hb1 (heap_alloc_at w (opO kind place node win num s0 s1 s2)) (by simp))
  have HB1 := Lib.hid (below_heap hb1 (heap_alloc_old HB.out _) (by simp; omega))
  have HBw1 := Lib.hid (((Below.refl _ w).alloc (Nat.le_refl _) (opO kind place node win num s0 s1 s2)).trans (hb1.mono (by simp)))
  have HK1 := Lib.hid hk1
  have hsz1 : w.heap.size + 1 < w1.heap.size := by omega
  clear hb1 hk1 hs1
  have z0 : w1.cell? ⟨lb, off, none⟩ = some v0 := by simp [World.cell?, HB1.out, H0.out]
  have f0 : w1.frozen? ⟨lb, off, none⟩ = false := by simp [World.frozen?, HB1.out]
  obtain ⟨x0, x1, x2, x3, x4, x5, x6, x7⟩ := op_cells HX1.out
  have hnl : w.heap.size ≠ lb := by omega
  go_wp2_with fail
  have HB2 := Lib.hid (heap_set_same HB1.out off (.pointer (some ⟨w.heap.size + 1, 0, none⟩)))
  have HX2 := Lib.hid (heap_set_other (p := ⟨lb, off, none⟩) HX1.out (show w.heap.size ≠ lb by omega) (.pointer (some ⟨w.heap.size + 1, 0, none⟩)))
  have HK2 := Lib.hid (heap_set_other (p := ⟨lb, off, none⟩) HK1.out (show w.heap.size + 1 ≠ lb by omega) (.pointer (some ⟨w.heap.size + 1, 0, none⟩)))
  have HF2 := Lib.hid (Foot.set (F := (· = lb)) (Foot.ofBelow HBw1.out) rfl off (.pointer (some ⟨w.heap.size + 1, 0, none⟩)))
  have hsz2 : w1.heap.size = (w1.setCell ⟨lb, off, none⟩ (.pointer (some ⟨w.heap.size + 1, 0, none⟩))).heap.size := by simp
  clear z0 f0 HB1 HX1 HK1 HBw1 x0 x1 x2 x3 x4 x5 x6 x7 hnl
  generalize w1.setCell ⟨lb, off, none⟩ (.pointer (some ⟨w.heap.size + 1, 0, none⟩)) = w2 at *
  refine (dreopen_any node win num _).mono ?_
  rintro e w3 ⟨db, rg, sg, lg, g1, g2, g3, g4, rfl, hb3, hd3⟩
  have HB3 := Lib.hid (below_heap hb3 HB2.out (by omega))
  have HK3 := Lib.hid (below_heap hb3 HK2.out (by omega))
  have HF3 := Lib.hid (HF2.out.trans (Foot.ofBelow hb3))
  have HD3 := Lib.hid hd3
  have hsz3 := hb3.size
  clear hb3 hd3 HB2 HK2 HF2 HX2
  have hzz : ((c.setIfInBounds off (.pointer (some ⟨w.heap.size + 1, 0, none⟩)))[off + 1]?) = some v1 := by
    rw [Array.getElem?_setIfInBounds]; simp [H1.out]
  have z1 : w3.cell? ⟨lb, off + 1, none⟩ = some v1 := by simp only [World.cell?, HB3.out, hzz]; rfl
  have f1 : w3.frozen? ⟨lb, off + 1, none⟩ = false := by simp [World.frozen?, HB3.out]
  have hoc : off < c.size := by
    rcases Nat.lt_or_ge off c.size with h | h
    · exact h
    · have := H0.out; rw [Array.getElem?_eq_none h] at this; cases this
  have z2 : w3.cell? ⟨lb, off, none⟩ = some (.pointer (some ⟨w.heap.size + 1, 0, none⟩)) := by simp [World.cell?, HB3.out, hoc]
  clear hzz hoc
  go_wp2_with fail
  go_ret
  have hDb := HD3.out.le
  have F3 : Foot (· = lb) w3 (w3.setCell ⟨lb, off + 1, none⟩ (.pointer (some ⟨db, 0, none⟩))) := Foot.set (F := (· = lb)) (Foot.refl _ w3) rfl (off + 1) _
  refine ⟨⟨w.heap.size + 1, db, rg, sg, lg, node, win, num, 0, num, 0, 0, [0], [⟨num, 0, 0⟩], [num]⟩, rfl, HF3.out.trans F3, ⟨heap_set_other HK3.out (by show w.heap.size + 1 ≠ lb; omega) _, foot_dat F3 HD3.out (by show ¬ db = lb; omega) (by show ¬ rg = lb; omega) (by show ¬ sg = lb; omega) (by show ¬ lg = lb; omega), ?_, ?_, ?_⟩, agree_new hm.1 hm.2 HN.out HW.out.1 HW.out.2, ?_, heap_set_same HB3.out (off + 1) _⟩
  · simp only; omega
  · simp only; omega
  · intro h; rcases h with h | h | h | h | h <;> simp only at h <;> omega
  · intro k h; rcases h with h | h | h | h | h <;> simp only at h <;> omega

end Go.Proofs.Ytlgkolmlcbfppaa
