/- What stamp.Less and stamp.Max answer. -/
import Derived.Test.YtdpgfjdndohcdaaDoorBase
import Derived.Deep.QuietTactic
import Derived.BigQuiet
namespace Go.Proofs.YtdpgfjdndohcdaaDoor
open Go.RowKit

set_option maxHeartbeats 400000 in
/-- stamp.Less -/
theorem less_any (a0 a1 a2 b0 b1 b2 : Int) (w : World) :
    Calls Tryd.prog 21 #[.agg #[.int .u64 a0, .int .u32 a1, .int .u32 a2], .agg #[.int .u64 b0, .int .u32 b1, .int .u32 b2]] w fun e w' => e = .returned (.bool (ltB a0 a1 a2 b0 b1 b2)) ∧ Below w.heap.size w w' := by
  go_enter Tryd.func21, Tryd.ntmps21
  go_wp2
  · go_ret
    rename_i h
    exact ⟨ret_bool (ltB_1 h).symm, ((Below.refl _ _).alloc (Nat.le_refl _) _).alloc (by simp) _⟩
  · go_ret
    rename_i h k
    exact ⟨ret_bool (ltB_2 ‹_› ‹_›).symm, ((Below.refl _ _).alloc (Nat.le_refl _) _).alloc (by simp) _⟩
  · go_ret
    rename_i h k
    exact ⟨ret_bool (ltB_3 ‹_› ‹_›).symm, ((Below.refl _ _).alloc (Nat.le_refl _) _).alloc (by simp) _⟩

def MaxRel (w : World) (f : Nat → St) (n : Nat) (i : Value) (wr : World) : Prop :=
  ∃ k : Nat, k ≤ n ∧ i = .int .i64 k ∧ Below w.heap.size w wr ∧ w.heap.size + 1 < wr.heap.size ∧ wr.heap[w.heap.size]? = some (stO 0 0 0) ∧ wr.heap[w.heap.size + 1]? = some (stO (maxTo f k).w (maxTo f k).l (maxTo f k).n)

set_option maxHeartbeats 1000000 in
/-- stamp.Max -/
theorem max_any (b off n cap : Nat) (f : Nat → St) (w : World) (hn : n ≤ 1000000000000000000)
    (hc : ∀ k, k < n → w.cell? ⟨b, off + k * 3, none⟩ = some (.int .u64 (f k).w) ∧ w.cell? ⟨b, off + k * 3 + 1, none⟩ = some (.int .u32 (f k).l) ∧ w.cell? ⟨b, off + k * 3 + 2, none⟩ = some (.int .u32 (f k).n)) (hb : b < w.heap.size) :
    Calls Tryd.prog 12 #[.slice (some ⟨b, off, none⟩) n cap] w fun e w' => e = .returned (.agg #[.int .u64 (maxTo f n).w, .int .u32 (maxTo f n).l, .int .u32 (maxTo f n).n]) ∧ Below w.heap.size w w' := by
  have HC := Lib.hid hc
  clear hc
  go_enter Tryd.func12, Tryd.ntmps12
  go_wp2
  go_loopw [8] (MaxRel w f n) (fun i _ => n - (intOf i).toNat)
  case atStart => exact ⟨0, Nat.zero_le _, rfl, ((Below.refl _ _).alloc (Nat.le_refl _) _).alloc (by simp) _, by simp, heap_alloc_old (heap_alloc_at _ _) _, by
    have := heap_alloc_at (w.alloc (stO 0 0 0)) (stO 0 0 0)
    rw [World.size_alloc] at this
    exact this⟩
  case round =>
    obtain ⟨k, hk, rfl, hB, hs, hz, hm⟩ := hrel
    by_cases hlt : k < n
    · obtain ⟨d0, d1, d2⟩ := HC.out k hlt
      rw [← hB.cell (by simpa using hb)] at d0 d1 d2
      obtain ⟨m0, m1, m2⟩ := st_cells hm
      have mf := st_free hm
      have hbr : b < wr.heap.size := by omega
      have HB := Lib.hid hB
      have HZ := Lib.hid hz
      have HM := Lib.hid hm
      clear hB hz hm
      go_wp2_with fail
      with_reducible refine (less_any _ _ _ _ _ _ _).mono ?_
      rintro e w1 ⟨rfl, hb1⟩
      simp only [World.size_alloc] at hb1
      have hm1 := below_heap hb1 (heap_alloc_old HM.out _) (by omega)
      have hz1 := below_heap hb1 (heap_alloc_old HZ.out _) (by omega)
      have ho1 := below_heap hb1 (heap_alloc_at wr _) (by omega)
      have hs1 : wr.heap.size < w1.heap.size := by have := hb1.size; rw [World.size_alloc] at this; omega
      obtain ⟨p0, p1, p2⟩ := st_cells (x := (f k).w) (y := (f k).l) (z := (f k).n) ho1
      obtain ⟨q0, q1, q2⟩ := st_cells hm1
      have qf := st_free hm1
      have HM1 := Lib.hid hm1
      have HZ1 := Lib.hid hz1
      have HB1 := Lib.hid (hb1.mono (Nat.le_succ _))
      clear hm1 hz1 ho1 hb1 d0 d1 d2 m0 m1 m2 mf HM HZ
      by_cases hb : ltB (maxTo f k).w (maxTo f k).l (maxTo f k).n (f k).w (f k).l (f k).n = true
      · have HL := Lib.hid hb
        go_wp2
        exact ⟨⟨k + 1, by omega, by go_num, ((((HB.out.alloc (by omega) _).trans (HB1.out.mono (by omega))).setCell (by simp) _).setCell (by simp) _).setCell (by simp) _, by simpa using (by omega), heap_set_other (heap_set_other (heap_set_other HZ1.out (by simp) _) (by simp) _) (by simp) _, by rw [maxTo_yes HL.out]; exact st_set3 HM1.out _ _ _⟩, by simp [intOf]; omega⟩
      · have HL := Lib.hid hb
        simp only [Bool.not_eq_true] at hb
        go_wp2
        exact ⟨⟨k + 1, by omega, by go_num, (HB.out.alloc (by omega) _).trans (HB1.out.mono (by omega)), by omega, HZ1.out, by rw [maxTo_no HL.out]; exact HM1.out⟩, by simp [intOf]; omega⟩
    · obtain ⟨m0, m1, m2⟩ := st_cells hm
      obtain ⟨z0, z1, z2⟩ := st_cells hz
      have zf := st_free hz
      have HB := Lib.hid hB
      have HZ := Lib.hid hz
      obtain rfl : k = n := by omega
      clear hB hz hm
      go_wp2
      exact end_st (p := 2) Tryd.results12 rfl (st_set3 HZ.out _ _ _) rfl ⟨rfl, ((HB.out.setCell (by simp) _).setCell (by simp) _).setCell (by simp) _⟩
end Go.Proofs.YtdpgfjdndohcdaaDoor
