/- tidemarkref1.Less: the document's order of two stamps is the program's. -/
import Derived.Test.YtdpgfjdndohcdaaDoorMax
namespace Go.Proofs.YtdpgfjdndohcdaaDoor
open Go.RowKit

theorem ltB_lt {a0 a1 a2 b0 b1 b2 : Int} (h : a0 < b0) : ltB a0 a1 a2 b0 b1 b2 = true := by
  unfold ltB; rw [if_pos (by omega)]; simpa using h
theorem ltB_gt {a0 a1 a2 b0 b1 b2 : Int} (h : b0 < a0) : ltB a0 a1 a2 b0 b1 b2 = false := by
  unfold ltB; rw [if_pos (by omega)]; simp; omega
theorem ltB_elt {a0 a1 a2 b1 b2 : Int} (h : a1 < b1) : ltB a0 a1 a2 a0 b1 b2 = true := by
  unfold ltB; rw [if_neg (by omega), if_pos (by omega)]; simpa using h
theorem ltB_egt {a0 a1 a2 b1 b2 : Int} (h : b1 < a1) : ltB a0 a1 a2 a0 b1 b2 = false := by
  unfold ltB; rw [if_neg (by omega), if_pos (by omega)]; simp; omega
theorem ltB_ee {a0 a1 a2 b2 : Int} : ltB a0 a1 a2 a0 a1 b2 = decide (a2 < b2) := by
  unfold ltB; rw [if_neg (by omega), if_neg (by omega)]

set_option maxHeartbeats 2000000 in
theorem refless_any (a0 a1 a2 b0 b1 b2 : Int) (w : World) :
    Calls Tryd.prog 22 #[.agg #[.int .u64 a0, .int .u32 a1, .int .u32 a2], .agg #[.int .u64 b0, .int .u32 b1, .int .u32 b2]] w fun e w' => e = .returned (.bool (ltB a0 a1 a2 b0 b1 b2)) ∧ Below w.heap.size w w' := by
  have HB := Lib.hid (((Below.refl w.heap.size w).alloc (Nat.le_refl _) (stO a0 a1 a2)).alloc (by simp) (stO b0 b1 b2))
  rcases Int.lt_trichotomy a0 b0 with h | h | h
  · have h1 : decide (a0 < b0) = true := by simpa using h
    go_enter Tryd.func22, Tryd.ntmps22
    go_wp2_with fail
    go_ret
    exact ⟨ret_bool (ltB_lt h).symm, HB.out⟩
  · subst h
    rcases Int.lt_trichotomy a1 b1 with h | h | h
    · have h1 : decide (a1 < b1) = true := by simpa using h
      go_enter Tryd.func22, Tryd.ntmps22
      go_wp2_with fail
      go_ret
      exact ⟨ret_bool (ltB_elt h).symm, HB.out⟩
    · subst h
      go_enter Tryd.func22, Tryd.ntmps22
      go_wp2_with fail
      go_ret
      exact ⟨ret_bool ltB_ee.symm, HB.out⟩
    · have h1 : decide (a1 < b1) = false := by simp; omega
      have h2 : (a1 == b1) = false := by simp; omega
      go_enter Tryd.func22, Tryd.ntmps22
      go_wp2_with fail
      go_ret
      exact ⟨ret_bool (ltB_egt h).symm, HB.out⟩
  · have h1 : decide (a0 < b0) = false := by simp; omega
    have h2 : (a0 == b0) = false := by simp; omega
    go_enter Tryd.func22, Tryd.ntmps22
    go_wp2_with fail
    go_ret
    exact ⟨ret_bool (ltB_gt h).symm, HB.out⟩
end Go.Proofs.YtdpgfjdndohcdaaDoor
