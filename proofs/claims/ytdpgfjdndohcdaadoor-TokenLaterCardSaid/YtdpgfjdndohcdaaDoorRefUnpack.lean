/- tidemarkref1.Unpack of 16 bytes: the stamp that they spell. -/
import Derived.Test.YtdpgfjdndohcdaaDoorHeldMore
import Derived.Test.YtdpgfjdndohcdaaDoorLeaf
namespace Go.Proofs.YtdpgfjdndohcdaaDoor
open Go.RowKit

theorem liftN_congr {f g : Nat → Nat} {a b : Nat} : ∀ k, (∀ j, j < k → f (a + j) = g (b + j)) → liftN f a k = liftN g b k
  | 0, _ => rfl
  | k + 1, h => by rw [liftN, liftN, liftN_congr k (fun j hj => h j (by omega)), h k (by omega)]
theorem bF_extract (s : ByteArray) (o n j : Nat) (hs : o + n ≤ s.size) (hj : j < n) : bF (s.extract o (o + n)) j = bF s (o + j) := by
  have h1 : o + j < s.data.toList.length := by simp; omega
  unfold bF
  rw [List.getD_eq_getElem?_getD, List.getD_eq_getElem?_getD, List.getElem?_eq_getElem h1]
  have h2 : o + j < s.data.size := by simpa using h1
  simp [List.getElem?_drop, hj, Array.getElem?_eq_getElem h2]
theorem lift_part (s t : ByteArray) (o n : Nat) (hs : o + n ≤ s.size) (ht : s.extract o (o + n) = t) (hn : t.size = n) : liftN (bF t) 0 t.size = liftN (bF s) o n := by
  rw [hn, ← ht]
  exact liftN_congr n fun j hj => by rw [Nat.zero_add, bF_extract s o n j hs hj]

set_option maxHeartbeats 2000000 in
theorem refunpack_any (s : ByteArray) (w : World) (hs : s.size = 16) :
    Calls Tryd.prog 27 #[.string s] w fun e w' => e = .returned (.tuple #[.agg #[.int .u64 (liftN (bF s) 0 8 : Nat), .int .u32 (liftN (bF s) 8 4 : Nat), .int .u32 (liftN (bF s) 12 4 : Nat)], .int .i64 0]) ∧ Below w.heap.size w w' := by
  obtain ⟨s1, e1⟩ : ∃ t, s.extract 0 8 = t := ⟨_, rfl⟩
  obtain ⟨s2, e2⟩ : ∃ t, s.extract 8 12 = t := ⟨_, rfl⟩
  obtain ⟨s3, e3⟩ : ∃ t, s.extract 12 16 = t := ⟨_, rfl⟩
  have n1 : s1.size = 8 := by rw [← e1]; simp [hs]
  have n2 : s2.size = 4 := by rw [← e2]; simp [hs]
  have n3 : s3.size = 4 := by rw [← e3]; simp [hs]
  have g1 := lift_part s s1 0 8 (by omega) e1 n1
  have g2 := lift_part s s2 8 4 (by omega) e2 n2
  have g3 := lift_part s s3 12 4 (by omega) e3 n3
  have hy : IntKind.u32.wrap ((liftN (bF s) 8 4 : Nat) : Int) = ((liftN (bF s) 8 4 : Nat) : Int) := by
    rw [IntKind.wrap_u32]
    have := liftN_lt (bF s) (bF_lt s) 8 4
    omega
  have hz : IntKind.u32.wrap ((liftN (bF s) 12 4 : Nat) : Int) = ((liftN (bF s) 12 4 : Nat) : Int) := by
    rw [IntKind.wrap_u32]
    have := liftN_lt (bF s) (bF_lt s) 12 4
    omega
  go_enter Tryd.func27, Tryd.ntmps27
  go_wp2_with fail
  refine wp_region_held (S := fun _ => True) (by kernel_rfl) ?_
  change wpAnyH _ _ _ _ _ _ _ _ (w.alloc (stO 0 0 0)).drew
  have HS := Lib.hid (p := (w.alloc (stO 0 0 0)).drew.heap[w.heap.size]? = some (stO 0 0 0)) (heap_alloc_at w _)
  have HB := Lib.hid (p := Below w.heap.size w (w.alloc (stO 0 0 0)).drew) ((Below.refl _ w).alloc (Nat.le_refl _) _).drew
  generalize (w.alloc (stO 0 0 0)).drew = w1 at *
  refine held_take 0 (.string s) trivial rfl (fun _ _ _ h => h) (by kernel_rfl) (by kernel_rfl) (by kernel_rfl) rfl (fun w7 h7 => by go_simp) ?_
  simp only [Act.put, List.setIfInBounds_toArray, List.set_cons_zero, List.set_cons_succ, List.getElem_toArray, List.getElem_cons_zero]
  refine held_take 1 (.string s1) trivial rfl (fun _ _ _ h => h) (by kernel_rfl) (by kernel_rfl) (by kernel_rfl) rfl (fun w7 h7 => by go_simp) ?_
  simp only [Act.put, List.setIfInBounds_toArray, List.set_cons_zero, List.set_cons_succ, List.getElem_toArray, List.getElem_cons_zero, List.getElem_cons_succ]
  refine held_take 3 (.string s) trivial rfl (fun _ _ _ h => h) (by kernel_rfl) (by kernel_rfl) (by kernel_rfl) rfl (fun w7 h7 => by go_simp) ?_
  simp only [Act.put, List.setIfInBounds_toArray, List.set_cons_zero, List.set_cons_succ, List.getElem_toArray, List.getElem_cons_zero, List.getElem_cons_succ]
  refine held_take 4 (.string s2) trivial rfl (fun _ _ _ h => h) (by kernel_rfl) (by kernel_rfl) (by kernel_rfl) rfl (fun w7 h7 => by go_simp) ?_
  simp only [Act.put, List.setIfInBounds_toArray, List.set_cons_zero, List.set_cons_succ, List.getElem_toArray, List.getElem_cons_zero, List.getElem_cons_succ]
  refine held_take 7 (.string s) trivial rfl (fun _ _ _ h => h) (by kernel_rfl) (by kernel_rfl) (by kernel_rfl) rfl (fun w7 h7 => by go_simp) ?_
  simp only [Act.put, List.setIfInBounds_toArray, List.set_cons_zero, List.set_cons_succ, List.getElem_toArray, List.getElem_cons_zero, List.getElem_cons_succ]
  refine held_take 8 (.string s3) trivial rfl (fun _ _ _ h => h) (by kernel_rfl) (by kernel_rfl) (by kernel_rfl) rfl (fun w7 h7 => by go_simp) ?_
  simp only [Act.put, List.setIfInBounds_toArray, List.set_cons_zero, List.set_cons_succ, List.getElem_toArray, List.getElem_cons_zero, List.getElem_cons_succ]
  refine held_call 2 (f := 36) (args := #[.string s1]) rfl (by kernel_rfl) rfl (by go_simp) ?_
  refine (small_any s1 _ (by rw [n1]; decide)).mono ?_
  rintro e wk ⟨rfl, hw⟩
  subst wk
  rw [g1]
  refine ⟨_, rfl, trivial, ?_⟩
  simp only [Act.put, List.setIfInBounds_toArray, List.set_cons_zero, List.set_cons_succ, List.getElem_toArray, List.getElem_cons_zero, List.getElem_cons_succ]
  refine held_call 5 (f := 36) (args := #[.string s2]) rfl (by kernel_rfl) rfl (by go_simp) ?_
  refine (small_any s2 _ (by rw [n2]; decide)).mono ?_
  rintro e wk ⟨rfl, hw⟩
  subst wk
  rw [g2]
  refine ⟨_, rfl, trivial, ?_⟩
  simp only [Act.put, List.setIfInBounds_toArray, List.set_cons_zero, List.set_cons_succ, List.getElem_toArray, List.getElem_cons_zero, List.getElem_cons_succ]
  refine held_take 6 (.int .u32 (liftN (bF s) 8 4 : Nat)) trivial rfl (fun _ _ _ h => h) (by kernel_rfl) (by kernel_rfl) (by kernel_rfl) rfl (fun w7 h7 => by go_simp) ?_
  simp only [Act.put, List.setIfInBounds_toArray, List.set_cons_zero, List.set_cons_succ, List.getElem_toArray, List.getElem_cons_zero, List.getElem_cons_succ]
  refine held_call 9 (f := 36) (args := #[.string s3]) rfl (by kernel_rfl) rfl (by go_simp) ?_
  refine (small_any s3 _ (by rw [n3]; decide)).mono ?_
  rintro e wk ⟨rfl, hw⟩
  subst wk
  rw [g3]
  refine ⟨_, rfl, trivial, ?_⟩
  simp only [Act.put, List.setIfInBounds_toArray, List.set_cons_zero, List.set_cons_succ, List.getElem_toArray, List.getElem_cons_zero, List.getElem_cons_succ]
  refine held_take 10 (.int .u32 (liftN (bF s) 12 4 : Nat)) trivial rfl (fun _ _ _ h => h) (by kernel_rfl) (by kernel_rfl) (by kernel_rfl) rfl (fun w7 h7 => by go_simp) ?_
  simp only [Act.put, List.setIfInBounds_toArray, List.set_cons_zero, List.set_cons_succ, List.getElem_toArray, List.getElem_cons_zero, List.getElem_cons_succ]
  refine held_take 11 (.agg #[.int .u64 (liftN (bF s) 0 8 : Nat), .int .u32 (liftN (bF s) 8 4 : Nat), .int .u32 (liftN (bF s) 12 4 : Nat)]) trivial rfl (fun _ _ _ h => h) (by kernel_rfl) (by kernel_rfl) (by kernel_rfl) rfl (fun w7 h7 => by go_simp) ?_
  simp only [Act.put, List.setIfInBounds_toArray, List.set_cons_zero, List.set_cons_succ, List.getElem_toArray, List.getElem_cons_zero, List.getElem_cons_succ]
  have HS2 := Lib.hid (st_set3 HS.out (liftN (bF s) 0 8 : Nat) (liftN (bF s) 8 4 : Nat) (liftN (bF s) 12 4 : Nat))
  have HB2 := Lib.hid (((HB.out.setCell (p := ⟨w.heap.size, 0, none⟩) (Nat.le_refl _) (.int .u64 (liftN (bF s) 0 8 : Nat))).setCell (p := ⟨w.heap.size, 1, none⟩) (Nat.le_refl _) (.int .u32 (liftN (bF s) 8 4 : Nat))).setCell (p := ⟨w.heap.size, 2, none⟩) (Nat.le_refl _) (.int .u32 (liftN (bF s) 12 4 : Nat)))
  refine held_store 12 rfl (by kernel_rfl) rfl (run_op_store 25 (.tmp 2) (.tmp 19) rfl (store_st HS.out _ _ _)) trivial ?_
  simp only [Act.put, List.getElem_toArray, List.getElem_cons_zero, List.getElem_cons_succ]
  refine held_take 13 (.int .i64 0) trivial rfl (fun _ _ _ h => h) (by kernel_rfl) (by kernel_rfl) (by kernel_rfl) rfl (fun w7 h7 => by go_simp) ?_
  simp only [Act.put, List.setIfInBounds_toArray, List.set_cons_zero, List.set_cons_succ, List.getElem_toArray, List.getElem_cons_zero, List.getElem_cons_succ]
  refine wpAnyH_done (by kernel_rfl) ?_ _
  generalize (((w1.setCell _ _).setCell _ _).setCell _ _) = w2 at *
  go_wp2_with fail
  exact end_st2 rfl rfl rfl HS2.out rfl ⟨rfl, HB2.out⟩
end Go.Proofs.YtdpgfjdndohcdaaDoor
