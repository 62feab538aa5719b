/- tidemarkref1.Pack: the bytes of a stamp, by the document. -/
import Derived.Test.YtdpgfjdndohcdaaDoorHeldMore
import Derived.Test.YtdpgfjdndohcdaaDoorLeaf
namespace Go.Proofs.YtdpgfjdndohcdaaDoor
open Go.RowKit

/-- The document's bytes of a stamp. -/
def refP (x y z : Nat) : List UInt8 := bigL x 8 ++ bigL y 4 ++ bigL z 4

set_option maxHeartbeats 2000000 in
theorem refpack_any (x y z : Nat) (w : World) (hx : x < 18446744073709551616) (hy : y < 4294967296) (hz : z < 4294967296) :
    Calls Tryd.prog 23 #[.agg #[.int .u64 x, .int .u32 y, .int .u32 z]] w fun e w' => e = .returned (.string ⟨(refP x y z).toArray⟩) ∧ Below w.heap.size w w' := by
  have X1 := Lib.hid hx
  have Y1 := Lib.hid hy
  have Z1 := Lib.hid hz
  have uy : IntKind.u64.wrap (y : Int) = (y : Int) := by rw [IntKind.wrap_u64]; omega
  have uz : IntKind.u64.wrap (z : Int) = (z : Int) := by rw [IntKind.wrap_u64]; omega
  clear hx hy hz
  go_enter Tryd.func23, Tryd.ntmps23
  go_wp2_with fail
  refine wp_region_held (S := fun w' => w'.heap[w.heap.size]? = some (stO x y z)) (by kernel_rfl) ?_
  change wpAnyH _ _ _ _ _ _ _ _ (w.alloc (stO x y z)).drew
  have HS := Lib.hid (p := (w.alloc (stO x y z)).drew.heap[w.heap.size]? = some (stO x y z)) (heap_alloc_at w _)
  have HB := Lib.hid (p := Below w.heap.size w (w.alloc (stO x y z)).drew) ((Below.refl _ w).alloc (Nat.le_refl _) _).drew
  generalize (w.alloc (stO x y z)).drew = w1 at *
  have n1 : (ByteArray.mk (bigL x 8).toArray).size = 8 := by rw [mk_size, bigL_length]
  have n2 : (ByteArray.mk (bigL y 4).toArray).size = 4 := by rw [mk_size, bigL_length]
  have n3 : (ByteArray.mk (bigL z 4).toArray).size = 4 := by rw [mk_size, bigL_length]
  refine held_take 0 (.pointer (some ⟨w.heap.size, 0, none⟩)) HS.out rfl (fun _ _ _ h => h) (by kernel_rfl) (by kernel_rfl) (by kernel_rfl) rfl (fun w7 h7 => by obtain ⟨q0, q1, q2⟩ := st_cells h7; go_simp) ?_
  simp only [Act.put, List.setIfInBounds_toArray, List.set_cons_zero, List.set_cons_succ, List.getElem_toArray, List.getElem_cons_zero]
  refine held_take 1 (.int .u64 x) HS.out rfl (fun _ _ _ h => h) (by kernel_rfl) (by kernel_rfl) (by kernel_rfl) rfl (fun w7 h7 => by obtain ⟨q0, q1, q2⟩ := st_cells h7; go_simp) ?_
  simp only [Act.put, List.setIfInBounds_toArray, List.set_cons_zero, List.set_cons_succ, List.getElem_toArray, List.getElem_cons_zero, List.getElem_cons_succ]
  refine held_take 3 (.pointer (some ⟨w.heap.size, 1, none⟩)) HS.out rfl (fun _ _ _ h => h) (by kernel_rfl) (by kernel_rfl) (by kernel_rfl) rfl (fun w7 h7 => by obtain ⟨q0, q1, q2⟩ := st_cells h7; go_simp) ?_
  simp only [Act.put, List.setIfInBounds_toArray, List.set_cons_zero, List.set_cons_succ, List.getElem_toArray, List.getElem_cons_zero, List.getElem_cons_succ]
  refine held_take 4 (.int .u32 y) HS.out rfl (fun _ _ _ h => h) (by kernel_rfl) (by kernel_rfl) (by kernel_rfl) rfl (fun w7 h7 => by obtain ⟨q0, q1, q2⟩ := st_cells h7; go_simp) ?_
  simp only [Act.put, List.setIfInBounds_toArray, List.set_cons_zero, List.set_cons_succ, List.getElem_toArray, List.getElem_cons_zero, List.getElem_cons_succ]
  refine held_take 5 (.int .u64 y) HS.out rfl (fun _ _ _ h => h) (by kernel_rfl) (by kernel_rfl) (by kernel_rfl) rfl (fun w7 h7 => by obtain ⟨q0, q1, q2⟩ := st_cells h7; go_simp) ?_
  simp only [Act.put, List.setIfInBounds_toArray, List.set_cons_zero, List.set_cons_succ, List.getElem_toArray, List.getElem_cons_zero, List.getElem_cons_succ]
  refine held_take 8 (.pointer (some ⟨w.heap.size, 2, none⟩)) HS.out rfl (fun _ _ _ h => h) (by kernel_rfl) (by kernel_rfl) (by kernel_rfl) rfl (fun w7 h7 => by obtain ⟨q0, q1, q2⟩ := st_cells h7; go_simp) ?_
  simp only [Act.put, List.setIfInBounds_toArray, List.set_cons_zero, List.set_cons_succ, List.getElem_toArray, List.getElem_cons_zero, List.getElem_cons_succ]
  refine held_take 9 (.int .u32 z) HS.out rfl (fun _ _ _ h => h) (by kernel_rfl) (by kernel_rfl) (by kernel_rfl) rfl (fun w7 h7 => by obtain ⟨q0, q1, q2⟩ := st_cells h7; go_simp) ?_
  simp only [Act.put, List.setIfInBounds_toArray, List.set_cons_zero, List.set_cons_succ, List.getElem_toArray, List.getElem_cons_zero, List.getElem_cons_succ]
  refine held_take 10 (.int .u64 z) HS.out rfl (fun _ _ _ h => h) (by kernel_rfl) (by kernel_rfl) (by kernel_rfl) rfl (fun w7 h7 => by obtain ⟨q0, q1, q2⟩ := st_cells h7; go_simp) ?_
  simp only [Act.put, List.setIfInBounds_toArray, List.set_cons_zero, List.set_cons_succ, List.getElem_toArray, List.getElem_cons_zero, List.getElem_cons_succ]
  refine held_call 2 (f := 34) (args := #[.int .u64 x, .int .i64 8]) rfl (by kernel_rfl) rfl (by go_simp) ?_
  refine (big_any x 8 X1.out (by decide) w1).mono ?_
  rintro e w2 ⟨rfl, hbk⟩
  have HS := Lib.hid (below_heap hbk HS.out (lt_of_heap HS.out))
  have HB := Lib.hid (p := Below w.heap.size w w2) (HB.out.trans (hbk.mono HB.out.size))
  clear hbk
  refine ⟨_, rfl, HS.out, ?_⟩
  simp only [Act.put, List.setIfInBounds_toArray, List.set_cons_zero, List.set_cons_succ, List.getElem_toArray, List.getElem_cons_zero, List.getElem_cons_succ]
  refine held_call 6 (f := 34) (args := #[.int .u64 y, .int .i64 4]) rfl (by kernel_rfl) rfl (by go_simp) ?_
  refine (big_any y 4 (by have := Y1.out; omega) (by decide) w2).mono ?_
  rintro e w3 ⟨rfl, hbk⟩
  have HS := Lib.hid (below_heap hbk HS.out (lt_of_heap HS.out))
  have HB := Lib.hid (p := Below w.heap.size w w3) (HB.out.trans (hbk.mono HB.out.size))
  clear hbk
  refine ⟨_, rfl, HS.out, ?_⟩
  simp only [Act.put, List.setIfInBounds_toArray, List.set_cons_zero, List.set_cons_succ, List.getElem_toArray, List.getElem_cons_zero, List.getElem_cons_succ]
  refine held_take 7 (.string (⟨(bigL x 8).toArray⟩ ++ ⟨(bigL y 4).toArray⟩)) HS.out rfl (fun _ _ _ h => h) (by kernel_rfl) (by kernel_rfl) (by kernel_rfl) rfl (fun w7 h7 => by go_simp) ?_
  simp only [Act.put, List.setIfInBounds_toArray, List.set_cons_zero, List.set_cons_succ, List.getElem_toArray, List.getElem_cons_zero, List.getElem_cons_succ]
  refine held_call 11 (f := 34) (args := #[.int .u64 z, .int .i64 4]) rfl (by kernel_rfl) rfl (by go_simp) ?_
  refine (big_any z 4 (by have := Z1.out; omega) (by decide) w3).mono ?_
  rintro e w4 ⟨rfl, hbk⟩
  have HS := Lib.hid (below_heap hbk HS.out (lt_of_heap HS.out))
  have HB := Lib.hid (p := Below w.heap.size w w4) (HB.out.trans (hbk.mono HB.out.size))
  clear hbk
  refine ⟨_, rfl, HS.out, ?_⟩
  simp only [Act.put, List.setIfInBounds_toArray, List.set_cons_zero, List.set_cons_succ, List.getElem_toArray, List.getElem_cons_zero, List.getElem_cons_succ]
  refine held_take 12 (.string ((⟨(bigL x 8).toArray⟩ ++ ⟨(bigL y 4).toArray⟩) ++ ⟨(bigL z 4).toArray⟩)) HS.out rfl (fun _ _ _ h => h) (by kernel_rfl) (by kernel_rfl) (by kernel_rfl) rfl (fun w7 h7 => by go_simp) ?_
  simp only [Act.put, List.setIfInBounds_toArray, List.set_cons_zero, List.set_cons_succ, List.getElem_toArray, List.getElem_cons_zero, List.getElem_cons_succ]
  refine held_take 13 (.string ((⟨(bigL x 8).toArray⟩ ++ ⟨(bigL y 4).toArray⟩) ++ ⟨(bigL z 4).toArray⟩)) HS.out rfl (fun _ _ _ h => h) (by kernel_rfl) (by kernel_rfl) (by kernel_rfl) rfl (fun w7 h7 => by go_simp) ?_
  simp only [Act.put, List.setIfInBounds_toArray, List.set_cons_zero, List.set_cons_succ, List.getElem_toArray, List.getElem_cons_zero, List.getElem_cons_succ]
  refine wpAnyH_done (by kernel_rfl) ?_ _
  go_wp2_with fail
  go_ret
  exact ⟨by rw [mk_append, mk_append]; rfl, HB.out⟩
end Go.Proofs.YtdpgfjdndohcdaaDoor
