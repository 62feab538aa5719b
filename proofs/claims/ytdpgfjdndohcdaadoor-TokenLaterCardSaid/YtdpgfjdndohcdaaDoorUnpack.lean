/- stamp.Unpack of 16 bytes: the three numbers that they spell. -/
import Derived.Test.YtdpgfjdndohcdaaDoorHeld
import Derived.Lib.BufferWrite
namespace Go.Proofs.YtdpgfjdndohcdaaDoor
open Go.RowKit

set_option maxHeartbeats 4000000 in
/-- stamp.Unpack -/
theorem unpack_any (s : ByteArray) (w : World) (hs : s.size = 16) :
    Calls Tryd.prog 20 #[.string s] w fun e w' => e = .returned (.tuple #[.agg #[.int .u64 (liftN (bF s) 0 8 : Nat), .int .u32 (liftN (bF s) 8 4 : Nat), .int .u32 (liftN (bF s) 12 4 : Nat)], .int .i64 0]) ∧ Below w.heap.size w w' := by
  go_enter Tryd.func20, Tryd.ntmps20
  go_wp2_with fail
  have e0 : (#[.int .u8 0, .int .u8 0, .int .u8 0, .int .u8 0, .int .u8 0, .int .u8 0, .int .u8 0, .int .u8 0, .int .u8 0, .int .u8 0, .int .u8 0, .int .u8 0, .int .u8 0, .int .u8 0, .int .u8 0, .int .u8 0] : Array Value) = arr fun _ => 0 := by kernel_rfl
  rw [e0]
  clear e0
  have hs1 : ((w.alloc (.cells #[.int .u64 0, .int .u32 0, .int .u32 0] 25)).alloc (.cells (arr fun _ => 0) 56)).heap[w.heap.size]? = some (stO 0 0 0) := heap_alloc_old (heap_alloc_at w _) _
  have ha1 : ((w.alloc (.cells #[.int .u64 0, .int .u32 0, .int .u32 0] 25)).alloc (.cells (arr fun _ => 0) 56)).heap[w.heap.size + 1]? = some (.cells (arr fun _ => 0) 56 (0, 0)) := by
    have := heap_alloc_at (w.alloc (.cells #[.int .u64 0, .int .u32 0, .int .u32 0] 25)) (.cells (arr fun _ => 0) 56)
    simpa using this
  have hb1 : Below w.heap.size w ((w.alloc (.cells #[.int .u64 0, .int .u32 0, .int .u32 0] 25)).alloc (.cells (arr fun _ => 0) 56)) := ((Below.refl _ w).alloc (Nat.le_refl _) _).alloc (by simp) _
  generalize ((w.alloc (.cells #[.int .u64 0, .int .u32 0, .int .u32 0] 25)).alloc (.cells (arr fun _ => 0) 56)) = w1 at *
  rw [Lib.run_copy_row_string w1 32 9 3 5 (w.heap.size + 1) 0 16 16 s _ 56 Tryd.underlying32 (by kernel_rfl) ha1 (by omega) (by simp [arr]; omega), row_arr s hs]
  simp only [Result.andThen]
  rw [Oper.upon_value]
  simp only [Act.put, List.setIfInBounds_toArray, List.set_cons_zero, List.set_cons_succ]
  have hg := setRow_grown w1 (w.heap.size + 1) (arr (bF s))
  have ha2 := setRow_heap w1 (w.heap.size + 1) _ (arr (bF s)) 56 (0, 0) ha1
  have hs2 : (w1.setRow (w.heap.size + 1) (arr (bF s))).heap[w.heap.size]? = some (stO 0 0 0) := by rw [hg.block _ (lt_of_heap hs1) (by simp)]; exact hs1
  have hb2 : Below w.heap.size w (w1.setRow (w.heap.size + 1) (arr (bF s))) := below_grown hb1 hg (by omega)
  generalize w1.setRow (w.heap.size + 1) (arr (bF s)) = w2 at *
  clear hs1 ha1 hb1 hg
  have hf := Lib.hid (bF_lt s)
  have hy : IntKind.u32.wrap ((liftN (bF s) 8 4 : Nat) : Int) = ((liftN (bF s) 8 4 : Nat) : Int) := by
    rw [IntKind.wrap_u32]
    have := liftN_lt (bF s) hf.out 8 4
    omega
  have hz : IntKind.u32.wrap ((liftN (bF s) 12 4 : Nat) : Int) = ((liftN (bF s) 12 4 : Nat) : Int) := by
    rw [IntKind.wrap_u32]
    have := liftN_lt (bF s) hf.out 12 4
    omega
  go_wp2_with fail
  have HB := Lib.hid hb2
  have HA := Lib.hid ha2
  have HS := Lib.hid hs2
  clear ha2 hs2 hb2
  refine wp_region_held (S := fun w' => w'.heap[w.heap.size + 1]? = some (.cells (arr (bF s)) 56 (0, 0))) (by kernel_rfl) ?_
  change wpAnyH _ _ _ _ _ _ _ _ w2.drew
  refine held_take 0 (.agg (arr (bF s))) HA.out rfl (fun _ _ _ h => h) (by kernel_rfl) (by kernel_rfl) (by kernel_rfl) rfl (fun w3 h3 => run_op_load 56 (.tmp 4) rfl (loadAt_arr h3)) ?_
  simp only [Act.put, List.setIfInBounds_toArray, List.set_cons_zero, List.set_cons_succ, List.getElem_toArray, List.getElem_cons_zero]
  refine held_take 2 (.agg (arr (bF s))) HA.out rfl (fun _ _ _ h => h) (by kernel_rfl) (by kernel_rfl) (by kernel_rfl) rfl (fun w3 h3 => run_op_load 56 (.tmp 4) rfl (loadAt_arr h3)) ?_
  simp only [Act.put, List.setIfInBounds_toArray, List.set_cons_zero, List.set_cons_succ, List.getElem_toArray, List.getElem_cons_zero, List.getElem_cons_succ]
  refine held_take 5 (.agg (arr (bF s))) HA.out rfl (fun _ _ _ h => h) (by kernel_rfl) (by kernel_rfl) (by kernel_rfl) rfl (fun w3 h3 => run_op_load 56 (.tmp 4) rfl (loadAt_arr h3)) ?_
  simp only [Act.put, List.setIfInBounds_toArray, List.set_cons_zero, List.set_cons_succ, List.getElem_toArray, List.getElem_cons_zero, List.getElem_cons_succ]
  refine held_call 1 (f := 33) (args := #[.agg (arr (bF s)), .int .i64 0, .int .i64 8]) rfl (by kernel_rfl) rfl (by go_simp) ?_
  refine (lift0 (bF s) hf.out _).mono ?_
  rintro e w3 ⟨rfl, hbk⟩
  have HA := Lib.hid (below_heap hbk HA.out (lt_of_heap HA.out))
  have HS := Lib.hid (below_heap hbk HS.out (lt_of_heap HS.out))
  have HB := Lib.hid (p := Below w.heap.size w w3) (HB.out.drew.trans (hbk.mono HB.out.size))
  clear hbk
  refine ⟨_, rfl, HA.out, ?_⟩
  simp only [Act.put, List.setIfInBounds_toArray, List.set_cons_zero, List.set_cons_succ, List.getElem_toArray, List.getElem_cons_zero, List.getElem_cons_succ]
  refine held_call 3 (f := 33) (args := #[.agg (arr (bF s)), .int .i64 8, .int .i64 4]) rfl (by kernel_rfl) rfl (by go_simp) ?_
  refine (lift8 (bF s) hf.out _).mono ?_
  rintro e w4 ⟨rfl, hbk⟩
  have HA := Lib.hid (below_heap hbk HA.out (lt_of_heap HA.out))
  have HS := Lib.hid (below_heap hbk HS.out (lt_of_heap HS.out))
  have HB := Lib.hid (p := Below w.heap.size w w4) (HB.out.trans (hbk.mono HB.out.size))
  clear hbk
  refine ⟨_, rfl, HA.out, ?_⟩
  simp only [Act.put, List.setIfInBounds_toArray, List.set_cons_zero, List.set_cons_succ, List.getElem_toArray, List.getElem_cons_zero, List.getElem_cons_succ]
  refine held_take 4 (.int .u32 (liftN (bF s) 8 4 : Nat)) HA.out rfl (fun _ _ _ h => h) (by kernel_rfl) (by kernel_rfl) (by kernel_rfl) rfl (fun w7 h7 => by go_simp) ?_
  simp only [Act.put, List.setIfInBounds_toArray, List.set_cons_zero, List.set_cons_succ, List.getElem_toArray, List.getElem_cons_zero, List.getElem_cons_succ]
  refine held_call 6 (f := 33) (args := #[.agg (arr (bF s)), .int .i64 12, .int .i64 4]) rfl (by kernel_rfl) rfl (by go_simp) ?_
  refine (lift12 (bF s) hf.out _).mono ?_
  rintro e w5 ⟨rfl, hbk⟩
  have HA := Lib.hid (below_heap hbk HA.out (lt_of_heap HA.out))
  have HS := Lib.hid (below_heap hbk HS.out (lt_of_heap HS.out))
  have HB := Lib.hid (p := Below w.heap.size w w5) (HB.out.trans (hbk.mono HB.out.size))
  clear hbk
  refine ⟨_, rfl, HA.out, ?_⟩
  simp only [Act.put, List.setIfInBounds_toArray, List.set_cons_zero, List.set_cons_succ, List.getElem_toArray, List.getElem_cons_zero, List.getElem_cons_succ]
  refine held_take 7 (.int .u32 (liftN (bF s) 12 4 : Nat)) HA.out rfl (fun _ _ _ h => h) (by kernel_rfl) (by kernel_rfl) (by kernel_rfl) rfl (fun w7 h7 => by go_simp) ?_
  simp only [Act.put, List.setIfInBounds_toArray, List.set_cons_zero, List.set_cons_succ, List.getElem_toArray, List.getElem_cons_zero, List.getElem_cons_succ]
  refine held_take 8 (.agg #[.int .u64 (liftN (bF s) 0 8 : Nat), .int .u32 (liftN (bF s) 8 4 : Nat), .int .u32 (liftN (bF s) 12 4 : Nat)]) HA.out rfl (fun _ _ _ h => h) (by kernel_rfl) (by kernel_rfl) (by kernel_rfl) rfl (fun w7 h7 => by go_simp) ?_
  simp only [Act.put, List.setIfInBounds_toArray, List.set_cons_zero, List.set_cons_succ, List.getElem_toArray, List.getElem_cons_zero, List.getElem_cons_succ]
  have HS2 := Lib.hid (st_set3 HS.out (liftN (bF s) 0 8 : Nat) (liftN (bF s) 8 4 : Nat) (liftN (bF s) 12 4 : Nat))
  have HA2 := Lib.hid (heap_set_other (heap_set_other (heap_set_other HA.out (p := ⟨w.heap.size, 0, none⟩) (by simp) (.int .u64 (liftN (bF s) 0 8 : Nat))) (p := ⟨w.heap.size, 1, none⟩) (by simp) (.int .u32 (liftN (bF s) 8 4 : Nat))) (p := ⟨w.heap.size, 2, none⟩) (by simp) (.int .u32 (liftN (bF s) 12 4 : Nat)))
  have HB2 := Lib.hid (((HB.out.setCell (p := ⟨w.heap.size, 0, none⟩) (Nat.le_refl _) (.int .u64 (liftN (bF s) 0 8 : Nat))).setCell (p := ⟨w.heap.size, 1, none⟩) (Nat.le_refl _) (.int .u32 (liftN (bF s) 8 4 : Nat))).setCell (p := ⟨w.heap.size, 2, none⟩) (Nat.le_refl _) (.int .u32 (liftN (bF s) 12 4 : Nat)))
  refine held_store 9 rfl (by kernel_rfl) rfl (run_op_store 25 (.tmp 2) (.tmp 20) rfl (store_st HS.out _ _ _)) HA2.out ?_
  simp only [Act.put, List.getElem_toArray, List.getElem_cons_zero, List.getElem_cons_succ]
  generalize (((w5.setCell ⟨w.heap.size, 0, none⟩ (.int .u64 (liftN (bF s) 0 8 : Nat))).setCell ⟨w.heap.size, 1, none⟩ (.int .u32 (liftN (bF s) 8 4 : Nat))).setCell ⟨w.heap.size, 2, none⟩ (.int .u32 (liftN (bF s) 12 4 : Nat))) = w6 at *
  refine held_take 10 (.int .i64 0) HA2.out rfl (fun _ _ _ h => h) (by kernel_rfl) (by kernel_rfl) (by kernel_rfl) rfl (fun w7 h7 => by go_simp) ?_
  simp only [Act.put, List.setIfInBounds_toArray, List.set_cons_zero, List.set_cons_succ, List.getElem_toArray, List.getElem_cons_zero, List.getElem_cons_succ]
  refine wpAnyH_done (by kernel_rfl) ?_ _
  go_wp2_with fail
  exact end_st2 rfl rfl rfl HS2.out rfl ⟨rfl, HB2.out⟩
end Go.Proofs.YtdpgfjdndohcdaaDoor
