/- The law of TokenSpoilt, walked. -/
import Derived.Test.YtdpgfjdndohcdaaDoorChanged
import Derived.Test.YtdpgfjdndohcdaaDoorApart
import Derived.Laws.IdiomStrings
import Derived.BigQuiet
import Derived.Test.YtdpgfjdndohcdaaDoorHeldMore
namespace Go.Proofs.YtdpgfjdndohcdaaDoor
open Go.RowKit

def spotO (x y z i u : Int) : Obj := .cells #[.int .u64 x, .int .u32 y, .int .u32 z, .int .i64 i, .int .u8 u] 27
theorem spot_cells {w : World} {b : Nat} {x y z i u : Int} (h : w.heap[b]? = some (spotO x y z i u)) :
    w.cell? ⟨b, 0, none⟩ = some (.int .u64 x) ∧ w.cell? ⟨b, 1, none⟩ = some (.int .u32 y) ∧ w.cell? ⟨b, 2, none⟩ = some (.int .u32 z) ∧ w.cell? ⟨b, 3, none⟩ = some (.int .i64 i) ∧ w.cell? ⟨b, 4, none⟩ = some (.int .u8 u) := by
  simp [World.cell?, h, spotO]
theorem below_drewN {B n : Nat} {a w : World} (h : Below B a w) : Below B a (w.drewN n) := ⟨h.os, h.tape, h.output, h.size, h.block⟩

theorem spoilt_dec (x y z k u b : Nat) (hk : k < 40) (hu : u < 256) (hb : ∀ h : k < (encS x y z).size, (encS x y z)[k].toNat = b) (hne : b ≠ u) :
    decL (((encS x y z).extract 0 k ++ ByteArray.mk [UInt8.ofNat u].toArray) ++ (encS x y z).extract (k + 1) 40).data.toList = none := by
  have hlen : (hexL (rawL x y z)).length = 40 := by rw [hexL_length, rawL_length]
  have e : (((encS x y z).extract 0 k ++ ByteArray.mk [UInt8.ofNat u].toArray) ++ (encS x y z).extract (k + 1) 40).data.toList = (hexL (rawL x y z)).set k (UInt8.ofNat u) := by
    rw [List.set_eq_take_append_cons_drop, if_pos (by omega)]
    simp [encS]
    rw [List.take_of_length_le (by simp [hlen])]
  rw [e]
  refine decL_set (packL x y z) (packL_length x y z) k hk _ ?_
  intro h
  have hk2 : k < (encS x y z).size := by rw [encS_size]; exact hk
  have h1 := hb hk2
  have h2 : (hexL (rawL x y z)).getD k 0 = (encS x y z)[k] := by
    rw [List.getD_eq_getElem?_getD, List.getElem?_eq_getElem (by omega)]
    rfl
  have h3 : (hexL (rawL x y z)).getD k 0 = UInt8.ofNat u := h
  rw [h2] at h3
  rw [h3] at h1
  simp at h1
  omega

set_option maxHeartbeats 4000000 in
theorem spoilt_low (x y z : Nat) (i : Int) (u : Nat) (hx : x < 18446744073709551616) (hy : y < 4294967296) (hz : z < 4294967296)
    (w : World) (hL : Laid w) (hi : i < 0) :
    Calls Tryd.prog 3 #[.agg #[.int .u64 x, .int .u32 y, .int .u32 z, .int .i64 i, .int .u8 u]] w fun e w' => e = .returned (.bool true) ∧ Below w.heap.size w w' := by
  have hs1 := heap_alloc_at w (spotO x y z i u)
  have hb1 : Below w.heap.size w (w.alloc (spotO x y z i u)) := (Below.refl _ w).alloc (Nat.le_refl _) _
  go_enter Tryd.func3, Tryd.ntmps3
  go_wp2_with fail
  change Calls Tryd.prog 9 _ (w.alloc (spotO x y z i u)) _
  generalize w.alloc (spotO x y z i u) = w1 at *
  refine (encode_any x y z w1 (hL.below hb1) hy hz).mono ?_
  rintro e w2 ⟨rfl, hb2⟩
  have HS := Lib.hid (below_heap hb2 hs1 (lt_of_heap hs1))
  have HB := Lib.hid (p := Below w.heap.size w w2) (hb1.trans (hb2.mono hb1.size))
  clear hb1 hb2 hs1
  have D1 := dec_is x y z hx hy hz
  have n1 := encS_size x y z
  go_wp2_with fail
  refine (D1 w2 (hL.below HB.out)).mono ?_
  rintro e w4 ⟨rfl, hb4⟩
  have HS := Lib.hid (heap_alloc_old (below_heap hb4 HS.out (lt_of_heap HS.out)) (stO x y z))
  have HT := Lib.hid (heap_alloc_at w4 (stO x y z))
  have HB := Lib.hid (p := Below w.heap.size w w4) (HB.out.trans (hb4.mono HB.out.size))
  have HB := Lib.hid (HB.out.alloc HB.out.size (stO x y z))
  clear hb4 D1 hx hy hz
  have h1 := HS.out
  have h2 := HT.out
  obtain ⟨c0, c1, c2, c3, c4⟩ := spot_cells h1
  obtain ⟨d0, d1, d2⟩ := st_cells h2
  clear h1 h2
  unfold stO at c0 c1 c2 c3 c4 d0 d1 d2
  go_wp2_with fail
  have hd : decide (i < 0) = true := by simpa using hi
  go_quiet (fail)
  go_wp2_with fail
  go_ret
  exact ⟨rfl, below_drewN HB.out⟩

set_option maxHeartbeats 4000000 in
theorem spoilt_high (x y z : Nat) (i : Int) (u : Nat) (hx : x < 18446744073709551616) (hy : y < 4294967296) (hz : z < 4294967296)
    (w : World) (hL : Laid w) (hi : 40 ≤ i) :
    Calls Tryd.prog 3 #[.agg #[.int .u64 x, .int .u32 y, .int .u32 z, .int .i64 i, .int .u8 u]] w fun e w' => e = .returned (.bool true) ∧ Below w.heap.size w w' := by
  have hs1 := heap_alloc_at w (spotO x y z i u)
  have hb1 : Below w.heap.size w (w.alloc (spotO x y z i u)) := (Below.refl _ w).alloc (Nat.le_refl _) _
  go_enter Tryd.func3, Tryd.ntmps3
  go_wp2_with fail
  change Calls Tryd.prog 9 _ (w.alloc (spotO x y z i u)) _
  generalize w.alloc (spotO x y z i u) = w1 at *
  refine (encode_any x y z w1 (hL.below hb1) hy hz).mono ?_
  rintro e w2 ⟨rfl, hb2⟩
  have HS := Lib.hid (below_heap hb2 hs1 (lt_of_heap hs1))
  have HB := Lib.hid (p := Below w.heap.size w w2) (hb1.trans (hb2.mono hb1.size))
  clear hb1 hb2 hs1
  have D1 := dec_is x y z hx hy hz
  have n1 := encS_size x y z
  go_wp2_with fail
  refine (D1 w2 (hL.below HB.out)).mono ?_
  rintro e w4 ⟨rfl, hb4⟩
  have HS := Lib.hid (heap_alloc_old (below_heap hb4 HS.out (lt_of_heap HS.out)) (stO x y z))
  have HT := Lib.hid (heap_alloc_at w4 (stO x y z))
  have HB := Lib.hid (p := Below w.heap.size w w4) (HB.out.trans (hb4.mono HB.out.size))
  have HB := Lib.hid (HB.out.alloc HB.out.size (stO x y z))
  clear hb4 D1 hx hy hz
  have h1 := HS.out
  have h2 := HT.out
  obtain ⟨c0, c1, c2, c3, c4⟩ := spot_cells h1
  obtain ⟨d0, d1, d2⟩ := st_cells h2
  clear h1 h2
  unfold stO at c0 c1 c2 c3 c4 d0 d1 d2
  go_wp2_with fail
  have hd : decide (i < 0) = false := by simp; omega
  have hd2 : decide (40 ≤ i) = true := by simpa using hi
  go_quiet (fail)
  go_wp2_with fail
  go_ret
  exact ⟨rfl, below_drewN HB.out⟩

set_option maxHeartbeats 4000000 in
theorem spoilt_in (x y z : Nat) (k : Nat) (u : Nat) (hx : x < 18446744073709551616) (hy : y < 4294967296) (hz : z < 4294967296)
    (w : World) (hL : Laid w) (hk : k < 40) (b : Nat) (r : Bool) (hb0 : ∀ h : k < (encS x y z).size, (encS x y z)[k].toNat = b) (hr : ((b : Int) == (u : Int)) = r) (hu : u < 256) (hdec0 : r = false → decL (((encS x y z).extract 0 k ++ ByteArray.mk [UInt8.ofNat u].toArray) ++ (encS x y z).extract (k + 1) 40).data.toList = none) :
    Calls Tryd.prog 3 #[.agg #[.int .u64 x, .int .u32 y, .int .u32 z, .int .i64 k, .int .u8 u]] w fun e w' => e = .returned (.bool true) ∧ Below w.heap.size w w' := by
  have hs1 := heap_alloc_at w (spotO x y z k u)
  have hb1 : Below w.heap.size w (w.alloc (spotO x y z k u)) := (Below.refl _ w).alloc (Nat.le_refl _) _
  go_enter Tryd.func3, Tryd.ntmps3
  go_wp2_with fail
  change Calls Tryd.prog 9 _ (w.alloc (spotO x y z k u)) _
  generalize w.alloc (spotO x y z k u) = w1 at *
  refine (encode_any x y z w1 (hL.below hb1) hy hz).mono ?_
  rintro e w2 ⟨rfl, hb2⟩
  have HS := Lib.hid (below_heap hb2 hs1 (lt_of_heap hs1))
  have HB := Lib.hid (p := Below w.heap.size w w2) (hb1.trans (hb2.mono hb1.size))
  clear hb1 hb2 hs1
  have D1 := dec_is x y z hx hy hz
  have n1 := encS_size x y z
  go_wp2_with fail
  refine (D1 w2 (hL.below HB.out)).mono ?_
  rintro e w4 ⟨rfl, hb4⟩
  have HS := Lib.hid (heap_alloc_old (below_heap hb4 HS.out (lt_of_heap HS.out)) (stO x y z))
  have HT := Lib.hid (heap_alloc_at w4 (stO x y z))
  have HB := Lib.hid (p := Below w.heap.size w w4) (HB.out.trans (hb4.mono HB.out.size))
  have HB := Lib.hid (HB.out.alloc HB.out.size (stO x y z))
  clear hb4 D1 hx hy hz
  have h1 := HS.out
  have h2 := HT.out
  obtain ⟨c0, c1, c2, c3, c4⟩ := spot_cells h1
  obtain ⟨d0, d1, d2⟩ := st_cells h2
  clear h1 h2
  unfold stO at c0 c1 c2 c3 c4 d0 d1 d2
  go_wp2_with fail
  have hk2 : k < (encS x y z).size := by rw [n1]; exact hk
  have hb := hb0 hk2
  have HD := Lib.hid hdec0
  clear hb0 hdec0
  have hd : decide ((k : Int) < 0) = false := by simp
  have hd2 : decide (40 ≤ (k : Int)) = false := by simp; omega
  have HC := Lib.hid (And.intro c3 c4)
  clear c0 c1 c2 c3 c4 d0 d1 d2
  refine wp_region_held (S := fun w' => w'.cell? ⟨w.heap.size, 3, none⟩ = some (.int .i64 k) ∧ w'.cell? ⟨w.heap.size, 4, none⟩ = some (.int .u8 u)) (by kernel_rfl) ?_
  change wpAnyH _ _ _ _ _ _ _ _ (w4.alloc (stO x y z)).drew
  have HC := Lib.hid (p := (w4.alloc (stO x y z)).drew.cell? ⟨w.heap.size, 3, none⟩ = some (.int .i64 k) ∧ (w4.alloc (stO x y z)).drew.cell? ⟨w.heap.size, 4, none⟩ = some (.int .u8 u)) HC.out
  have HB := Lib.hid HB.out.drew
  generalize (w4.alloc (stO x y z)).drew = w5 at *
  refine held_take 0 (.pointer (some ⟨w.heap.size, 3, none⟩)) HC.out rfl (fun _ _ _ h => h) (by kernel_rfl) (by kernel_rfl) (by kernel_rfl) rfl (fun w7 h7 => by obtain ⟨q3, q4⟩ := h7; go_simp) ?_
  simp only [Act.put, List.setIfInBounds_toArray, List.set_cons_zero, List.set_cons_succ, List.getElem_toArray, List.getElem_cons_zero]
  refine held_take 1 (.int .i64 k) HC.out rfl (fun _ _ _ h => h) (by kernel_rfl) (by kernel_rfl) (by kernel_rfl) rfl (fun w7 h7 => by obtain ⟨q3, q4⟩ := h7; go_simp) ?_
  simp only [Act.put, List.setIfInBounds_toArray, List.set_cons_zero, List.set_cons_succ, List.getElem_toArray, List.getElem_cons_zero, List.getElem_cons_succ]
  refine held_take 2 (.bool false) HC.out rfl (fun _ _ _ h => h) (by kernel_rfl) (by kernel_rfl) (by kernel_rfl) rfl (fun w7 h7 => by obtain ⟨q3, q4⟩ := h7; go_simp) ?_
  simp only [Act.put, List.setIfInBounds_toArray, List.set_cons_zero, List.set_cons_succ, List.getElem_toArray, List.getElem_cons_zero, List.getElem_cons_succ]
  refine held_take 3 (.bool false) HC.out rfl (fun _ _ _ h => h) (by kernel_rfl) (by kernel_rfl) (by kernel_rfl) rfl (fun w7 h7 => by obtain ⟨q3, q4⟩ := h7; go_simp) ?_
  simp only [Act.put, List.setIfInBounds_toArray, List.set_cons_zero, List.set_cons_succ, List.getElem_toArray, List.getElem_cons_zero, List.getElem_cons_succ]
  refine held_want 4 (.pointer (some ⟨w.heap.size, 3, none⟩)) HC.out rfl (fun _ _ _ h => h) (by kernel_rfl) (by kernel_rfl) (by kernel_rfl) rfl (fun w7 h7 => by obtain ⟨q3, q4⟩ := h7; go_simp) ?_
  simp only [Act.put, List.setIfInBounds_toArray, List.set_cons_zero, List.set_cons_succ, List.getElem_toArray, List.getElem_cons_zero, List.getElem_cons_succ]
  refine held_want 5 (.int .i64 k) HC.out rfl (fun _ _ _ h => h) (by kernel_rfl) (by kernel_rfl) (by kernel_rfl) rfl (fun w7 h7 => by obtain ⟨q3, q4⟩ := h7; go_simp) ?_
  simp only [Act.put, List.setIfInBounds_toArray, List.set_cons_zero, List.set_cons_succ, List.getElem_toArray, List.getElem_cons_zero, List.getElem_cons_succ]
  refine held_want 6 (.string (encS x y z)) HC.out rfl (fun _ _ _ h => h) (by kernel_rfl) (by kernel_rfl) (by kernel_rfl) rfl (fun w7 h7 => by obtain ⟨q3, q4⟩ := h7; go_simp) ?_
  simp only [Act.put, List.setIfInBounds_toArray, List.set_cons_zero, List.set_cons_succ, List.getElem_toArray, List.getElem_cons_zero, List.getElem_cons_succ]
  refine held_want 7 (.int .i64 40) HC.out rfl (fun _ _ _ h => h) (by kernel_rfl) (by kernel_rfl) (by kernel_rfl) rfl (fun w7 h7 => by obtain ⟨q3, q4⟩ := h7; go_simp) ?_
  simp only [Act.put, List.setIfInBounds_toArray, List.set_cons_zero, List.set_cons_succ, List.getElem_toArray, List.getElem_cons_zero, List.getElem_cons_succ]
  refine held_want 8 (.bool false) HC.out rfl (fun _ _ _ h => h) (by kernel_rfl) (by kernel_rfl) (by kernel_rfl) rfl (fun w7 h7 => by obtain ⟨q3, q4⟩ := h7; go_simp) ?_
  simp only [Act.put, List.setIfInBounds_toArray, List.set_cons_zero, List.set_cons_succ, List.getElem_toArray, List.getElem_cons_zero, List.getElem_cons_succ]
  refine held_take 9 (.bool false) HC.out rfl (fun _ _ _ h => h) (by kernel_rfl) (by kernel_rfl) (by kernel_rfl) rfl (fun w7 h7 => by obtain ⟨q3, q4⟩ := h7; go_simp) ?_
  simp only [Act.put, List.setIfInBounds_toArray, List.set_cons_zero, List.set_cons_succ, List.getElem_toArray, List.getElem_cons_zero, List.getElem_cons_succ]
  refine held_take 10 (.bool false) HC.out rfl (fun _ _ _ h => h) (by kernel_rfl) (by kernel_rfl) (by kernel_rfl) rfl (fun w7 h7 => by obtain ⟨q3, q4⟩ := h7; go_simp) ?_
  simp only [Act.put, List.setIfInBounds_toArray, List.set_cons_zero, List.set_cons_succ, List.getElem_toArray, List.getElem_cons_zero, List.getElem_cons_succ]
  refine held_want 11 (.string (encS x y z)) HC.out rfl (fun _ _ _ h => h) (by kernel_rfl) (by kernel_rfl) (by kernel_rfl) rfl (fun w7 h7 => by obtain ⟨q3, q4⟩ := h7; go_simp) ?_
  simp only [Act.put, List.setIfInBounds_toArray, List.set_cons_zero, List.set_cons_succ, List.getElem_toArray, List.getElem_cons_zero, List.getElem_cons_succ]
  refine held_want 12 (.pointer (some ⟨w.heap.size, 3, none⟩)) HC.out rfl (fun _ _ _ h => h) (by kernel_rfl) (by kernel_rfl) (by kernel_rfl) rfl (fun w7 h7 => by obtain ⟨q3, q4⟩ := h7; go_simp) ?_
  simp only [Act.put, List.setIfInBounds_toArray, List.set_cons_zero, List.set_cons_succ, List.getElem_toArray, List.getElem_cons_zero, List.getElem_cons_succ]
  refine held_want 13 (.int .i64 k) HC.out rfl (fun _ _ _ h => h) (by kernel_rfl) (by kernel_rfl) (by kernel_rfl) rfl (fun w7 h7 => by obtain ⟨q3, q4⟩ := h7; go_simp) ?_
  simp only [Act.put, List.setIfInBounds_toArray, List.set_cons_zero, List.set_cons_succ, List.getElem_toArray, List.getElem_cons_zero, List.getElem_cons_succ]
  refine held_want 14 (.int .u8 b) HC.out rfl (fun _ _ _ h => h) (by kernel_rfl) (by kernel_rfl) (by kernel_rfl) rfl (fun w7 h7 => by obtain ⟨q3, q4⟩ := h7; go_simp; intro hh; omega) ?_
  simp only [Act.put, List.setIfInBounds_toArray, List.set_cons_zero, List.set_cons_succ, List.getElem_toArray, List.getElem_cons_zero, List.getElem_cons_succ]
  refine held_want 15 (.pointer (some ⟨w.heap.size, 4, none⟩)) HC.out rfl (fun _ _ _ h => h) (by kernel_rfl) (by kernel_rfl) (by kernel_rfl) rfl (fun w7 h7 => by obtain ⟨q3, q4⟩ := h7; go_simp) ?_
  simp only [Act.put, List.setIfInBounds_toArray, List.set_cons_zero, List.set_cons_succ, List.getElem_toArray, List.getElem_cons_zero, List.getElem_cons_succ]
  refine held_want 16 (.int .u8 u) HC.out rfl (fun _ _ _ h => h) (by kernel_rfl) (by kernel_rfl) (by kernel_rfl) rfl (fun w7 h7 => by obtain ⟨q3, q4⟩ := h7; go_simp) ?_
  simp only [Act.put, List.setIfInBounds_toArray, List.set_cons_zero, List.set_cons_succ, List.getElem_toArray, List.getElem_cons_zero, List.getElem_cons_succ]
  refine held_want 17 (.bool r) HC.out rfl (fun _ _ _ h => h) (by kernel_rfl) (by kernel_rfl) (by kernel_rfl) rfl (fun w7 h7 => by obtain ⟨q3, q4⟩ := h7; go_simp) ?_
  simp only [Act.put, List.setIfInBounds_toArray, List.set_cons_zero, List.set_cons_succ, List.getElem_toArray, List.getElem_cons_zero, List.getElem_cons_succ]
  refine held_take 18 (.bool r) HC.out rfl (fun _ _ _ h => h) (by kernel_rfl) (by kernel_rfl) (by kernel_rfl) rfl (fun w7 h7 => by obtain ⟨q3, q4⟩ := h7; go_simp) ?_
  simp only [Act.put, List.setIfInBounds_toArray, List.set_cons_zero, List.set_cons_succ, List.getElem_toArray, List.getElem_cons_zero, List.getElem_cons_succ]
  refine wpAnyH_done (by kernel_rfl) ?_ _
  cases r with
  | true =>
    go_wp2_with fail
    go_ret
    exact ⟨rfl, HB.out⟩
  | false =>
    go_wp2_with fail
    refine wp_region_held (S := fun w' => w'.cell? ⟨w.heap.size, 3, none⟩ = some (.int .i64 k) ∧ w'.cell? ⟨w.heap.size, 4, none⟩ = some (.int .u8 u)) (by kernel_rfl) ?_
    change wpAnyH _ _ _ _ _ _ _ _ w5.drew
    have HC := Lib.hid (p := w5.drew.cell? ⟨w.heap.size, 3, none⟩ = some (.int .i64 k) ∧ w5.drew.cell? ⟨w.heap.size, 4, none⟩ = some (.int .u8 u)) HC.out
    have HB := Lib.hid HB.out.drew
    generalize w5.drew = w6 at *
    have hB5 := Below.refl w6.heap.size w6
    have hB6 := hB5.alloc (Nat.le_refl _) (.cells #[.int .u8 u] 5)
    have HC2 := Lib.hid (p := (w6.alloc (.cells #[.int .u8 u] 5)).cell? ⟨w.heap.size, 3, none⟩ = some (.int .i64 k) ∧ (w6.alloc (.cells #[.int .u8 u] 5)).cell? ⟨w.heap.size, 4, none⟩ = some (.int .u8 u)) ⟨(hB6.cell (block_lt_of_cell HC.out.1)).trans HC.out.1, (hB6.cell (block_lt_of_cell HC.out.2)).trans HC.out.2⟩
    have HB2 := Lib.hid (HB.out.alloc HB.out.size (.cells #[.int .u8 u] 5))
    clear hB5 hB6
    obtain ⟨k1, hk1⟩ : ∃ k1, k1 = k + 1 := ⟨_, rfl⟩
    have hw1 : IntKind.i64.wrap ((k : Int) + 1) = (k1 : Int) := by rw [IntKind.wrap_i64]; omega
    have hk41 : k1 ≤ 40 := by omega
    have HK := Lib.hid hk1
    clear hk1
    obtain ⟨P1, hP1⟩ : ∃ P1, (encS x y z).extract 0 k = P1 := ⟨_, rfl⟩
    obtain ⟨P3, hP3⟩ : ∃ P3, (encS x y z).extract k1 40 = P3 := ⟨_, rfl⟩
    obtain ⟨P2, hP2⟩ : ∃ P2, ByteArray.mk [UInt8.ofNat u].toArray = P2 := ⟨_, rfl⟩
    have hz1 : P1.size = k := by rw [← hP1]; simp [n1]; omega
    have hz2 : P2.size = 1 := by rw [← hP2]; rfl
    have hz3 : P3.size = 40 - k1 := by rw [← hP3]; simp [n1]
    have hconv : (convert 32 9 (.slice (some ⟨w6.heap.size, 0, none⟩) 1 1)).run Tryd.prog (w6.alloc (.cells #[.int .u8 (u : Int)] 5)) = _ := run_convert_bytes_back (P := Tryd.prog) (w6.alloc (.cells #[.int .u8 (u : Int)] 5)) 32 9 5 ⟨w6.heap.size, 0, none⟩ 1 [UInt8.ofNat u] Tryd.underlying32 Tryd.underlying5 Tryd.underlying9 (fun j hj => by
      obtain rfl : j = 0 := by simpa using hj
      rw [show (Addr.add ⟨w6.heap.size, 0, none⟩ 0) = ⟨w6.heap.size, 0, none⟩ from rfl, Lib.cell_of_heap (heap_alloc_at _ _)]
      simp
      omega)
    rw [hP2] at hconv
    have hdec := HD.out trivial
    rw [← HK.out, hP1, hP2, hP3] at hdec
    clear HD
    refine held_take 0 (.string (encS x y z)) HC.out rfl (fun _ _ _ h => h) (by kernel_rfl) (by kernel_rfl) (by kernel_rfl) rfl (fun w7 h7 => by obtain ⟨q3, q4⟩ := h7; go_simp) ?_
    simp only [Act.put, List.setIfInBounds_toArray, List.set_cons_zero, List.set_cons_succ, List.getElem_toArray, List.getElem_cons_zero]
    refine held_take 1 (.pointer (some ⟨w.heap.size, 3, none⟩)) HC.out rfl (fun _ _ _ h => h) (by kernel_rfl) (by kernel_rfl) (by kernel_rfl) rfl (fun w7 h7 => by obtain ⟨q3, q4⟩ := h7; go_simp) ?_
    simp only [Act.put, List.setIfInBounds_toArray, List.set_cons_zero, List.set_cons_succ, List.getElem_toArray, List.getElem_cons_zero, List.getElem_cons_succ]
    refine held_take 2 (.int .i64 k) HC.out rfl (fun _ _ _ h => h) (by kernel_rfl) (by kernel_rfl) (by kernel_rfl) rfl (fun w7 h7 => by obtain ⟨q3, q4⟩ := h7; go_simp) ?_
    simp only [Act.put, List.setIfInBounds_toArray, List.set_cons_zero, List.set_cons_succ, List.getElem_toArray, List.getElem_cons_zero, List.getElem_cons_succ]
    refine held_take 3 (.string P1) HC.out rfl (fun _ _ _ h => h) (by kernel_rfl) (by kernel_rfl) (by kernel_rfl) rfl (fun w7 h7 => by go_simp; intro hh; omega) ?_
    simp only [Act.put, List.setIfInBounds_toArray, List.set_cons_zero, List.set_cons_succ, List.getElem_toArray, List.getElem_cons_zero, List.getElem_cons_succ]
    refine held_take 4 (.pointer (some ⟨w.heap.size, 4, none⟩)) HC.out rfl (fun _ _ _ h => h) (by kernel_rfl) (by kernel_rfl) (by kernel_rfl) rfl (fun w7 h7 => by obtain ⟨q3, q4⟩ := h7; go_simp) ?_
    simp only [Act.put, List.setIfInBounds_toArray, List.set_cons_zero, List.set_cons_succ, List.getElem_toArray, List.getElem_cons_zero, List.getElem_cons_succ]
    refine held_take 5 (.int .u8 u) HC.out rfl (fun _ _ _ h => h) (by kernel_rfl) (by kernel_rfl) (by kernel_rfl) rfl (fun w7 h7 => by obtain ⟨q3, q4⟩ := h7; go_simp) ?_
    simp only [Act.put, List.setIfInBounds_toArray, List.set_cons_zero, List.set_cons_succ, List.getElem_toArray, List.getElem_cons_zero, List.getElem_cons_succ]
    refine held_take 9 (.string (encS x y z)) HC.out rfl (fun _ _ _ h => h) (by kernel_rfl) (by kernel_rfl) (by kernel_rfl) rfl (fun w7 h7 => by obtain ⟨q3, q4⟩ := h7; go_simp) ?_
    simp only [Act.put, List.setIfInBounds_toArray, List.set_cons_zero, List.set_cons_succ, List.getElem_toArray, List.getElem_cons_zero, List.getElem_cons_succ]
    refine held_take 10 (.pointer (some ⟨w.heap.size, 3, none⟩)) HC.out rfl (fun _ _ _ h => h) (by kernel_rfl) (by kernel_rfl) (by kernel_rfl) rfl (fun w7 h7 => by obtain ⟨q3, q4⟩ := h7; go_simp) ?_
    simp only [Act.put, List.setIfInBounds_toArray, List.set_cons_zero, List.set_cons_succ, List.getElem_toArray, List.getElem_cons_zero, List.getElem_cons_succ]
    refine held_take 11 (.int .i64 k) HC.out rfl (fun _ _ _ h => h) (by kernel_rfl) (by kernel_rfl) (by kernel_rfl) rfl (fun w7 h7 => by obtain ⟨q3, q4⟩ := h7; go_simp) ?_
    simp only [Act.put, List.setIfInBounds_toArray, List.set_cons_zero, List.set_cons_succ, List.getElem_toArray, List.getElem_cons_zero, List.getElem_cons_succ]
    refine held_take 12 (.int .i64 k1) HC.out rfl (fun _ _ _ h => h) (by kernel_rfl) (by kernel_rfl) (by kernel_rfl) rfl (fun w7 h7 => by go_simp) ?_
    simp only [Act.put, List.setIfInBounds_toArray, List.set_cons_zero, List.set_cons_succ, List.getElem_toArray, List.getElem_cons_zero, List.getElem_cons_succ]
    refine held_take 13 (.string P3) HC.out rfl (fun _ _ _ h => h) (by kernel_rfl) (by kernel_rfl) (by kernel_rfl) rfl (fun w7 h7 => by go_simp; intro hh; omega) ?_
    simp only [Act.put, List.setIfInBounds_toArray, List.set_cons_zero, List.set_cons_succ, List.getElem_toArray, List.getElem_cons_zero, List.getElem_cons_succ]
    refine held_value 6 (.slice (some ⟨w6.heap.size, 0, none⟩) 1 1) (w6.alloc (.cells #[.int .u8 u] 5)) rfl (by kernel_rfl) rfl (by go_simp) HC2.out ?_
    simp only [Act.put, List.setIfInBounds_toArray, List.set_cons_zero, List.set_cons_succ, List.getElem_toArray, List.getElem_cons_zero, List.getElem_cons_succ]
    generalize w6.alloc (.cells #[.int .u8 (u : Int)] 5) = w8 at *
    refine held_value 7 (.string P2) (w8) rfl (by kernel_rfl) rfl (run_op_convert 32 9 (.tmp 55) rfl hconv) HC2.out ?_
    simp only [Act.put, List.setIfInBounds_toArray, List.set_cons_zero, List.set_cons_succ, List.getElem_toArray, List.getElem_cons_zero, List.getElem_cons_succ]
    refine held_take 8 (.string (P1 ++ P2)) HC2.out rfl (fun _ _ _ h => h) (by kernel_rfl) (by kernel_rfl) (by kernel_rfl) rfl (fun w7 h7 => by go_simp; omega) ?_
    simp only [Act.put, List.setIfInBounds_toArray, List.set_cons_zero, List.set_cons_succ, List.getElem_toArray, List.getElem_cons_zero, List.getElem_cons_succ]
    refine held_take 14 (.string ((P1 ++ P2) ++ P3)) HC2.out rfl (fun _ _ _ h => h) (by kernel_rfl) (by kernel_rfl) (by kernel_rfl) rfl (fun w7 h7 => by go_simp; omega) ?_
    simp only [Act.put, List.setIfInBounds_toArray, List.set_cons_zero, List.set_cons_succ, List.getElem_toArray, List.getElem_cons_zero, List.getElem_cons_succ]
    refine held_take 15 (.string ((P1 ++ P2) ++ P3)) HC2.out rfl (fun _ _ _ h => h) (by kernel_rfl) (by kernel_rfl) (by kernel_rfl) rfl (fun w7 h7 => by go_simp) ?_
    simp only [Act.put, List.setIfInBounds_toArray, List.set_cons_zero, List.set_cons_succ, List.getElem_toArray, List.getElem_cons_zero, List.getElem_cons_succ]
    refine wpAnyH_done (by kernel_rfl) ?_ _
    clear hb hr hP1 hP2 hP3 hz1 hz2 hz3 hconv hw1 n1 hk2 hd hd2
    go_wp2_with fail
    generalize (P1 ++ P2) ++ P3 = T at *
    refine (decode_any T w8 (hL.below HB2.out)).mono ?_
    rintro e w9 ⟨rfl, hb9⟩
    rw [hdec]
    have HB := Lib.hid (p := Below w.heap.size w w9) (HB2.out.trans (hb9.mono HB2.out.size))
    clear hb9 hdec
    rw [show decV none = .tuple #[.agg #[.int .u64 0, .int .u32 0, .int .u32 0], .int .i64 40] from rfl]
    have h2 := heap_alloc_at w9 (stO 0 0 0)
    obtain ⟨d0, d1, d2⟩ := st_cells h2
    have HB := Lib.hid (HB.out.alloc HB.out.size (stO 0 0 0))
    clear h2
    unfold stO at d0 d1 d2
    go_wp2_with fail
    go_ret
    exact ⟨rfl, HB.out⟩


theorem spoilt_walk (x y z : Nat) (i : Int) (u : Nat) (hx : x < 18446744073709551616) (hy : y < 4294967296) (hz : z < 4294967296) (hu : u < 256) (w : World) (hL : Laid w) :
    Calls Tryd.prog 3 #[.agg #[.int .u64 x, .int .u32 y, .int .u32 z, .int .i64 i, .int .u8 u]] w fun e w' => e = .returned (.bool true) ∧ Below w.heap.size w w' := by
  by_cases h1 : i < 0
  · exact spoilt_low x y z i u hx hy hz w hL h1
  · by_cases h2 : 40 ≤ i
    · exact spoilt_high x y z i u hx hy hz w hL h2
    · obtain ⟨k, rfl⟩ : ∃ k : Nat, i = k := ⟨i.toNat, by omega⟩
      have hk : k < 40 := by omega
      have hk2 : k < (encS x y z).size := by rw [encS_size]; exact hk
      exact spoilt_in x y z k u hx hy hz w hL hk (encS x y z)[k].toNat _ (fun _ => rfl) rfl hu (fun h => spoilt_dec x y z k u (encS x y z)[k].toNat hk hu (fun _ => rfl) (by simp at h; omega))
end Go.Proofs.YtdpgfjdndohcdaaDoor
