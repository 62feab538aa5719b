/- token.Decode: the stamp of a token, or the refusal. -/
import Derived.Test.YtdpgfjdndohcdaaDoorEnc
namespace Go.Proofs.YtdpgfjdndohcdaaDoor
open Go.RowKit

/-- What Decode hands back where it refuses. -/
def noV : Value := .tuple #[.agg #[.int .u64 0, .int .u32 0, .int .u32 0], .int .i64 40]

theorem decode_short (s : ByteArray) (w : World) (hs : s.size ≠ 40) :
    Calls Tryd.prog 10 #[.string s] w fun e w' => e = .returned noV ∧ Below w.heap.size w w' := by
  have hs' : (((s.size : Nat) : Int) != 40) = true := by simp; omega
  go_enter Tryd.func10, Tryd.ntmps10
  go_wp2_with fail
  exact end_st2 rfl rfl rfl (heap_alloc_at w (stO 0 0 0)) rfl ⟨rfl, (Below.refl _ w).alloc (Nat.le_refl _) _⟩

theorem zeroTo (w : World) : (w.alloc (.cells #[.int .u64 0, .int .u32 0, .int .u32 0] 25)).heap[w.heap.size]? = some (stO 0 0 0) := heap_alloc_at w _

set_option maxHeartbeats 1000000 in
theorem decode_none (s : ByteArray) (w : World) (hL : Laid w) (hs : s.size = 40) (hn : unhexL s.data.toList = none) :
    Calls Tryd.prog 10 #[.string s] w fun e w' => e = .returned noV ∧ Below w.heap.size w w' := by
  have hs' : (((s.size : Nat) : Int) != 40) = false := by simp; omega
  have hs1 := zeroTo w
  have hb1 : Below w.heap.size w (w.alloc (.cells #[.int .u64 0, .int .u32 0, .int .u32 0] 25)) := (Below.refl _ w).alloc (Nat.le_refl _) _
  go_enter Tryd.func10, Tryd.ntmps10
  go_wp2_with fail
  generalize w.alloc (.cells #[.int .u64 0, .int .u32 0, .int .u32 0] 25) = w1 at *
  refine (unhex_any s w1 (hL.below hb1) hs).mono ?_
  rintro e w2 ⟨rfl, hb2⟩
  rw [hn]
  have HS := Lib.hid (below_heap hb2 hs1 (lt_of_heap hs1))
  have HB := Lib.hid (p := Below w.heap.size w w2) (hb1.trans (hb2.mono hb1.size))
  clear hb1 hb2 hs1
  unfold unhexV
  go_wp2_with fail
  refine wp_region_held (S := fun _ => True) (by kernel_rfl) ?_
  change wpAnyH _ _ _ _ _ _ _ _ w2.drew
  have HS := Lib.hid (p := w2.drew.heap[w.heap.size]? = some (stO 0 0 0)) HS.out
  have HB := Lib.hid HB.out.drew
  generalize w2.drew = w3 at *
  refine held_take 0 (.bool false) trivial rfl (fun _ _ _ h => h) (by kernel_rfl) (by kernel_rfl) (by kernel_rfl) rfl (fun w7 h7 => by go_simp) ?_
  simp only [Act.put, List.setIfInBounds_toArray, List.set_cons_zero, List.set_cons_succ, List.getElem_toArray, List.getElem_cons_zero]
  refine held_take 1 (.bool true) trivial rfl (fun _ _ _ h => h) (by kernel_rfl) (by kernel_rfl) (by kernel_rfl) rfl (fun w7 h7 => by go_simp) ?_
  simp only [Act.put, List.setIfInBounds_toArray, List.set_cons_zero, List.set_cons_succ, List.getElem_toArray, List.getElem_cons_zero, List.getElem_cons_succ]
  refine held_take 2 (.bool true) trivial rfl (fun _ _ _ h => h) (by kernel_rfl) (by kernel_rfl) (by kernel_rfl) rfl (fun w7 h7 => by go_simp) ?_
  simp only [Act.put, List.setIfInBounds_toArray, List.set_cons_zero, List.set_cons_succ, List.getElem_toArray, List.getElem_cons_zero, List.getElem_cons_succ]
  refine held_skip 3 trivial rfl (fun _ _ _ h => h) (by kernel_rfl) (by kernel_rfl) (by kernel_rfl) rfl ?_
  simp only [Act.put, List.setIfInBounds_toArray, List.set_cons_zero, List.set_cons_succ, List.getElem_toArray, List.getElem_cons_zero, List.getElem_cons_succ]
  refine held_skip 4 trivial rfl (fun _ _ _ h => h) (by kernel_rfl) (by kernel_rfl) (by kernel_rfl) rfl ?_
  simp only [Act.put, List.setIfInBounds_toArray, List.set_cons_zero, List.set_cons_succ, List.getElem_toArray, List.getElem_cons_zero, List.getElem_cons_succ]
  refine held_skip 5 trivial rfl (fun _ _ _ h => h) (by kernel_rfl) (by kernel_rfl) (by kernel_rfl) rfl ?_
  simp only [Act.put, List.setIfInBounds_toArray, List.set_cons_zero, List.set_cons_succ, List.getElem_toArray, List.getElem_cons_zero, List.getElem_cons_succ]
  refine held_skip 6 trivial rfl (fun _ _ _ h => h) (by kernel_rfl) (by kernel_rfl) (by kernel_rfl) rfl ?_
  simp only [Act.put, List.setIfInBounds_toArray, List.set_cons_zero, List.set_cons_succ, List.getElem_toArray, List.getElem_cons_zero, List.getElem_cons_succ]
  refine held_skip 7 trivial rfl (fun _ _ _ h => h) (by kernel_rfl) (by kernel_rfl) (by kernel_rfl) rfl ?_
  simp only [Act.put, List.setIfInBounds_toArray, List.set_cons_zero, List.set_cons_succ, List.getElem_toArray, List.getElem_cons_zero, List.getElem_cons_succ]
  refine held_skip 8 trivial rfl (fun _ _ _ h => h) (by kernel_rfl) (by kernel_rfl) (by kernel_rfl) rfl ?_
  simp only [Act.put, List.setIfInBounds_toArray, List.set_cons_zero, List.set_cons_succ, List.getElem_toArray, List.getElem_cons_zero, List.getElem_cons_succ]
  refine held_take 9 (.bool true) trivial rfl (fun _ _ _ h => h) (by kernel_rfl) (by kernel_rfl) (by kernel_rfl) rfl (fun w7 h7 => by go_simp) ?_
  simp only [Act.put, List.setIfInBounds_toArray, List.set_cons_zero, List.set_cons_succ, List.getElem_toArray, List.getElem_cons_zero, List.getElem_cons_succ]
  refine wpAnyH_done (by kernel_rfl) ?_ _
  have hw2 := HS.out
  obtain ⟨c0, c1, c2⟩ := st_cells hw2
  have f0 := st_free hw2 0
  have f1 := st_free hw2 1
  have f2 := st_free hw2 2
  clear hw2
  go_wp2_with fail
  exact end_st2 rfl rfl rfl (st_set3 (w := w3) HS.out 0 0 0) rfl ⟨rfl, ((HB.out.setCell (Nat.le_refl _) _).setCell (Nat.le_refl _) _).setCell (Nat.le_refl _) _⟩

/-- The stamp of 16 bytes. -/
def stV (u : ByteArray) : Value := .agg #[.int .u64 (liftN (bF u) 0 8 : Nat), .int .u32 (liftN (bF u) 8 4 : Nat), .int .u32 (liftN (bF u) 12 4 : Nat)]

set_option maxHeartbeats 1000000 in
theorem decode_some (s t u v z : ByteArray) (w : World) (hL : Laid w) (hs : s.size = 40) (ht : t.size = 20) (hn : unhexL s.data.toList = some t.data.toList) (hu : t.extract 0 16 = u) (hv : t.extract 16 20 = v)
    (hz : ByteArray.mk (sumL u.data.toList).toArray = z) (b : Bool) (hb : (z.toList == v.toList) = b) :
    Calls Tryd.prog 10 #[.string s] w fun e w' => e = .returned (if b then .tuple #[stV u, .int .i64 0] else noV) ∧ Below w.heap.size w w' := by
  have hs' : (((s.size : Nat) : Int) != 40) = false := by simp; omega
  have nu : u.size = 16 := by rw [← hu]; simp [ht]
  have hs1 := zeroTo w
  have hb1 : Below w.heap.size w (w.alloc (.cells #[.int .u64 0, .int .u32 0, .int .u32 0] 25)) := (Below.refl _ w).alloc (Nat.le_refl _) _
  go_enter Tryd.func10, Tryd.ntmps10
  go_wp2_with fail
  generalize w.alloc (.cells #[.int .u64 0, .int .u32 0, .int .u32 0] 25) = w1 at *
  refine (unhex_any s w1 (hL.below hb1) hs).mono ?_
  rintro e w2 ⟨rfl, hb2⟩
  rw [hn]
  have HS := Lib.hid (below_heap hb2 hs1 (lt_of_heap hs1))
  have HB := Lib.hid (p := Below w.heap.size w w2) (hb1.trans (hb2.mono hb1.size))
  clear hb1 hb2 hs1
  rw [show unhexV (some t.data.toList) = .tuple #[.string t, .bool true] from rfl]
  go_wp2_with fail
  refine wp_region_held (S := fun _ => True) (by kernel_rfl) ?_
  change wpAnyH _ _ _ _ _ _ _ _ w2.drew
  have HS := Lib.hid (p := w2.drew.heap[w.heap.size]? = some (stO 0 0 0)) HS.out
  have HB := Lib.hid HB.out.drew
  generalize w2.drew = w3 at *
  refine held_take 0 (.bool true) trivial rfl (fun _ _ _ h => h) (by kernel_rfl) (by kernel_rfl) (by kernel_rfl) rfl (fun w7 h7 => by go_simp) ?_
  simp only [Act.put, List.setIfInBounds_toArray, List.set_cons_zero, List.set_cons_succ, List.getElem_toArray, List.getElem_cons_zero]
  refine held_take 1 (.bool false) trivial rfl (fun _ _ _ h => h) (by kernel_rfl) (by kernel_rfl) (by kernel_rfl) rfl (fun w7 h7 => by go_simp) ?_
  simp only [Act.put, List.setIfInBounds_toArray, List.set_cons_zero, List.set_cons_succ, List.getElem_toArray, List.getElem_cons_zero, List.getElem_cons_succ]
  refine held_take 2 (.bool false) trivial rfl (fun _ _ _ h => h) (by kernel_rfl) (by kernel_rfl) (by kernel_rfl) rfl (fun w7 h7 => by go_simp) ?_
  simp only [Act.put, List.setIfInBounds_toArray, List.set_cons_zero, List.set_cons_succ, List.getElem_toArray, List.getElem_cons_zero, List.getElem_cons_succ]
  refine held_want 3 (.string t) trivial rfl (fun _ _ _ h => h) (by kernel_rfl) (by kernel_rfl) (by kernel_rfl) rfl (fun w7 h7 => by go_simp) ?_
  simp only [Act.put, List.setIfInBounds_toArray, List.set_cons_zero, List.set_cons_succ, List.getElem_toArray, List.getElem_cons_zero, List.getElem_cons_succ]
  refine held_want 4 (.string u) trivial rfl (fun _ _ _ h => h) (by kernel_rfl) (by kernel_rfl) (by kernel_rfl) rfl (fun w7 h7 => by go_simp) ?_
  simp only [Act.put, List.setIfInBounds_toArray, List.set_cons_zero, List.set_cons_succ, List.getElem_toArray, List.getElem_cons_zero, List.getElem_cons_succ]
  refine held_want 6 (.string t) trivial rfl (fun _ _ _ h => h) (by kernel_rfl) (by kernel_rfl) (by kernel_rfl) rfl (fun w7 h7 => by go_simp) ?_
  simp only [Act.put, List.setIfInBounds_toArray, List.set_cons_zero, List.set_cons_succ, List.getElem_toArray, List.getElem_cons_zero, List.getElem_cons_succ]
  refine held_want 7 (.string v) trivial rfl (fun _ _ _ h => h) (by kernel_rfl) (by kernel_rfl) (by kernel_rfl) rfl (fun w7 h7 => by go_simp) ?_
  simp only [Act.put, List.setIfInBounds_toArray, List.set_cons_zero, List.set_cons_succ, List.getElem_toArray, List.getElem_cons_zero, List.getElem_cons_succ]
  refine held_call 5 (f := 18) (args := #[.string u]) rfl (by kernel_rfl) rfl (by go_simp) ?_
  refine (sum_any u _ (hL.below HB.out) (by rw [nu]; decide)).mono ?_
  rintro e w4 ⟨rfl, hb4⟩
  rw [hz]
  refine ⟨_, rfl, trivial, ?_⟩
  simp only [Act.put, List.setIfInBounds_toArray, List.set_cons_zero, List.set_cons_succ, List.getElem_toArray, List.getElem_cons_zero, List.getElem_cons_succ]
  have HS := Lib.hid (below_heap hb4 HS.out (lt_of_heap HS.out))
  have HB := Lib.hid (p := Below w.heap.size w w4) (HB.out.trans (hb4.mono HB.out.size))
  clear hb4
  refine held_want 8 (.bool (!b)) trivial rfl (fun _ _ _ h => h) (by kernel_rfl) (by kernel_rfl) (by kernel_rfl) rfl (fun w7 h7 => by go_simp) ?_
  simp only [Act.put, List.setIfInBounds_toArray, List.set_cons_zero, List.set_cons_succ, List.getElem_toArray, List.getElem_cons_zero, List.getElem_cons_succ]
  refine held_take 9 (.bool (!b)) trivial rfl (fun _ _ _ h => h) (by kernel_rfl) (by kernel_rfl) (by kernel_rfl) rfl (fun w7 h7 => by go_simp) ?_
  simp only [Act.put, List.setIfInBounds_toArray, List.set_cons_zero, List.set_cons_succ, List.getElem_toArray, List.getElem_cons_zero, List.getElem_cons_succ]
  refine wpAnyH_done (by kernel_rfl) ?_ _
  cases b with
  | false =>
    have hw2 := HS.out
    obtain ⟨c0, c1, c2⟩ := st_cells hw2
    have f0 := st_free hw2 0
    have f1 := st_free hw2 1
    have f2 := st_free hw2 2
    clear hw2
    go_wp2_with fail
    exact end_st2 rfl rfl rfl (st_set3 HS.out 0 0 0) rfl ⟨rfl, ((HB.out.setCell (Nat.le_refl _) _).setCell (Nat.le_refl _) _).setCell (Nat.le_refl _) _⟩
  | true =>
    go_wp2_with fail
    refine (unpack_any u w4 nu).mono ?_
    rintro e w5 ⟨rfl, hb5⟩
    have HS := Lib.hid (below_heap hb5 HS.out (lt_of_heap HS.out))
    have HB := Lib.hid (p := Below w.heap.size w w5) (HB.out.trans (hb5.mono HB.out.size))
    have hne : Hid (w.heap.size < w5.heap.size) := Lib.hid (lt_of_heap HS.out)
    clear hb5
    have h1 := heap_alloc_old HS.out (stO (liftN (bF u) 0 8 : Nat) (liftN (bF u) 8 4 : Nat) (liftN (bF u) 12 4 : Nat))
    have h2 := heap_alloc_at w5 (stO (liftN (bF u) 0 8 : Nat) (liftN (bF u) 8 4 : Nat) (liftN (bF u) 12 4 : Nat))
    have HB := Lib.hid (HB.out.alloc HB.out.size (stO (liftN (bF u) 0 8 : Nat) (liftN (bF u) 8 4 : Nat) (liftN (bF u) 12 4 : Nat)))
    have H1 := Lib.hid h1
    obtain ⟨c0, c1, c2⟩ := st_cells h1
    obtain ⟨d0, d1, d2⟩ := st_cells h2
    have f0 := st_free h1 0
    have f1 := st_free h1 1
    have f2 := st_free h1 2
    clear h1 h2
    unfold stO at c0 c1 c2 d0 d1 d2 f0 f1 f2
    go_wp2_with fail
    exact end_st2 rfl rfl rfl (st_set3 H1.out _ _ _) rfl ⟨rfl, ((HB.out.setCell (Nat.le_refl _) _).setCell (Nat.le_refl _) _).setCell (Nat.le_refl _) _⟩

theorem unhexL_length : ∀ (l m : List UInt8), unhexL l = some m → l.length = 2 * m.length
  | [], m, h => by
    rw [unhexL] at h
    obtain rfl : [] = m := by simpa using h
    rfl
  | [a], m, h => by simp [unhexL] at h
  | a :: b :: l, m, h => by
    rw [unhexL] at h
    split at h
    · rename_i h1 h2 h3
      obtain rfl := Option.some.inj h
      have := unhexL_length l _ h3
      simp [this]
      omega
    · cases h
/-- The 16 bytes that a text carries. -/
def decL (s : List UInt8) : Option (List UInt8) :=
  if s.length = 40 then
    match unhexL s with
    | some l => if sumL (l.take 16) = l.drop 16 then some (l.take 16) else none
    | none => none
  else none
def decV : Option (List UInt8) → Value
  | some l => .tuple #[stV ⟨l.toArray⟩, .int .i64 0]
  | none => noV

/-- token.Decode -/
theorem decode_any (s : ByteArray) (w : World) (hL : Laid w) :
    Calls Tryd.prog 10 #[.string s] w fun e w' => e = .returned (decV (decL s.data.toList)) ∧ Below w.heap.size w w' := by
  by_cases hs : s.size = 40
  · have hl : s.data.toList.length = 40 := by simpa using hs
    unfold decL
    rw [if_pos hl]
    cases hn : unhexL s.data.toList with
    | none => exact decode_none s w hL hs hn
    | some l =>
      have h20 : l.length = 20 := by have := unhexL_length _ _ hn; omega
      have hm : (ByteArray.mk l.toArray).size = 20 := by rw [mk_size, h20]
      have e1 : (ByteArray.mk l.toArray).extract 0 16 = ByteArray.mk (l.take 16).toArray := by
        apply ByteArray.ext
        simp
      have e2 : (ByteArray.mk l.toArray).extract 16 20 = ByteArray.mk (l.drop 16).toArray := by
        apply ByteArray.ext
        simp [← h20, List.take_of_length_le]
      have h := decode_some s ⟨l.toArray⟩ _ _ _ w hL hs hm hn e1 e2 rfl _ rfl
      refine h.mono fun e w' ⟨he, hw⟩ => ⟨?_, hw⟩
      rw [he, Go.ByteArray.toList_eq, Go.ByteArray.toList_eq]
      by_cases hc : sumL (l.take 16) = l.drop 16
      · simp [hc, decV]
      · simp [hc, decV]
  · have hl : ¬ s.data.toList.length = 40 := by simpa using hs
    unfold decL
    rw [if_neg hl]
    exact decode_short s w hs
end Go.Proofs.YtdpgfjdndohcdaaDoor
