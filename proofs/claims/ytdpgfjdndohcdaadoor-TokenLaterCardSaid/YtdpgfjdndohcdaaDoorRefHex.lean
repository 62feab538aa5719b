/- tidemarkref4.hex: the digits of bytes, by the document. -/
import Derived.Test.YtdpgfjdndohcdaaDoorHeldMore
import Derived.Test.YtdpgfjdndohcdaaDoorLeaf
namespace Go.Proofs.YtdpgfjdndohcdaaDoor
open Go.RowKit

set_option maxHeartbeats 4000000 in
theorem refhex_any (s : ByteArray) (w : World) (hs : s.size ≤ 1000) :
    Calls Tryd.prog 25 #[.string s] w fun e w' => e = .returned (.string ⟨(hexL s.data.toList).toArray⟩) ∧ Below w.heap.size w w' := by
  go_enter Tryd.func25, Tryd.ntmps25
  go_wp2_with fail
  go_loopw [3, 4] (fun t i wr => ∃ k : Nat, i = .int .i64 k ∧ k ≤ s.size ∧ Hid (Below w.heap.size w wr) ∧ t = .string ⟨(hexL (s.data.toList.take k)).toArray⟩) (fun _ i _ => s.size - (Lib.intOf i).toNat)
  case atStart => exact ⟨0, rfl, Nat.zero_le _, Lib.hid (Below.refl _ _), rfl⟩
  case round =>
    obtain ⟨k, rfl, hk, HB, rfl⟩ := hrel
    by_cases hlt : k < s.size
    · have HK := Lib.hid (take_snoc s k hlt)
      obtain ⟨t, ht⟩ : ∃ t, ByteArray.mk (hexL (s.data.toList.take k)).toArray = t := ⟨_, rfl⟩
      have nt : t.size = 2 * k := by rw [← ht, mk_size, hexL_length, List.length_take]; simp; omega
      rw [ht]
      have HT := Lib.hid ht
      clear ht
      go_wp2_with fail
      refine wp_region_held (S := fun _ => True) (by kernel_rfl) ?_
      change wpAnyH _ _ _ _ _ _ _ _ wr.drew
      have HB := Lib.hid HB.out.drew
      generalize wr.drew = w3 at *
      obtain ⟨b, hb⟩ : ∃ b, s[k].toNat = b := ⟨_, rfl⟩
      have hb256 : b < 256 := by rw [← hb]; exact s[k].toNat_lt
      obtain ⟨q, hq⟩ : ∃ q, q = b / 16 := ⟨_, rfl⟩
      obtain ⟨r, hr⟩ : ∃ r, r = b % 16 := ⟨_, rfl⟩
      have hq16 : q < 16 := by omega
      have hr16 : r < 16 := by omega
      have hi : (b : Int) / 16 = (q : Int) := by omega
      have hI : (b : Int).tmod 16 = (r : Int) := by rw [Int.tmod_eq_emod_of_nonneg (by omega)]; omega
      have HQ := Lib.hid hq
      have HR := Lib.hid hr
      have HBy := Lib.hid hb
      clear hq hr
      have wb : IntKind.i64.wrap (b : Int) = (b : Int) := by rw [IntKind.wrap_i64]; omega
      have wq : IntKind.i64.wrap (q : Int) = (q : Int) := by rw [IntKind.wrap_i64]; omega
      have wm : IntKind.i64.wrap (r : Int) = (r : Int) := by rw [IntKind.wrap_i64]; omega
      refine held_take 0 (.string t) trivial rfl (fun _ _ _ h => h) (by kernel_rfl) (by kernel_rfl) (by kernel_rfl) rfl (fun w7 h7 => by go_simp) ?_
      simp only [Act.put, List.setIfInBounds_toArray, List.set_cons_zero, List.set_cons_succ, List.getElem_toArray, List.getElem_cons_zero]
      refine held_take 1 (.string s) trivial rfl (fun _ _ _ h => h) (by kernel_rfl) (by kernel_rfl) (by kernel_rfl) rfl (fun w7 h7 => by go_simp) ?_
      simp only [Act.put, List.setIfInBounds_toArray, List.set_cons_zero, List.set_cons_succ, List.getElem_toArray, List.getElem_cons_zero, List.getElem_cons_succ]
      refine held_take 2 (.int .i64 k) trivial rfl (fun _ _ _ h => h) (by kernel_rfl) (by kernel_rfl) (by kernel_rfl) rfl (fun w7 h7 => by go_simp) ?_
      simp only [Act.put, List.setIfInBounds_toArray, List.set_cons_zero, List.set_cons_succ, List.getElem_toArray, List.getElem_cons_zero, List.getElem_cons_succ]
      refine held_take 3 (.int .u8 b) trivial rfl (fun _ _ _ h => h) (by kernel_rfl) (by kernel_rfl) (by kernel_rfl) rfl (fun w7 h7 => by go_simp) ?_
      simp only [Act.put, List.setIfInBounds_toArray, List.set_cons_zero, List.set_cons_succ, List.getElem_toArray, List.getElem_cons_zero, List.getElem_cons_succ]
      refine held_take 4 (.int .i64 b) trivial rfl (fun _ _ _ h => h) (by kernel_rfl) (by kernel_rfl) (by kernel_rfl) rfl (fun w7 h7 => by go_simp) ?_
      simp only [Act.put, List.setIfInBounds_toArray, List.set_cons_zero, List.set_cons_succ, List.getElem_toArray, List.getElem_cons_zero, List.getElem_cons_succ]
      refine held_take 5 (.int .i64 q) trivial rfl (fun _ _ _ h => h) (by kernel_rfl) (by kernel_rfl) (by kernel_rfl) rfl (fun w7 h7 => by go_simp) ?_
      simp only [Act.put, List.setIfInBounds_toArray, List.set_cons_zero, List.set_cons_succ, List.getElem_toArray, List.getElem_cons_zero, List.getElem_cons_succ]
      refine held_take 7 (.string s) trivial rfl (fun _ _ _ h => h) (by kernel_rfl) (by kernel_rfl) (by kernel_rfl) rfl (fun w7 h7 => by go_simp) ?_
      simp only [Act.put, List.setIfInBounds_toArray, List.set_cons_zero, List.set_cons_succ, List.getElem_toArray, List.getElem_cons_zero, List.getElem_cons_succ]
      refine held_take 8 (.int .i64 k) trivial rfl (fun _ _ _ h => h) (by kernel_rfl) (by kernel_rfl) (by kernel_rfl) rfl (fun w7 h7 => by go_simp) ?_
      simp only [Act.put, List.setIfInBounds_toArray, List.set_cons_zero, List.set_cons_succ, List.getElem_toArray, List.getElem_cons_zero, List.getElem_cons_succ]
      refine held_take 9 (.int .u8 b) trivial rfl (fun _ _ _ h => h) (by kernel_rfl) (by kernel_rfl) (by kernel_rfl) rfl (fun w7 h7 => by go_simp) ?_
      simp only [Act.put, List.setIfInBounds_toArray, List.set_cons_zero, List.set_cons_succ, List.getElem_toArray, List.getElem_cons_zero, List.getElem_cons_succ]
      refine held_take 10 (.int .i64 b) trivial rfl (fun _ _ _ h => h) (by kernel_rfl) (by kernel_rfl) (by kernel_rfl) rfl (fun w7 h7 => by go_simp) ?_
      simp only [Act.put, List.setIfInBounds_toArray, List.set_cons_zero, List.set_cons_succ, List.getElem_toArray, List.getElem_cons_zero, List.getElem_cons_succ]
      refine held_take 11 (.int .i64 r) trivial rfl (fun _ _ _ h => h) (by kernel_rfl) (by kernel_rfl) (by kernel_rfl) rfl (fun w7 h7 => by go_simp) ?_
      simp only [Act.put, List.setIfInBounds_toArray, List.set_cons_zero, List.set_cons_succ, List.getElem_toArray, List.getElem_cons_zero, List.getElem_cons_succ]
      refine held_call 6 (f := 35) (args := #[.int .i64 q]) rfl (by kernel_rfl) rfl (by go_simp) ?_
      refine (digit_any q hq16 _).mono ?_
      rintro e wk ⟨rfl, hw⟩
      subst wk
      refine ⟨_, rfl, trivial, ?_⟩
      simp only [Act.put, List.setIfInBounds_toArray, List.set_cons_zero, List.set_cons_succ, List.getElem_toArray, List.getElem_cons_zero, List.getElem_cons_succ]
      refine held_call 12 (f := 35) (args := #[.int .i64 r]) rfl (by kernel_rfl) rfl (by go_simp) ?_
      refine (digit_any r hr16 _).mono ?_
      rintro e wk ⟨rfl, hw⟩
      subst wk
      refine ⟨_, rfl, trivial, ?_⟩
      simp only [Act.put, List.setIfInBounds_toArray, List.set_cons_zero, List.set_cons_succ, List.getElem_toArray, List.getElem_cons_zero, List.getElem_cons_succ]
      refine held_value 13 (.slice (some ⟨w3.heap.size, 0, none⟩) 2 2) (w3.alloc (.cells #[.int .u8 ((dg q).toNat : Nat), .int .u8 ((dg r).toNat : Nat)] 5)) rfl (by kernel_rfl) rfl (by go_simp) trivial ?_
      simp only [Act.put, List.setIfInBounds_toArray, List.set_cons_zero, List.set_cons_succ, List.getElem_toArray, List.getElem_cons_zero, List.getElem_cons_succ]
      have hconv : (convert 32 9 (.slice (some ⟨w3.heap.size, 0, none⟩) 2 2)).run Tryd.prog (w3.alloc (.cells #[.int .u8 ((dg q).toNat : Nat), .int .u8 ((dg r).toNat : Nat)] 5)) = _ := run_convert_bytes_back (P := Tryd.prog) (w3.alloc (.cells #[.int .u8 ((dg q).toNat : Nat), .int .u8 ((dg r).toNat : Nat)] 5)) 32 9 5 ⟨w3.heap.size, 0, none⟩ 2 [dg q, dg r] Tryd.underlying32 Tryd.underlying5 Tryd.underlying9 (fun j hj => by
        have h2 : j = 0 ∨ j = 1 := by simp at hj; omega
        have hc := Lib.cell_of_heap (heap_alloc_at w3 (.cells #[.int .u8 ((dg q).toNat : Nat), .int .u8 ((dg r).toNat : Nat)] 5))
        rcases h2 with rfl | rfl
        · rw [show (Addr.add ⟨w3.heap.size, 0, none⟩ 0) = ⟨w3.heap.size, 0, none⟩ from rfl, hc]
          simp
        · rw [show (Addr.add ⟨w3.heap.size, 0, none⟩ 1) = ⟨w3.heap.size, 1, none⟩ from rfl, hc]
          simp)
      have HB2 := Lib.hid (HB.out.alloc HB.out.size (.cells #[.int .u8 ((dg q).toNat : Nat), .int .u8 ((dg r).toNat : Nat)] 5))
      generalize w3.alloc (.cells #[.int .u8 ((dg q).toNat : Nat), .int .u8 ((dg r).toNat : Nat)] 5) = w8 at *
      refine held_value 14 (.string ⟨[dg q, dg r].toArray⟩) (w8) rfl (by kernel_rfl) rfl (run_op_convert 32 9 (.tmp 24) rfl hconv) trivial ?_
      simp only [Act.put, List.setIfInBounds_toArray, List.set_cons_zero, List.set_cons_succ, List.getElem_toArray, List.getElem_cons_zero, List.getElem_cons_succ]
      refine held_take 15 (.string (t ++ ⟨[dg q, dg r].toArray⟩)) trivial rfl (fun _ _ _ h => h) (by kernel_rfl) (by kernel_rfl) (by kernel_rfl) rfl (fun w7 h7 => by go_simp; omega) ?_
      simp only [Act.put, List.setIfInBounds_toArray, List.set_cons_zero, List.set_cons_succ, List.getElem_toArray, List.getElem_cons_zero, List.getElem_cons_succ]
      refine held_take 16 (.string (t ++ ⟨[dg q, dg r].toArray⟩)) trivial rfl (fun _ _ _ h => h) (by kernel_rfl) (by kernel_rfl) (by kernel_rfl) rfl (fun w7 h7 => by go_simp) ?_
      simp only [Act.put, List.setIfInBounds_toArray, List.set_cons_zero, List.set_cons_succ, List.getElem_toArray, List.getElem_cons_zero, List.getElem_cons_succ]
      refine wpAnyH_done (by kernel_rfl) ?_ _
      clear hconv hi hI wb wq wm
      go_wp2_with fail
      refine ⟨⟨k + 1, by go_num, by omega, HB2, ?_⟩, by simp [Lib.intOf]; omega⟩
      rw [← HT.out, HK.out, hexL_snoc, HBy.out, ← HQ.out, ← HR.out]
      exact congrArg Value.string ((mk_append _ [dg q, dg r]).trans (by simp))
    · obtain rfl : k = s.size := by omega
      go_wp2_with fail
      go_ret
      exact ⟨by rw [take_all s _ (Nat.le_refl _)]; rfl, HB.out⟩
end Go.Proofs.YtdpgfjdndohcdaaDoor
