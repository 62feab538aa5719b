/- tidemarkref4.Encode: the document's token is the program's. -/
import Derived.Test.YtdpgfjdndohcdaaDoorRefPack
import Derived.Test.YtdpgfjdndohcdaaDoorRefHex
import Derived.Test.YtdpgfjdndohcdaaDoorPlain
namespace Go.Proofs.YtdpgfjdndohcdaaDoor
open Go.RowKit

theorem ofNat_mod (a : Nat) : UInt8.ofNat (a % 256) = UInt8.ofNat a := by
  apply UInt8.toNat_inj.1
  simp
theorem refP_packL (x y z : Nat) : refP x y z = packL x y z := by
  have e : packL x y z = [UInt8.ofNat (packF x y z 0), UInt8.ofNat (packF x y z 1), UInt8.ofNat (packF x y z 2), UInt8.ofNat (packF x y z 3), UInt8.ofNat (packF x y z 4), UInt8.ofNat (packF x y z 5), UInt8.ofNat (packF x y z 6), UInt8.ofNat (packF x y z 7),
    UInt8.ofNat (packF x y z (8 + 0)), UInt8.ofNat (packF x y z (8 + 1)), UInt8.ofNat (packF x y z (8 + 2)), UInt8.ofNat (packF x y z (8 + 3)), UInt8.ofNat (packF x y z (12 + 0)), UInt8.ofNat (packF x y z (12 + 1)), UInt8.ofNat (packF x y z (12 + 2)), UInt8.ofNat (packF x y z (12 + 3))] := rfl
  rw [e]
  rw [packF0 x y z 0 (by decide), packF0 x y z 1 (by decide), packF0 x y z 2 (by decide), packF0 x y z 3 (by decide), packF0 x y z 4 (by decide), packF0 x y z 5 (by decide), packF0 x y z 6 (by decide), packF0 x y z 7 (by decide),
    packF8 x y z 0 (by decide), packF8 x y z 1 (by decide), packF8 x y z 2 (by decide), packF8 x y z 3 (by decide), packF12 x y z 0 (by decide), packF12 x y z 1 (by decide), packF12 x y z 2 (by decide), packF12 x y z 3 (by decide)]
  simp only [ofNat_mod]
  rfl

set_option maxHeartbeats 4000000 in
theorem refencode_any (x y z : Nat) (w : World) (hx : x < 18446744073709551616) (hy : y < 4294967296) (hz : z < 4294967296) :
    Calls Tryd.prog 14 #[.agg #[.int .u64 x, .int .u32 y, .int .u32 z]] w fun e w' => e = .returned (.string (encS x y z)) ∧ Below w.heap.size w w' := by
  have hb1 : Below w.heap.size w (w.alloc (stO x y z)) := (Below.refl _ w).alloc (Nat.le_refl _) _
  go_enter Tryd.func14, Tryd.ntmps14
  go_wp2_with fail
  change Calls Tryd.prog 23 _ (w.alloc (stO x y z)) _
  generalize w.alloc (stO x y z) = w1 at *
  refine (refpack_any x y z w1 hx hy hz).mono ?_
  rintro e w2 ⟨rfl, hb2⟩
  have HB := Lib.hid (p := Below w.heap.size w w2) (hb1.trans (hb2.mono hb1.size))
  clear hb1 hb2 hx hy hz
  rw [refP_packL]
  have n1 : (ByteArray.mk (packL x y z).toArray).size = 16 := by rw [mk_size, packL_length]
  go_wp2_with fail
  refine (refcrc_any ⟨(packL x y z).toArray⟩ w2 (by rw [n1]; decide)).mono ?_
  rintro e wk ⟨rfl, hw⟩
  subst wk
  rw [refL_crcL]
  obtain ⟨c, hc⟩ : ∃ c, c = crcN (packL x y z) := ⟨_, rfl⟩
  rw [show crcL 4294967295 (ByteArray.mk (packL x y z).toArray).data.toList ^^^ 4294967295 = c from hc.symm]
  have hc32 : c < 4294967296 := by rw [hc]; exact crcN_lt _
  have HC := Lib.hid hc
  clear hc
  go_wp2_with fail
  have hconv : (convert 32 9 (.slice (some ⟨w2.heap.size, 0, none⟩) 4 4)).run Tryd.prog (w2.alloc (.cells #[.int .u8 ((c : Int) / 16777216), .int .u8 ((c : Int) / 65536 % 256), .int .u8 ((c : Int) / 256 % 256), .int .u8 ((c : Int) % 256)] 5)) = _ := run_convert_bytes_back (P := Tryd.prog) (w2.alloc (.cells #[.int .u8 ((c : Int) / 16777216), .int .u8 ((c : Int) / 65536 % 256), .int .u8 ((c : Int) / 256 % 256), .int .u8 ((c : Int) % 256)] 5)) 32 9 5 ⟨w2.heap.size, 0, none⟩ 4 [UInt8.ofNat (c / 16777216), UInt8.ofNat (c / 65536), UInt8.ofNat (c / 256), UInt8.ofNat c] Tryd.underlying32 Tryd.underlying5 Tryd.underlying9 (fun j hj => by
    have h2 : j = 0 ∨ j = 1 ∨ j = 2 ∨ j = 3 := by simp at hj; omega
    have hq := Lib.cell_of_heap (heap_alloc_at w2 (.cells #[.int .u8 ((c : Int) / 16777216), .int .u8 ((c : Int) / 65536 % 256), .int .u8 ((c : Int) / 256 % 256), .int .u8 ((c : Int) % 256)] 5))
    rcases h2 with rfl | rfl | rfl | rfl
    · rw [show (Addr.add ⟨w2.heap.size, 0, none⟩ 0) = ⟨w2.heap.size, 0, none⟩ from rfl, hq]
      simp
      omega
    · rw [show (Addr.add ⟨w2.heap.size, 0, none⟩ 1) = ⟨w2.heap.size, 1, none⟩ from rfl, hq]
      simp
    · rw [show (Addr.add ⟨w2.heap.size, 0, none⟩ 2) = ⟨w2.heap.size, 2, none⟩ from rfl, hq]
      simp
    · rw [show (Addr.add ⟨w2.heap.size, 0, none⟩ 3) = ⟨w2.heap.size, 3, none⟩ from rfl, hq]
      simp)
  rw [hconv]
  have HB := Lib.hid (HB.out.alloc HB.out.size (.cells #[.int .u8 ((c : Int) / 16777216), .int .u8 ((c : Int) / 65536 % 256), .int .u8 ((c : Int) / 256 % 256), .int .u8 ((c : Int) % 256)] 5))
  clear hconv
  generalize w2.alloc (.cells #[.int .u8 ((c : Int) / 16777216), .int .u8 ((c : Int) / 65536 % 256), .int .u8 ((c : Int) / 256 % 256), .int .u8 ((c : Int) % 256)] 5) = w3 at *
  have hsum : [UInt8.ofNat (c / 16777216), UInt8.ofNat (c / 65536), UInt8.ofNat (c / 256), UInt8.ofNat c] = sumL (packL x y z) := by rw [HC.out]; rfl
  rw [hsum]
  clear hsum
  have n2 : (ByteArray.mk (sumL (packL x y z)).toArray).size = 4 := by rw [mk_size, sumL_length]
  simp only [Result.andThen]
  rw [Oper.upon_value]
  simp only [Act.put, List.setIfInBounds_toArray, List.set_cons_zero, List.set_cons_succ]
  go_wp2_with fail
  rw [show (ByteArray.mk (packL x y z).toArray) ++ (ByteArray.mk (sumL (packL x y z)).toArray) = ByteArray.mk (rawL x y z).toArray from mk_append _ _]
  have n3 : (ByteArray.mk (rawL x y z).toArray).size = 20 := by rw [mk_size, rawL_length]
  refine (refhex_any ⟨(rawL x y z).toArray⟩ w3 (by rw [n3]; decide)).mono ?_
  rintro e w4 ⟨rfl, hb4⟩
  have HB := Lib.hid (p := Below w.heap.size w w4) (HB.out.trans (hb4.mono HB.out.size))
  clear hb4
  go_wp2_with fail
  go_ret
  exact ⟨rfl, HB.out⟩
end Go.Proofs.YtdpgfjdndohcdaaDoor
