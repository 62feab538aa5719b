/- token.Encode: the digits of the packed stamp and of its sum. -/
import Derived.Test.YtdpgfjdndohcdaaDoorUnpack
import Derived.Test.YtdpgfjdndohcdaaDoorUnhex
import Derived.Test.YtdpgfjdndohcdaaDoorLeaf
namespace Go.Proofs.YtdpgfjdndohcdaaDoor
open Go.RowKit

/-- The bytes of a token before their digits. -/
def rawL (x y z : Nat) : List UInt8 := packL x y z ++ sumL (packL x y z)
/-- A token. -/
def encS (x y z : Nat) : ByteArray := ⟨(hexL (rawL x y z)).toArray⟩

theorem packL_length (x y z : Nat) : (packL x y z).length = 16 := by simp [packL]
theorem sumL_length (l : List UInt8) : (sumL l).length = 4 := rfl
theorem rawL_length (x y z : Nat) : (rawL x y z).length = 20 := by rw [rawL, List.length_append, packL_length, sumL_length]

set_option maxHeartbeats 1000000 in
theorem encode_any (x y z : Nat) (w : World) (hL : Laid w) (hy : y < 4294967296) (hz : z < 4294967296) :
    Calls Tryd.prog 9 #[.agg #[.int .u64 x, .int .u32 y, .int .u32 z]] w fun e w' => e = .returned (.string (encS x y z)) ∧ Below w.heap.size w w' := by
  have hs1 := heap_alloc_at w (stO x y z)
  have hb1 : Below w.heap.size w (w.alloc (stO x y z)) := (Below.refl _ w).alloc (Nat.le_refl _) _
  unfold stO at hs1 hb1
  go_enter Tryd.func9, Tryd.ntmps9
  go_wp2_with fail
  generalize w.alloc (.cells #[.int .u64 x, .int .u32 y, .int .u32 z] 25) = w1 at *
  refine (pack_any x y z w1 hy hz).mono ?_
  rintro e w2 ⟨rfl, hb2⟩
  have hb3 : Below w.heap.size w w2 := hb1.trans (hb2.mono hb1.size)
  clear hb1 hb2 hs1
  have n1 : (ByteArray.mk (packL x y z).toArray).size = 16 := by rw [mk_size, packL_length]
  have n2 : (ByteArray.mk (sumL (packL x y z)).toArray).size = 4 := by rw [mk_size, sumL_length]
  go_wp2_with fail
  refine (sum_any ⟨(packL x y z).toArray⟩ w2 (hL.below hb3) (by rw [n1]; decide)).mono ?_
  rintro e w4 ⟨rfl, hb4⟩
  rw [show (ByteArray.mk (packL x y z).toArray).data.toList = packL x y z from rfl]
  have hb5 : Below w.heap.size w w4 := hb3.trans (hb4.mono hb3.size)
  clear hb3 hb4
  go_wp2_with fail
  rw [show (ByteArray.mk (packL x y z).toArray) ++ (ByteArray.mk (sumL (packL x y z)).toArray) = ByteArray.mk (rawL x y z).toArray from mk_append _ _]
  have n3 : (ByteArray.mk (rawL x y z).toArray).size = 20 := by rw [mk_size, rawL_length]
  refine (hex_any ⟨(rawL x y z).toArray⟩ w4 (hL.below hb5) (by rw [n3]; decide)).mono ?_
  rintro e w6 ⟨rfl, hb6⟩
  have hb7 : Below w.heap.size w w6 := hb5.trans (hb6.mono hb5.size)
  clear hb5 hb6
  go_wp2_with fail
  go_ret
  exact ⟨rfl, hb7⟩
end Go.Proofs.YtdpgfjdndohcdaaDoor
