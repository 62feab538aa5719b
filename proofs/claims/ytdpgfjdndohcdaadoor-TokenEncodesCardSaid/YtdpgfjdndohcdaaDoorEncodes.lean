/- The law of TokenEncodes, walked. -/
import Derived.Test.YtdpgfjdndohcdaaDoorRefEnc
import Derived.Test.YtdpgfjdndohcdaaDoorApart
namespace Go.Proofs.YtdpgfjdndohcdaaDoor
open Go.RowKit

set_option maxHeartbeats 4000000 in
theorem encodes_walk (x y z : Nat) (hx : x < 18446744073709551616) (hy : y < 4294967296) (hz : z < 4294967296) (w : World) (hL : Laid w) :
    Calls Tryd.prog 6 #[.agg #[.int .u64 x, .int .u32 y, .int .u32 z]] w fun e w' => e = .returned (.bool true) ∧ Below w.heap.size w w' := by
  have hs1 := heap_alloc_at w (stO x y z)
  have hb1 : Below w.heap.size w (w.alloc (stO x y z)) := (Below.refl _ w).alloc (Nat.le_refl _) _
  have E2 : ∀ w, Calls Tryd.prog 14 #[.agg #[.int .u64 x, .int .u32 y, .int .u32 z]] w fun e w' => e = .returned (.string (encS x y z)) ∧ Below w.heap.size w w' := fun w => refencode_any x y z w hx hy hz
  have D1 := dec_is x y z hx hy hz
  go_enter Tryd.func6, Tryd.ntmps6
  go_wp2_with fail
  change Calls Tryd.prog 9 _ (w.alloc (stO x y z)) _
  generalize w.alloc (stO x y z) = w1 at *
  refine (encode_any x y z w1 (hL.below hb1) hy hz).mono ?_
  rintro e w2 ⟨rfl, hb2⟩
  have HS := Lib.hid (below_heap hb2 hs1 (lt_of_heap hs1))
  have HB := Lib.hid (p := Below w.heap.size w w2) (hb1.trans (hb2.mono hb1.size))
  clear hb1 hb2 hs1 hx hy hz
  have E2 := Lib.hid E2
  have D1 := Lib.hid D1
  have hs := HS.out
  obtain ⟨c0, c1, c2⟩ := st_cells hs
  clear hs
  go_wp2_with fail
  refine (E2.out w2).mono ?_
  rintro e w3 ⟨rfl, hb3⟩
  have HS := Lib.hid (below_heap hb3 HS.out (lt_of_heap HS.out))
  have HB := Lib.hid (p := Below w.heap.size w w3) (HB.out.trans (hb3.mono HB.out.size))
  clear hb3 c0 c1 c2
  go_wp2_with fail
  refine (D1.out w3 (hL.below HB.out)).mono ?_
  rintro e w4 ⟨rfl, hb4⟩
  have HS := Lib.hid (heap_alloc_old (below_heap hb4 HS.out (lt_of_heap HS.out)) (stO x y z))
  have HB := Lib.hid (p := Below w.heap.size w w4) (HB.out.trans (hb4.mono HB.out.size))
  have HB := Lib.hid (HB.out.alloc HB.out.size (stO x y z))
  clear hb4
  have h1 := HS.out
  have h2 := heap_alloc_at w4 (stO x y z)
  obtain ⟨c0, c1, c2⟩ := st_cells h1
  obtain ⟨d0, d1, d2⟩ := st_cells h2
  clear h1 h2
  unfold stO at c0 c1 c2 d0 d1 d2
  go_wp2_with fail
  go_ret
  exact ⟨rfl, HB.out⟩
end Go.Proofs.YtdpgfjdndohcdaaDoor
