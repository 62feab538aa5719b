/- The law of TokenDecodes, walked. -/
import Derived.Test.YtdpgfjdndohcdaaDoorRefDec
namespace Go.Proofs.YtdpgfjdndohcdaaDoor
open Go.RowKit

set_option maxHeartbeats 4000000 in
theorem decodes_none (s : ByteArray) (w : World) (hL : Laid w) (hd : decL s.data.toList = none) :
    Calls Tryd.prog 7 #[.string s] w fun e w' => e = .returned (.bool true) ∧ Below w.heap.size w w' := by
  have D := Lib.hid (fun w hL => decode_any s w hL)
  have R := Lib.hid (fun w => refdec_any s w)
  go_enter Tryd.func7, Tryd.ntmps7
  go_wp2_with fail
  refine (D.out w hL).mono ?_
  rintro e w2 ⟨rfl, hb2⟩
  rw [hd, show decV none = .tuple #[.agg #[.int .u64 0, .int .u32 0, .int .u32 0], .int .i64 40] from rfl]
  have HB := Lib.hid (hb2.alloc hb2.size (stO 0 0 0))
  have HS := Lib.hid (heap_alloc_at w2 (stO 0 0 0))
  clear hb2
  go_wp2_with fail
  change Calls Tryd.prog 15 _ (w2.alloc (stO 0 0 0)) _
  generalize w2.heap.size = B2 at *
  generalize w2.alloc (stO 0 0 0) = w3 at *
  refine (R.out w3).mono ?_
  rintro e w4 ⟨rfl, hb4⟩
  rw [hd, show decV none = .tuple #[.agg #[.int .u64 0, .int .u32 0, .int .u32 0], .int .i64 40] from rfl]
  have HS := Lib.hid (heap_alloc_old (below_heap hb4 HS.out (lt_of_heap HS.out)) (stO 0 0 0))
  have HB := Lib.hid (p := Below w.heap.size w w4) (HB.out.trans (hb4.mono HB.out.size))
  have HB := Lib.hid (HB.out.alloc HB.out.size (stO 0 0 0))
  clear hb4
  have h1 := HS.out
  have h2 := heap_alloc_at w4 (stO 0 0 0)
  obtain ⟨c0, c1, c2⟩ := st_cells h1
  obtain ⟨d0, d1, d2⟩ := st_cells h2
  clear h1 h2
  unfold stO at c0 c1 c2 d0 d1 d2
  go_wp2_with fail
  go_ret
  exact ⟨rfl, HB.out⟩

set_option maxHeartbeats 4000000 in
theorem decodes_some (s : ByteArray) (l : List UInt8) (w : World) (hL : Laid w) (hd : decL s.data.toList = some l) :
    Calls Tryd.prog 7 #[.string s] w fun e w' => e = .returned (.bool true) ∧ Below w.heap.size w w' := by
  have D := Lib.hid (fun w hL => decode_any s w hL)
  have R := Lib.hid (fun w => refdec_any s w)
  have E := Lib.hid (fun w hL => encode_any (nX l) (nY l) (nZ l) w hL (nY_lt l) (nZ_lt l))
  have hes : encS (nX l) (nY l) (nZ l) = s := by
    obtain ⟨h16, h2⟩ := decL_some hd
    apply ByteArray.ext
    apply Array.ext'
    show hexL (rawL (nX l) (nY l) (nZ l)) = _
    unfold rawL
    rw [packL_of l h16, h2]
  have HE := Lib.hid hes
  clear hes
  go_enter Tryd.func7, Tryd.ntmps7
  go_wp2_with fail
  refine (D.out w hL).mono ?_
  rintro e w2 ⟨rfl, hb2⟩
  rw [hd, decV_some]
  have HB := Lib.hid (hb2.alloc hb2.size (stO (nX l) (nY l) (nZ l)))
  have HS := Lib.hid (heap_alloc_at w2 (stO (nX l) (nY l) (nZ l)))
  clear hb2
  go_wp2_with fail
  change Calls Tryd.prog 15 _ (w2.alloc (stO (nX l) (nY l) (nZ l))) _
  generalize w2.heap.size = B2 at *
  generalize w2.alloc (stO (nX l) (nY l) (nZ l)) = w3 at *
  refine (R.out w3).mono ?_
  rintro e w4 ⟨rfl, hb4⟩
  rw [hd, decV_some]
  have HS := Lib.hid (heap_alloc_old (below_heap hb4 HS.out (lt_of_heap HS.out)) (stO (nX l) (nY l) (nZ l)))
  have HB := Lib.hid (p := Below w.heap.size w w4) (HB.out.trans (hb4.mono HB.out.size))
  have HB := Lib.hid (HB.out.alloc HB.out.size (stO (nX l) (nY l) (nZ l)))
  clear hb4
  have h1 := HS.out
  have h2 := heap_alloc_at w4 (stO (nX l) (nY l) (nZ l))
  obtain ⟨c0, c1, c2⟩ := st_cells h1
  obtain ⟨d0, d1, d2⟩ := st_cells h2
  clear h1 h2
  unfold stO at c0 c1 c2 d0 d1 d2
  go_wp2_with fail
  refine (E.out _ (hL.below HB.out)).mono ?_
  rintro e w5 ⟨rfl, hb5⟩
  rw [HE.out]
  have HB := Lib.hid (p := Below w.heap.size w w5) (HB.out.trans (hb5.mono HB.out.size))
  clear hb5 c0 c1 c2 d0 d1 d2
  go_wp2_with fail
  go_ret
  exact ⟨rfl, HB.out⟩

theorem decodes_walk (s : ByteArray) (w : World) (hL : Laid w) :
    Calls Tryd.prog 7 #[.string s] w fun e w' => e = .returned (.bool true) ∧ Below w.heap.size w w' := by
  cases hd : decL s.data.toList with
  | none => exact decodes_none s w hL hd
  | some l => exact decodes_some s l w hL hd
end Go.Proofs.YtdpgfjdndohcdaaDoor
