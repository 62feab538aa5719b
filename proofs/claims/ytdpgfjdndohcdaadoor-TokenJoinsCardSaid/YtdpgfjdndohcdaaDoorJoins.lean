/- The law of TokenJoins, walked. -/
import Derived.Test.YtdpgfjdndohcdaaDoorRefJoin
namespace Go.Proofs.YtdpgfjdndohcdaaDoor
open Go.RowKit

theorem joinV_is (a b : ByteArray) : ∃ s e, joinV a b = .tuple #[.string s, .int .i64 e] := by
  unfold joinV
  split
  · exact ⟨_, _, rfl⟩
  · split
    · exact ⟨_, _, rfl⟩
    · exact ⟨_, _, rfl⟩
def textsO (a b : ByteArray) : Obj := .cells #[.string a, .string b] 40
theorem texts_cells {w : World} {p : Nat} {a b : ByteArray} (h : w.heap[p]? = some (textsO a b)) : w.cell? ⟨p, 0, none⟩ = some (.string a) ∧ w.cell? ⟨p, 1, none⟩ = some (.string b) := by
  simp [World.cell?, h, textsO]

set_option maxHeartbeats 4000000 in
theorem joins_walk (a b : ByteArray) (w : World) (hL : Laid w) :
    Calls Tryd.prog 5 #[.agg #[.string a, .string b]] w fun e w' => e = .returned (.bool true) ∧ Below w.heap.size w w' := by
  have hs1 := heap_alloc_at w (textsO a b)
  have hb1 : Below w.heap.size w (w.alloc (textsO a b)) := (Below.refl _ w).alloc (Nat.le_refl _) _
  obtain ⟨s, e, hj⟩ := joinV_is a b
  go_enter Tryd.func5, Tryd.ntmps5
  go_wp2_with fail
  change Calls Tryd.prog 11 _ (w.alloc (textsO a b)) _
  generalize w.alloc (textsO a b) = w1 at *
  refine (join_any a b w1 (hL.below hb1)).mono ?_
  rintro e1 w2 ⟨rfl, hb2⟩
  have HS := Lib.hid (below_heap hb2 hs1 (lt_of_heap hs1))
  have HB := Lib.hid (p := Below w.heap.size w w2) (hb1.trans (hb2.mono hb1.size))
  clear hb1 hb2 hs1
  rw [hj]
  have h1 := HS.out
  obtain ⟨c0, c1⟩ := texts_cells h1
  clear h1
  go_wp2_with fail
  refine (refjoin_any a b w2).mono ?_
  rintro e1 w3 ⟨rfl, hb3⟩
  rw [hj]
  have HB := Lib.hid (p := Below w.heap.size w w3) (HB.out.trans (hb3.mono HB.out.size))
  clear hb3 c0 c1 hj
  go_wp2_with fail
  go_ret
  exact ⟨rfl, HB.out⟩
end Go.Proofs.YtdpgfjdndohcdaaDoor
