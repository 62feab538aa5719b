/- The law of TokenApart, walked. -/
import Derived.Test.YtdpgfjdndohcdaaDoorPlain
namespace Go.Proofs.YtdpgfjdndohcdaaDoor
open Go.RowKit

/-- A stamp's value. -/
def sV (x y z : Nat) : Value := .agg #[.int .u64 x, .int .u32 y, .int .u32 z]
def pairO (x y z x' y' z' : Int) : Obj := .cells #[.int .u64 x, .int .u32 y, .int .u32 z, .int .u64 x', .int .u32 y', .int .u32 z'] 45
theorem pair_cells {w : World} {b : Nat} {x y z x' y' z' : Int} (h : w.heap[b]? = some (pairO x y z x' y' z')) :
    w.cell? ⟨b, 0, none⟩ = some (.int .u64 x) ∧ w.cell? ⟨b, 1, none⟩ = some (.int .u32 y) ∧ w.cell? ⟨b, 2, none⟩ = some (.int .u32 z) ∧ w.cell? ⟨b, 3, none⟩ = some (.int .u64 x') ∧ w.cell? ⟨b, 4, none⟩ = some (.int .u32 y') ∧ w.cell? ⟨b, 5, none⟩ = some (.int .u32 z') := by
  simp [World.cell?, h, pairO]

theorem dec_is (x y z : Nat) (hx : x < 18446744073709551616) (hy : y < 4294967296) (hz : z < 4294967296) (w : World) (hL : Laid w) :
    Calls Tryd.prog 10 #[.string (encS x y z)] w fun e w' => e = .returned (.tuple #[.agg #[.int .u64 x, .int .u32 y, .int .u32 z], .int .i64 0]) ∧ Below w.heap.size w w' := by
  rw [← dec_enc x y z hx hy hz]
  exact decode_any (encS x y z) w hL
theorem ne_toks {s t : ByteArray} (h : s ≠ t) : (s.toList == t.toList) = false := by
  rw [Go.ByteArray.toList_eq, Go.ByteArray.toList_eq]
  simp only [beq_eq_false_iff_ne, ne_eq]
  intro e
  apply h
  apply ByteArray.ext
  exact Array.ext' e
/-- Two stamps are the same, or differ first in their wall, their logical number or their node; so do their tokens. -/
theorem four (x y z x' y' z' : Nat) (hx : x < 18446744073709551616) (hy : y < 4294967296) (hz : z < 4294967296) (hx' : x' < 18446744073709551616) (hy' : y' < 4294967296) (hz' : z' < 4294967296) : (x = x' ∧ y = y' ∧ z = z') ∨ (¬ (x : Int) = (x' : Int) ∧ ((encS x y z).toList == (encS x' y' z').toList) = false) ∨ (x = x' ∧ ¬ (y : Int) = (y' : Int) ∧ ((encS x y z).toList == (encS x' y' z').toList) = false) ∨
      (x = x' ∧ y = y' ∧ ¬ (z : Int) = (z' : Int) ∧ ((encS x y z).toList == (encS x' y' z').toList) = false) := by
  by_cases h1 : x = x'
  · by_cases h2 : y = y'
    · by_cases h3 : z = z'
      · exact Or.inl ⟨h1, h2, h3⟩
      · exact Or.inr (Or.inr (Or.inr ⟨h1, h2, by omega, ne_toks fun e => h3 (enc_inj hx hy hz hx' hy' hz' e).2.2⟩))
    · exact Or.inr (Or.inr (Or.inl ⟨h1, by omega, ne_toks fun e => h2 (enc_inj hx hy hz hx' hy' hz' e).2.1⟩))
  · exact Or.inr (Or.inl ⟨by omega, ne_toks fun e => h1 (enc_inj hx hy hz hx' hy' hz' e).1⟩)

set_option maxHeartbeats 4000000 in
theorem apart_walk (x y z x' y' z' : Nat) (hx : x < 18446744073709551616) (hy : y < 4294967296) (hz : z < 4294967296) (hx' : x' < 18446744073709551616) (hy' : y' < 4294967296) (hz' : z' < 4294967296)
    (w : World) (hL : Laid w) :
    Calls Tryd.prog 8 #[.agg #[.int .u64 x, .int .u32 y, .int .u32 z, .int .u64 x', .int .u32 y', .int .u32 z']] w fun e w' => e = .returned (.bool true) ∧ Below w.heap.size w w' := by
  have hs1 := heap_alloc_at w (pairO x y z x' y' z')
  have hb1 : Below w.heap.size w (w.alloc (pairO x y z x' y' z')) := (Below.refl _ w).alloc (Nat.le_refl _) _
  go_enter Tryd.func8, Tryd.ntmps8
  go_wp2_with fail
  change Calls Tryd.prog 9 _ (w.alloc (pairO x y z x' y' z')) _
  generalize w.alloc (pairO x y z x' y' z') = w1 at *
  refine (encode_any x y z w1 (hL.below hb1) hy hz).mono ?_
  rintro e w2 ⟨rfl, hb2⟩
  have HS := Lib.hid (below_heap hb2 hs1 (lt_of_heap hs1))
  have HB := Lib.hid (p := Below w.heap.size w w2) (hb1.trans (hb2.mono hb1.size))
  clear hb1 hb2 hs1
  have hs := HS.out
  obtain ⟨c0, c1, c2, c3, c4, c5⟩ := pair_cells hs
  clear hs
  go_wp2_with fail
  refine (encode_any x' y' z' w2 (hL.below HB.out) hy' hz').mono ?_
  rintro e w3 ⟨rfl, hb3⟩
  have HS := Lib.hid (below_heap hb3 HS.out (lt_of_heap HS.out))
  have HB := Lib.hid (p := Below w.heap.size w w3) (HB.out.trans (hb3.mono HB.out.size))
  clear hb3 c0 c1 c2 c3 c4 c5
  have hs := HS.out
  obtain ⟨c0, c1, c2, c3, c4, c5⟩ := pair_cells hs
  clear hs
  have n1 := encS_size x y z
  have n2 := encS_size x' y' z'
  have K := four x y z x' y' z' hx hy hz hx' hy' hz'
  have D1 := dec_is x y z hx hy hz
  have D2 := dec_is x' y' z' hx' hy' hz'
  rcases K with ⟨h1, h2, h3⟩ | ⟨h1, h⟩ | ⟨h1, h2, h⟩ | ⟨h1, h2, h3, h⟩
  · subst h1 h2 h3
    go_wp2_with fail
    refine (D1 w3 (hL.below HB.out)).mono ?_
    rintro e w4 ⟨rfl, hb4⟩
    have HS := Lib.hid (below_heap hb4 HS.out (lt_of_heap HS.out))
    have HB := Lib.hid (p := Below w.heap.size w w4) (HB.out.trans (hb4.mono HB.out.size))
    clear hb4 c0 c1 c2 c3 c4 c5 D1
    go_wp2_with fail
    have HT := Lib.hid (heap_alloc_at w4 (stO x y z))
    have HS := Lib.hid (heap_alloc_old HS.out (stO x y z))
    have HB := Lib.hid (HB.out.alloc HB.out.size (stO x y z))
    change Calls Tryd.prog 10 _ (w4.alloc (stO x y z)) _
    generalize w4.heap.size = B4 at *
    generalize w4.alloc (stO x y z) = w5 at *
    refine (D2 w5 (hL.below HB.out)).mono ?_
    rintro e w6 ⟨rfl, hb6⟩
    have HS := Lib.hid (below_heap hb6 HS.out (lt_of_heap HS.out))
    have HT := Lib.hid (below_heap hb6 HT.out (lt_of_heap HT.out))
    have HB := Lib.hid (p := Below w.heap.size w w6) (HB.out.trans (hb6.mono HB.out.size))
    clear hb6 D2
    clear n1 n2 hx hy hz hx' hy' hz'
    have h7 := heap_alloc_old HT.out (stO x y z)
    have h8 := heap_alloc_at w6 (stO x y z)
    have h9 := heap_alloc_old HS.out (stO x y z)
    have HB := Lib.hid (HB.out.alloc HB.out.size (stO x y z))
    obtain ⟨c0, c1, c2, c3, c4, c5⟩ := pair_cells h9
    obtain ⟨d0, d1, d2⟩ := st_cells h7
    obtain ⟨e0, e1, e2⟩ := st_cells h8
    clear h7 h8 h9
    unfold stO at c0 c1 c2 c3 c4 c5 d0 d1 d2 e0 e1 e2
    go_wp2_with fail
    go_ret
    exact ⟨rfl, HB.out⟩
  · skip
    go_wp2_with fail
    refine (D1 w3 (hL.below HB.out)).mono ?_
    rintro e w4 ⟨rfl, hb4⟩
    have HS := Lib.hid (below_heap hb4 HS.out (lt_of_heap HS.out))
    have HB := Lib.hid (p := Below w.heap.size w w4) (HB.out.trans (hb4.mono HB.out.size))
    clear hb4 c0 c1 c2 c3 c4 c5 D1
    go_wp2_with fail
    have HT := Lib.hid (heap_alloc_at w4 (stO x y z))
    have HS := Lib.hid (heap_alloc_old HS.out (stO x y z))
    have HB := Lib.hid (HB.out.alloc HB.out.size (stO x y z))
    change Calls Tryd.prog 10 _ (w4.alloc (stO x y z)) _
    generalize w4.heap.size = B4 at *
    generalize w4.alloc (stO x y z) = w5 at *
    refine (D2 w5 (hL.below HB.out)).mono ?_
    rintro e w6 ⟨rfl, hb6⟩
    have HS := Lib.hid (below_heap hb6 HS.out (lt_of_heap HS.out))
    have HT := Lib.hid (below_heap hb6 HT.out (lt_of_heap HT.out))
    have HB := Lib.hid (p := Below w.heap.size w w6) (HB.out.trans (hb6.mono HB.out.size))
    clear hb6 D2
    clear n1 n2 hx hy hz hx' hy' hz' h1 h
    have h7 := heap_alloc_old HT.out (stO x' y' z')
    have h8 := heap_alloc_at w6 (stO x' y' z')
    have h9 := heap_alloc_old HS.out (stO x' y' z')
    have HB := Lib.hid (HB.out.alloc HB.out.size (stO x' y' z'))
    obtain ⟨c0, c1, c2, c3, c4, c5⟩ := pair_cells h9
    obtain ⟨d0, d1, d2⟩ := st_cells h7
    obtain ⟨e0, e1, e2⟩ := st_cells h8
    clear h7 h8 h9
    unfold stO at c0 c1 c2 c3 c4 c5 d0 d1 d2 e0 e1 e2
    go_wp2_with fail
    go_ret
    exact ⟨rfl, HB.out⟩
  · subst h1
    go_wp2_with fail
    refine (D1 w3 (hL.below HB.out)).mono ?_
    rintro e w4 ⟨rfl, hb4⟩
    have HS := Lib.hid (below_heap hb4 HS.out (lt_of_heap HS.out))
    have HB := Lib.hid (p := Below w.heap.size w w4) (HB.out.trans (hb4.mono HB.out.size))
    clear hb4 c0 c1 c2 c3 c4 c5 D1
    go_wp2_with fail
    have HT := Lib.hid (heap_alloc_at w4 (stO x y z))
    have HS := Lib.hid (heap_alloc_old HS.out (stO x y z))
    have HB := Lib.hid (HB.out.alloc HB.out.size (stO x y z))
    change Calls Tryd.prog 10 _ (w4.alloc (stO x y z)) _
    generalize w4.heap.size = B4 at *
    generalize w4.alloc (stO x y z) = w5 at *
    refine (D2 w5 (hL.below HB.out)).mono ?_
    rintro e w6 ⟨rfl, hb6⟩
    have HS := Lib.hid (below_heap hb6 HS.out (lt_of_heap HS.out))
    have HT := Lib.hid (below_heap hb6 HT.out (lt_of_heap HT.out))
    have HB := Lib.hid (p := Below w.heap.size w w6) (HB.out.trans (hb6.mono HB.out.size))
    clear hb6 D2
    clear n1 n2 hx hy hz hx' hy' hz' h2 h
    have h7 := heap_alloc_old HT.out (stO x y' z')
    have h8 := heap_alloc_at w6 (stO x y' z')
    have h9 := heap_alloc_old HS.out (stO x y' z')
    have HB := Lib.hid (HB.out.alloc HB.out.size (stO x y' z'))
    obtain ⟨c0, c1, c2, c3, c4, c5⟩ := pair_cells h9
    obtain ⟨d0, d1, d2⟩ := st_cells h7
    obtain ⟨e0, e1, e2⟩ := st_cells h8
    clear h7 h8 h9
    unfold stO at c0 c1 c2 c3 c4 c5 d0 d1 d2 e0 e1 e2
    go_wp2_with fail
    go_ret
    exact ⟨rfl, HB.out⟩
  · subst h1 h2
    go_wp2_with fail
    refine (D1 w3 (hL.below HB.out)).mono ?_
    rintro e w4 ⟨rfl, hb4⟩
    have HS := Lib.hid (below_heap hb4 HS.out (lt_of_heap HS.out))
    have HB := Lib.hid (p := Below w.heap.size w w4) (HB.out.trans (hb4.mono HB.out.size))
    clear hb4 c0 c1 c2 c3 c4 c5 D1
    go_wp2_with fail
    have HT := Lib.hid (heap_alloc_at w4 (stO x y z))
    have HS := Lib.hid (heap_alloc_old HS.out (stO x y z))
    have HB := Lib.hid (HB.out.alloc HB.out.size (stO x y z))
    change Calls Tryd.prog 10 _ (w4.alloc (stO x y z)) _
    generalize w4.heap.size = B4 at *
    generalize w4.alloc (stO x y z) = w5 at *
    refine (D2 w5 (hL.below HB.out)).mono ?_
    rintro e w6 ⟨rfl, hb6⟩
    have HS := Lib.hid (below_heap hb6 HS.out (lt_of_heap HS.out))
    have HT := Lib.hid (below_heap hb6 HT.out (lt_of_heap HT.out))
    have HB := Lib.hid (p := Below w.heap.size w w6) (HB.out.trans (hb6.mono HB.out.size))
    clear hb6 D2
    clear n1 n2 hx hy hz hx' hy' hz' h3 h
    have h7 := heap_alloc_old HT.out (stO x y z')
    have h8 := heap_alloc_at w6 (stO x y z')
    have h9 := heap_alloc_old HS.out (stO x y z')
    have HB := Lib.hid (HB.out.alloc HB.out.size (stO x y z'))
    obtain ⟨c0, c1, c2, c3, c4, c5⟩ := pair_cells h9
    obtain ⟨d0, d1, d2⟩ := st_cells h7
    obtain ⟨e0, e1, e2⟩ := st_cells h8
    clear h7 h8 h9
    unfold stO at c0 c1 c2 c3 c4 c5 d0 d1 d2 e0 e1 e2
    go_wp2_with fail
    go_ret
    exact ⟨rfl, HB.out⟩
end Go.Proofs.YtdpgfjdndohcdaaDoor
