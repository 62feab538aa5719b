/- What packed.lay and stamp.Pack answer. -/
import Derived.Test.YtdpgfjdndohcdaaDoorSum
namespace Go.Proofs.YtdpgfjdndohcdaaDoor
open Go.RowKit

/-- Sixteen bytes as cells. -/
def arr (f : Nat → Nat) : Array Value := (Array.range 16).map fun i => .int .u8 (f i : Nat)
/-- Behind k rounds of lay. -/
def layF (a n v k : Nat) (f : Nat → Nat) (j : Nat) : Nat := if a + n ≤ j + k ∧ j < a + n then v / 256 ^ (a + n - 1 - j) % 256 else f j

theorem arr_at (f : Nat → Nat) (i : Nat) (h : i < 16) : (arr f)[i]? = some (.int .u8 (f i : Nat)) := by simp [arr, h]
theorem arr_congr {f g : Nat → Nat} (h : ∀ i, i < 16 → f i = g i) : arr f = arr g := by
  apply Array.ext
  · simp [arr]
  · intro i h1 _
    have : i < 16 := by simpa [arr] using h1
    simp [arr, h i this]
theorem arr_set (f g : Nat → Nat) (i : Nat) (v : Value) (hv : v = .int .u8 (g i : Nat)) (h : ∀ j, j ≠ i → g j = f j) : (arr f).setIfInBounds i v = arr g := by
  apply Array.ext
  · simp [arr]
  · intro j h1 h2
    rw [Array.getElem_setIfInBounds (by simpa [arr] using h2)]
    split
    · rename_i e; subst e; simp [arr, hv]
    · rename_i e; simp [arr, h j (fun k => e k.symm)]
theorem layF_zero (a n v : Nat) (f : Nat → Nat) : layF a n v 0 f = f := by
  funext j
  unfold layF
  rw [if_neg (by omega)]
theorem layF_succ (a n v k : Nat) (f : Nat → Nat) (hk : k < n) : layF a n v (k + 1) f (a + (n - 1 - k)) = v / 256 ^ k % 256 := by
  unfold layF
  rw [if_pos (by omega), show a + n - 1 - (a + (n - 1 - k)) = k by omega]
theorem layF_other (a n v k : Nat) (f : Nat → Nat) (hk : k < n) (j : Nat) (hj : j ≠ a + (n - 1 - k)) : layF a n v (k + 1) f j = layF a n v k f j := by
  unfold layF
  by_cases h : a + n ≤ j + k ∧ j < a + n
  · rw [if_pos h, if_pos (by omega)]
  · rw [if_neg h, if_neg (by omega)]

set_option maxHeartbeats 2000000 in
/-- packed.lay -/
theorem lay_any (b a n v : Nat) (f : Nat → Nat) (w : World) (h : w.heap[b]? = some (.cells (arr f) 56 (0, 0))) (ha : a + n ≤ 16) :
    Calls Tryd.prog 28 #[.pointer (some ⟨b, 0, none⟩), .int .i64 a, .int .i64 n, .int .u64 v] w fun e w' => e = .returned (.tuple #[]) ∧ w.grownBy w' (some b) ∧ w'.heap[b]? = some (.cells (arr (layF a n v n f)) 56 (0, 0)) := by
  go_enter Tryd.func28, Tryd.ntmps28
  go_wp2_with fail
  go_loopw [3, 8] (fun x i wr => ∃ k u : Nat, k ≤ n ∧ i = .int .i64 ((n : Int) - 1 - k) ∧ x = .int .u64 (u : Nat) ∧ Hid (u = v / 256 ^ k) ∧ w.grownBy wr (some b) ∧ wr.heap[b]? = some (.cells (arr (layF a n v k f)) 56 (0, 0))) (fun _ i _ => (Lib.intOf i + 1).toNat)
  case atStart =>
    exact ⟨0, v, Nat.zero_le _, by simp, rfl, Lib.hid (by simp), gb_refl _ _, by rw [layF_zero]; exact h⟩
  case round =>
    obtain ⟨k, u, hk, rfl, rfl, hu, hg, hb⟩ := hrel
    by_cases hlt : k < n
    · have cl : wr.cell? ⟨b, a + (n - 1 - k), none⟩ = some (.int .u8 (layF a n v k f (a + (n - 1 - k)) : Nat)) := by rw [Lib.cell_of_heap hb]; exact arr_at _ _ (by omega)
      have cf : wr.frozen? ⟨b, a + (n - 1 - k), none⟩ = false := Lib.frozen_of_heap hb _
      have hval : Hid (Value.int .u8 ((u : Int) % 256) = .int .u8 (layF a n v (k + 1) f (a + (n - 1 - k)) : Nat)) := Lib.hid (by
        rw [layF_succ a n v k f hlt, ← hu.out]; simp)
      have hu2 : Hid (u / 256 = v / 256 ^ (k + 1)) := Lib.hid (by rw [hu.out, Nat.div_div_eq_div_mul, Nat.pow_succ])
      go_wp2_with fail
      refine ⟨⟨k + 1, u / 256, by omega, by go_num, by go_num, hu2, gb_set hg (Or.inl rfl) _, (heap_set_same hb _ _).trans (by rw [arr_set _ _ _ _ hval.out (layF_other a n v k f hlt)])⟩, ?_⟩
      simp [Lib.intOf]; omega
    · obtain rfl : k = n := by omega
      go_wp2_with fail
      go_end0
      exact ⟨rfl, hg, hb⟩

/-- A stamp's sixteen bytes. -/
def packF (x y z : Nat) : Nat → Nat := layF 12 4 z 4 (layF 8 4 y 4 (layF 0 8 x 8 fun _ => 0))
def packL (x y z : Nat) : List UInt8 := (List.range 16).map fun i => UInt8.ofNat (packF x y z i)

theorem layF_lt (a n v k : Nat) (f : Nat → Nat) (h : ∀ j, f j < 256) (j : Nat) : layF a n v k f j < 256 := by
  unfold layF
  split
  · exact Nat.mod_lt _ (by decide)
  · exact h j
theorem packF_lt (x y z j : Nat) : packF x y z j < 256 := layF_lt _ _ _ _ _ (fun j => layF_lt _ _ _ _ _ (fun j => layF_lt _ _ _ _ _ (fun _ => by decide) j) j) j
theorem below_grown {B b : Nat} {a w w' : World} (h : Below B a w) (k : w.grownBy w' (some b)) (hb : B ≤ b) (hB : B ≤ a.heap.size := by exact Nat.le_refl _) : Below B a w' :=
  h.grown k (Nat.le_trans hB h.size) (fun i hi => by cases hi; exact hb)

set_option maxHeartbeats 2000000 in
/-- stamp.Pack -/
theorem pack_any (x y z : Nat) (w : World) (hy : y < 4294967296) (hz : z < 4294967296) :
    Calls Tryd.prog 16 #[.agg #[.int .u64 x, .int .u32 y, .int .u32 z]] w fun e w' => e = .returned (.string ⟨(packL x y z).toArray⟩) ∧ Below w.heap.size w w' := by
  go_enter Tryd.func16, Tryd.ntmps16
  go_wp2_with fail
  have e0 : (#[.int .u8 0, .int .u8 0, .int .u8 0, .int .u8 0, .int .u8 0, .int .u8 0, .int .u8 0, .int .u8 0, .int .u8 0, .int .u8 0, .int .u8 0, .int .u8 0, .int .u8 0, .int .u8 0, .int .u8 0, .int .u8 0] : Array Value) = arr fun _ => 0 := by kernel_rfl
  rw [e0]
  clear e0
  have hs1 : ((w.alloc (stO x y z)).alloc (.cells (arr fun _ => 0) 56)).heap[w.heap.size]? = some (stO x y z) := heap_alloc_old (heap_alloc_at w _) _
  have ha1 : ((w.alloc (stO x y z)).alloc (.cells (arr fun _ => 0) 56)).heap[w.heap.size + 1]? = some (.cells (arr fun _ => 0) 56 (0, 0)) := by
    have := heap_alloc_at (w.alloc (stO x y z)) (.cells (arr fun _ => 0) 56)
    simpa using this
  have hb1 : Below w.heap.size w ((w.alloc (stO x y z)).alloc (.cells (arr fun _ => 0) 56)) := ((Below.refl _ w).alloc (Nat.le_refl _) _).alloc (by simp) _
  refine (lay_any (w.heap.size + 1) 0 8 x _ _ ha1 (by decide)).mono ?_
  rintro e w1 ⟨rfl, hg1, hb⟩
  have hb2 : Below w.heap.size w w1 := below_grown hb1 hg1 (by omega)
  have hs2 : w1.heap[w.heap.size]? = some (stO x y z) := by rw [hg1.block _ (lt_of_heap hs1) (by simp)]; exact hs1
  clear hs1 ha1 hb1 hg1
  obtain ⟨c0, c1, c2⟩ := st_cells hs2
  go_wp2_with (go_at_call 28; refine (lay_any (w.heap.size + 1) 8 4 y _ _ hb (by decide)).mono ?_)
  rintro e w2 ⟨rfl, hg1, hb'⟩
  clear c0 c1 c2
  have hb3 : Below w.heap.size w w2 := below_grown hb2 hg1 (by omega)
  have hs3 : w2.heap[w.heap.size]? = some (stO x y z) := by rw [hg1.block _ (lt_of_heap hs2) (by simp)]; exact hs2
  clear hs2 hb hb2 hg1
  obtain ⟨c0, c1, c2⟩ := st_cells hs3
  go_wp2_with (go_at_call 28; refine (lay_any (w.heap.size + 1) 12 4 z _ _ hb' (by decide)).mono ?_)
  rintro e w3 ⟨rfl, hg1, hb⟩
  clear c0 c1 c2
  have hb4 : Below w.heap.size w w3 := below_grown hb3 hg1 (by omega)
  clear hs3 hb' hb3 hg1
  have hconv : (convert 32 9 (.slice (some ⟨w.heap.size + 1, 0, none⟩) 16 16)).run Tryd.prog w3 = _ := run_convert_bytes_back (P := Tryd.prog) w3 32 9 5 ⟨w.heap.size + 1, 0, none⟩ 16 (packL x y z) Tryd.underlying32 Tryd.underlying5 Tryd.underlying9 (fun j hj => by
    have hj' : j < 16 := by simpa [packL] using hj
    have hlt := packF_lt x y z j
    rw [show (Addr.add ⟨w.heap.size + 1, 0, none⟩ j) = ⟨w.heap.size + 1, j, none⟩ by simp [Addr.add]; omega, Lib.cell_of_heap hb, arr_at _ _ hj']
    change packF x y z j < 256 at hlt
    change some (Value.int .u8 (packF x y z j : Nat)) = _
    simp [packL]
    omega)
  go_wp2_with fail
  go_ret
  exact ⟨rfl, hb4⟩
end Go.Proofs.YtdpgfjdndohcdaaDoor
