/- What packed.lift answers, and how an array of bytes is read. -/
import Derived.Test.YtdpgfjdndohcdaaDoorPack
import Derived.Lib.BufferWrite
import Derived.Laws.Bits64b
namespace Go.Proofs.YtdpgfjdndohcdaaDoor
open Go.RowKit

theorem sl56 (b a n : Nat) (ha : a + n ≤ 16) (hn : 0 < n) (w : World) :
    (Instr.sliceAt 56 (.pointer (some ⟨b, 0, none⟩)) (some (.int .i64 (a : Int))) (some (.int .i64 ((a : Int) + (n : Int)))) none).run Tryd.prog w = .ok (.slice (some ⟨b, a, none⟩) n (16 - a)) w := by
  have e : Tryd.prog.arrayLen 56 = 16 := by kernel_rfl
  have e5 : Tryd.prog.elem 56 = 5 := by kernel_rfl
  rw [run_sliceAt_array_lh w 56 ⟨b, 0, none⟩ (by kernel_rfl) .i64 .i64 (a : Int) ((a : Int) + (n : Int)) (by omega) (by omega) (by rw [e]; omega), e5, Tryd.sizeOf5]
  simp only [Result.andThen, slicedAt, e]
  rw [if_neg (by omega), show ((a : Int) + (n : Int)).toNat = a + n by omega]
  simp [Addr.add]
  omega

/-- The number of k bytes from a on, the highest first. -/
def liftN (f : Nat → Nat) (a : Nat) : Nat → Nat
  | 0 => 0
  | k + 1 => liftN f a k * 256 + f (a + k)
theorem liftN_lt (f : Nat → Nat) (hf : ∀ j, f j < 256) (a : Nat) : ∀ k, liftN f a k < 256 ^ k
  | 0 => Nat.one_pos
  | k + 1 => by
    have := liftN_lt f hf a k
    have h := hf (a + k)
    rw [liftN, Nat.pow_succ]
    omega

theorem or_low (x y : Nat) (hx : x < 72057594037927936) (hy : y < 256) : bits .or .u64 ((x : Int) * 256) (y : Int) = ((x * 256 + y : Nat) : Int) := by
  have h := bits_or_u64_nat (x * 256) y (by omega) (by omega)
  rw [show x * 256 ||| y = x * 256 + y by rw [Nat.mul_comm, ← Nat.two_pow_add_eq_or_of_lt (i := 8) hy x]] at h
  simpa using h

set_option maxHeartbeats 2000000 in
/-- packed.lift -/
theorem lift_any (f : Nat → Nat) (hf : ∀ j, f j < 256) (a n : Nat) (w : World) (ha : a + n ≤ 16) (hn : 0 < n) (hn8 : n ≤ 8) :
    Calls Tryd.prog 33 #[.agg (arr f), .int .i64 a, .int .i64 n] w fun e w' => e = .returned (.int .u64 (liftN f a n : Nat)) ∧ Below w.heap.size w w' := by
  have hsl := sl56 w.heap.size a n ha hn
  go_enter Tryd.func33, Tryd.ntmps33
  go_wp2_with fail
  clear hsl
  have h0 : (w.alloc (.cells (arr f) 56)).heap[w.heap.size]? = some (.cells (arr f) 56 (0, 0)) := heap_alloc_at w _
  have hb0 : Below w.heap.size w (w.alloc (.cells (arr f) 56)) := (Below.refl _ w).alloc (Nat.le_refl _) _
  generalize w.alloc (.cells (arr f) 56) = w1 at *
  go_loopw [7, 16] (fun x i wr => ∃ k u : Nat, k ≤ n ∧ i = .int .i64 k ∧ x = .int .u64 u ∧ Hid (u = liftN f a k) ∧ wr = w1) (fun _ i _ => n - (Lib.intOf i).toNat)
  case atStart => exact ⟨0, 0, Nat.zero_le _, rfl, rfl, Lib.hid rfl, rfl⟩
  case round =>
    obtain ⟨k, u, hk, rfl, rfl, hu, rfl⟩ := hrel
    by_cases hlt : k < n
    · have cl : wr.cell? ⟨w.heap.size, a + k, none⟩ = some (.int .u8 (f (a + k) : Nat)) := by rw [Lib.cell_of_heap h0]; exact arr_at _ _ (by omega)
      have hu' : u < 72057594037927936 := by
        have h1 := liftN_lt f hf a k
        have h2 : 256 ^ k ≤ 256 ^ 7 := Nat.pow_le_pow_right (by decide) (by omega)
        rw [hu.out]
        exact Nat.lt_of_lt_of_le h1 h2
      have hor := or_low u (f (a + k)) hu' (hf _)
      have hf' := hf (a + k)
      go_wp2_with fail
      go_roundw
      case rel => exact ⟨k + 1, u * 256 + f (a + k), by omega, by go_num, by go_num, Lib.hid (by rw [liftN, ← hu.out]), trivial⟩
      case measure => simp [Lib.intOf]; omega
    · obtain rfl : k = n := by omega
      go_wp2_with fail
      go_ret
      exact ⟨by rw [hu.out]; rfl, hb0⟩

/-- The bytes of a text. -/
def bF (s : ByteArray) (j : Nat) : Nat := (s.data.toList.getD j 0).toNat
theorem bF_lt (s : ByteArray) (j : Nat) : bF s j < 256 := UInt8.toNat_lt _

theorem setRow_grown (w : World) (g : Nat) (cs : Array Value) : w.grownBy (w.setRow g cs) (some g) :=
  ⟨rfl, rfl, rfl, by simp [World.setRow], fun i _ hne => by
    have h : g ≠ i := fun e => hne (by rw [e])
    simp [World.setRow, Array.getElem?_modify, h]⟩
theorem row_arr (s : ByteArray) (hs : s.size = 16) (f : Nat → Nat) : ((arr f).toList.take 0 ++ Lib.byteCells s.data.toList ++ (arr f).toList.drop (0 + s.size)).toArray = arr (bF s) := by
  apply Array.ext
  · simp [arr, Lib.byteCells_length, hs]
  · intro i h1 h2
    have hi : i < 16 := by simpa [arr] using h2
    simp [arr, Lib.byteCells, hs, bF, hi]
theorem arr_eq (f : Nat → Nat) : arr f = #[.int .u8 (f 0 : Nat), .int .u8 (f 1 : Nat), .int .u8 (f 2 : Nat), .int .u8 (f 3 : Nat), .int .u8 (f 4 : Nat), .int .u8 (f 5 : Nat), .int .u8 (f 6 : Nat), .int .u8 (f 7 : Nat), .int .u8 (f 8 : Nat), .int .u8 (f 9 : Nat), .int .u8 (f 10 : Nat), .int .u8 (f 11 : Nat), .int .u8 (f 12 : Nat), .int .u8 (f 13 : Nat), .int .u8 (f 14 : Nat), .int .u8 (f 15 : Nat)] := by kernel_rfl
theorem load_arr {w : World} {b : Nat} {f : Nat → Nat} (h : w.heap[b]? = some (.cells (arr f) 56 (0, 0))) :
    (loadVar 56 ⟨b, 0, none⟩).run Tryd.prog w = .ok (.agg (arr f)) w := by
  have hc : ∀ j, j < 16 → w.cell? ⟨b, j, none⟩ = some (.int .u8 (f j : Nat)) := fun j hj => by rw [Lib.cell_of_heap h]; exact arr_at f j hj
  have e : arr f = #[.int .u8 (f 0 : Nat), .int .u8 (f 1 : Nat), .int .u8 (f 2 : Nat), .int .u8 (f 3 : Nat), .int .u8 (f 4 : Nat), .int .u8 (f 5 : Nat), .int .u8 (f 6 : Nat), .int .u8 (f 7 : Nat), .int .u8 (f 8 : Nat), .int .u8 (f 9 : Nat), .int .u8 (f 10 : Nat), .int .u8 (f 11 : Nat), .int .u8 (f 12 : Nat), .int .u8 (f 13 : Nat), .int .u8 (f 14 : Nat), .int .u8 (f 15 : Nat)] := by kernel_rfl
  rw [e]
  simp [loadVar, go_sem, hc 0, hc 1, hc 2, hc 3, hc 4, hc 5, hc 6, hc 7, hc 8, hc 9, hc 10, hc 11, hc 12, hc 13, hc 14, hc 15]

theorem arr_cells {w : World} {b : Nat} {f : Nat → Nat} (h : w.heap[b]? = some (.cells (arr f) 56 (0, 0))) :
    w.cell? ⟨b, 0, none⟩ = some (.int .u8 (f 0 : Nat)) ∧ w.cell? ⟨b, 1, none⟩ = some (.int .u8 (f 1 : Nat)) ∧ w.cell? ⟨b, 2, none⟩ = some (.int .u8 (f 2 : Nat)) ∧ w.cell? ⟨b, 3, none⟩ = some (.int .u8 (f 3 : Nat)) ∧ w.cell? ⟨b, 4, none⟩ = some (.int .u8 (f 4 : Nat)) ∧ w.cell? ⟨b, 5, none⟩ = some (.int .u8 (f 5 : Nat)) ∧ w.cell? ⟨b, 6, none⟩ = some (.int .u8 (f 6 : Nat)) ∧ w.cell? ⟨b, 7, none⟩ = some (.int .u8 (f 7 : Nat)) ∧ w.cell? ⟨b, 8, none⟩ = some (.int .u8 (f 8 : Nat)) ∧ w.cell? ⟨b, 9, none⟩ = some (.int .u8 (f 9 : Nat)) ∧ w.cell? ⟨b, 10, none⟩ = some (.int .u8 (f 10 : Nat)) ∧ w.cell? ⟨b, 11, none⟩ = some (.int .u8 (f 11 : Nat)) ∧ w.cell? ⟨b, 12, none⟩ = some (.int .u8 (f 12 : Nat)) ∧ w.cell? ⟨b, 13, none⟩ = some (.int .u8 (f 13 : Nat)) ∧ w.cell? ⟨b, 14, none⟩ = some (.int .u8 (f 14 : Nat)) ∧ w.cell? ⟨b, 15, none⟩ = some (.int .u8 (f 15 : Nat)) := by
  have hc : ∀ j, j < 16 → w.cell? ⟨b, j, none⟩ = some (.int .u8 (f j : Nat)) := fun j hj => by rw [Lib.cell_of_heap h]; exact arr_at f j hj
  exact ⟨hc 0 (by decide), hc 1 (by decide), hc 2 (by decide), hc 3 (by decide), hc 4 (by decide), hc 5 (by decide), hc 6 (by decide), hc 7 (by decide), hc 8 (by decide), hc 9 (by decide), hc 10 (by decide), hc 11 (by decide), hc 12 (by decide), hc 13 (by decide), hc 14 (by decide), hc 15 (by decide)⟩
theorem loadAt_arr {w : World} {b : Nat} {f : Nat → Nat} (h : w.heap[b]? = some (.cells (arr f) 56 (0, 0))) :
    (Instr.loadAt 56 (.pointer (some ⟨b, 0, none⟩))).run Tryd.prog w = .ok (.agg (arr f)) w := by
  simp only [Instr.loadAt, Instr.sureAddr, Sem.run_bind, Sem.run_pure, Result.andThen_ok, load_arr h]
theorem lift0 (f : Nat → Nat) (hf : ∀ j, f j < 256) (w : World) :
    Calls Tryd.prog 33 #[.agg (arr f), .int .i64 0, .int .i64 8] w fun e w' => e = .returned (.int .u64 (liftN f 0 8 : Nat)) ∧ Below w.heap.size w w' := by
  exact lift_any f hf 0 8 w (by decide) (by decide) (by decide)
theorem lift8 (f : Nat → Nat) (hf : ∀ j, f j < 256) (w : World) :
    Calls Tryd.prog 33 #[.agg (arr f), .int .i64 8, .int .i64 4] w fun e w' => e = .returned (.int .u64 (liftN f 8 4 : Nat)) ∧ Below w.heap.size w w' := by
  exact lift_any f hf 8 4 w (by decide) (by decide) (by decide)
theorem lift12 (f : Nat → Nat) (hf : ∀ j, f j < 256) (w : World) :
    Calls Tryd.prog 33 #[.agg (arr f), .int .i64 12, .int .i64 4] w fun e w' => e = .returned (.int .u64 (liftN f 12 4 : Nat)) ∧ Below w.heap.size w w' := by
  exact lift_any f hf 12 4 w (by decide) (by decide) (by decide)
end Go.Proofs.YtdpgfjdndohcdaaDoor
