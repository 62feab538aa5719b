/- What token.sum and token.value answer. -/
import Derived.Test.YtdpgfjdndohcdaaDoorCrc
import Derived.Laws.IdiomStrings
namespace Go.Proofs.YtdpgfjdndohcdaaDoor
open Go.RowKit

/-- The sum's number. -/
def crcN (l : List UInt8) : Nat := crcL 4294967295 l ^^^ 4294967295
theorem crcN_lt (l : List UInt8) : crcN l < 4294967296 := xor_lt32 (crcL_lt l (by decide)) (by decide)
/-- Its four bytes, the highest first. -/
def sumL (l : List UInt8) : List UInt8 := [UInt8.ofNat (crcN l / 16777216), UInt8.ofNat (crcN l / 65536), UInt8.ofNat (crcN l / 256), UInt8.ofNat (crcN l)]

set_option maxHeartbeats 2000000 in
/-- token.sum -/
theorem sum_any (s : ByteArray) (w : World) (hL : Laid w) (hs : s.size ≤ 1000) :
    Calls Tryd.prog 18 #[.string s] w fun e w' => e = .returned (.string ⟨(sumL s.data.toList).toArray⟩) ∧ Below w.heap.size w w' := by
  go_enter Tryd.func18, Tryd.ntmps18
  go_wp2_with (go_at_call 31; refine (crc_any s w hL hs).mono ?_)
  rintro e w1 ⟨rfl, rfl⟩
  have hv := crcN_lt s.data.toList
  change crcL 4294967295 s.data.toList ^^^ 4294967295 < _ at hv
  obtain ⟨v, hv'⟩ : ∃ v, Hid (v = crcN s.data.toList) := ⟨_, Lib.hid rfl⟩
  rw [show (crcL 4294967295 s.data.toList ^^^ 4294967295 : Nat) = v from hv'.out.symm] at hv ⊢
  go_wp2_with fail
  have hconv := run_convert_bytes_back (P := Tryd.prog) (w1.alloc (Obj.cells #[Value.int IntKind.u8 ((v : Int) / 16777216), Value.int IntKind.u8 ((v : Int) / 65536 % 256), Value.int IntKind.u8 ((v : Int) / 256 % 256), Value.int IntKind.u8 ((v : Int) % 256)] 5))
    32 9 5 ⟨w1.heap.size, 0, none⟩ 4 (sumL s.data.toList) Tryd.underlying32 Tryd.underlying5 Tryd.underlying9 (fun j hj => by
      have h16 : v / 16777216 % 256 = v / 16777216 := Nat.mod_eq_of_lt (by omega)
      match j, hj with
      | 0, _ => rw [show (Addr.add ⟨w1.heap.size, 0, none⟩ 0) = ⟨w1.heap.size, 0, none⟩ from rfl, Lib.cell_of_heap (heap_alloc_at _ _)]; simp [sumL, ← hv'.out, h16]
      | 1, _ => rw [show (Addr.add ⟨w1.heap.size, 0, none⟩ 1) = ⟨w1.heap.size, 1, none⟩ from rfl, Lib.cell_of_heap (heap_alloc_at _ _)]; simp [sumL, ← hv'.out]
      | 2, _ => rw [show (Addr.add ⟨w1.heap.size, 0, none⟩ 2) = ⟨w1.heap.size, 2, none⟩ from rfl, Lib.cell_of_heap (heap_alloc_at _ _)]; simp [sumL, ← hv'.out]
      | 3, _ => rw [show (Addr.add ⟨w1.heap.size, 0, none⟩ 3) = ⟨w1.heap.size, 3, none⟩ from rfl, Lib.cell_of_heap (heap_alloc_at _ _)]; simp [sumL, ← hv'.out])
  rw [show (sumL s.data.toList).length = 4 from rfl] at hconv
  rw [hconv]
  simp only [Result.andThen]
  rw [Oper.upon_value]
  clear hconv
  go_wp2_with fail
  go_ret
  exact ⟨rfl, (Below.refl _ _).alloc (Nat.le_refl _) _⟩

/-- The number of a digit, if it is one. -/
def val (c : Int) : Option Nat := if 48 ≤ c ∧ c ≤ 57 then some (c - 48).toNat else if 97 ≤ c ∧ c ≤ 102 then some (c - 87).toNat else none

theorem run_idx55 (cs : Array Value) (k : Nat) (v : Value) (w : World) (hk : k < 16) (h : cs[k]? = some v) : (Instr.index 55 (.agg cs) (.int .i64 (k : Int))).run Tryd.prog w = .ok v w := by
  simp [Instr.index, run_underlying Tryd.underlying55, asIntOf, h, go_sem]
  omega

/-- The table as a value. -/
def digA : Array Value := #[.int .u8 48, .int .u8 49, .int .u8 50, .int .u8 51, .int .u8 52, .int .u8 53, .int .u8 54, .int .u8 55, .int .u8 56, .int .u8 57, .int .u8 97, .int .u8 98, .int .u8 99, .int .u8 100, .int .u8 101, .int .u8 102]
theorem digA_at (k : Nat) (h : k < 16) : digA[k]? = some (.int .u8 ((dg k).toNat : Nat)) := by
  obtain rfl | rfl | rfl | rfl | rfl | rfl | rfl | rfl | rfl | rfl | rfl | rfl | rfl | rfl | rfl | rfl : k = 0 ∨ k = 1 ∨ k = 2 ∨ k = 3 ∨ k = 4 ∨ k = 5 ∨ k = 6 ∨ k = 7 ∨ k = 8 ∨ k = 9 ∨ k = 10 ∨ k = 11 ∨ k = 12 ∨ k = 13 ∨ k = 14 ∨ k = 15 := by omega
  all_goals rfl
theorem dg_lt (k : Nat) (h : k < 16) : 48 ≤ (dg k).toNat ∧ (dg k).toNat ≤ 102 := by
  have : ∀ i : Fin 16, 48 ≤ (dg i.val).toNat ∧ (dg i.val).toNat ≤ 102 := by decide
  exact this ⟨k, h⟩
theorem val_dg (k : Nat) (h : k < 16) : val (dg k).toNat = some k := by
  have : ∀ i : Fin 16, val (dg i.val).toNat = some i.val := by decide
  exact this ⟨k, h⟩
theorem val_none (c : Int) (h : ∀ j, j < 16 → c ≠ (dg j).toNat) : val c = none := by
  unfold val
  have e (j : Nat) (n : Int) (hj : j < 16) (hn : ((dg j).toNat : Int) = n) : c ≠ n := hn ▸ h j hj
  have h0 := e 0 48 (by decide) rfl
  have h1 := e 1 49 (by decide) rfl
  have h2 := e 2 50 (by decide) rfl
  have h3 := e 3 51 (by decide) rfl
  have h4 := e 4 52 (by decide) rfl
  have h5 := e 5 53 (by decide) rfl
  have h6 := e 6 54 (by decide) rfl
  have h7 := e 7 55 (by decide) rfl
  have h8 := e 8 56 (by decide) rfl
  have h9 := e 9 57 (by decide) rfl
  have h10 := e 10 97 (by decide) rfl
  have h11 := e 11 98 (by decide) rfl
  have h12 := e 12 99 (by decide) rfl
  have h13 := e 13 100 (by decide) rfl
  have h14 := e 14 101 (by decide) rfl
  have h15 := e 15 102 (by decide) rfl
  rw [if_neg (by omega), if_neg (by omega)]
/-- What token.value hands back. -/
def valV : Option Nat → Value
  | some v => .tuple #[.int .u8 v, .bool true]
  | none => .tuple #[.int .u8 0, .bool false]

set_option maxHeartbeats 2000000 in
/-- token.value -/
theorem value_any (c : Int) (w : World) (hL : Laid w) :
    Calls Tryd.prog 32 #[.int .i32 c] w fun e w' => e = .returned (valV (val c)) ∧ w' = w := by
  go_enter Tryd.func32, Tryd.ntmps32
  have c0 : w.cell? ⟨0, 0, none⟩ = some (.int .u8 48) := hL.1 0 (by decide)
  have c1 : w.cell? ⟨0, 1, none⟩ = some (.int .u8 49) := hL.1 1 (by decide)
  have c2 : w.cell? ⟨0, 2, none⟩ = some (.int .u8 50) := hL.1 2 (by decide)
  have c3 : w.cell? ⟨0, 3, none⟩ = some (.int .u8 51) := hL.1 3 (by decide)
  have c4 : w.cell? ⟨0, 4, none⟩ = some (.int .u8 52) := hL.1 4 (by decide)
  have c5 : w.cell? ⟨0, 5, none⟩ = some (.int .u8 53) := hL.1 5 (by decide)
  have c6 : w.cell? ⟨0, 6, none⟩ = some (.int .u8 54) := hL.1 6 (by decide)
  have c7 : w.cell? ⟨0, 7, none⟩ = some (.int .u8 55) := hL.1 7 (by decide)
  have c8 : w.cell? ⟨0, 8, none⟩ = some (.int .u8 56) := hL.1 8 (by decide)
  have c9 : w.cell? ⟨0, 9, none⟩ = some (.int .u8 57) := hL.1 9 (by decide)
  have c10 : w.cell? ⟨0, 10, none⟩ = some (.int .u8 97) := hL.1 10 (by decide)
  have c11 : w.cell? ⟨0, 11, none⟩ = some (.int .u8 98) := hL.1 11 (by decide)
  have c12 : w.cell? ⟨0, 12, none⟩ = some (.int .u8 99) := hL.1 12 (by decide)
  have c13 : w.cell? ⟨0, 13, none⟩ = some (.int .u8 100) := hL.1 13 (by decide)
  have c14 : w.cell? ⟨0, 14, none⟩ = some (.int .u8 101) := hL.1 14 (by decide)
  have c15 : w.cell? ⟨0, 15, none⟩ = some (.int .u8 102) := hL.1 15 (by decide)
  go_wp2_with fail
  clear c0 c1 c2 c3 c4 c5 c6 c7 c8 c9 c10 c11 c12 c13 c14 c15
  go_loopw [7] (fun i wr => ∃ k : Nat, i = .int .i64 k ∧ k ≤ 16 ∧ wr = w ∧ ∀ j, j < k → c ≠ (dg j).toNat) (fun i _ => 16 - (Lib.intOf i).toNat)
  case atStart => exact ⟨0, rfl, Nat.zero_le _, rfl, fun j hj => absurd hj (Nat.not_lt_zero _)⟩
  case round =>
    obtain ⟨k, rfl, hk, rfl, hno⟩ := hrel
    have hno' := Lib.hid hno
    clear hno
    by_cases hlt : k < 16
    · have hx := run_idx55 digA k _ wr hlt (digA_at k hlt)
      unfold digA at hx
      have hd := dg_lt k hlt
      have hw : wrap32 ((dg k).toNat : Int) = ((dg k).toNat : Int) := by unfold wrap32; omega
      by_cases hc : c = ((dg k).toNat : Int)
      · have ht : (((dg k).toNat : Int) == c) = true := by simp [hc]
        have hval := Lib.hid (hc ▸ val_dg k hlt)
        clear hc
        go_wp2_with fail
        go_ret2
        exact ⟨by rw [hval.out]; rfl, rfl⟩
      · have ht : (((dg k).toNat : Int) == c) = false := by simp; exact fun h => hc h.symm
        have hno2 := Lib.hid (p := ∀ j, j < k + 1 → c ≠ (dg j).toNat) (fun j hj => by
          by_cases hjk : j = k
          · rw [hjk]; exact hc
          · exact hno'.out j (by omega))
        clear hno' hc
        go_wp2_with fail
        go_roundw
        case rel => exact ⟨k + 1, by go_num, by omega, trivial, hno2.out⟩
        case measure => simp [Lib.intOf]; omega
    · have hval := Lib.hid (val_none c (fun j hj => hno'.out j (by omega)))
      clear hno'
      go_wp2_with fail
      go_ret2
      exact ⟨by rw [hval.out]; rfl, rfl⟩
end Go.Proofs.YtdpgfjdndohcdaaDoor
