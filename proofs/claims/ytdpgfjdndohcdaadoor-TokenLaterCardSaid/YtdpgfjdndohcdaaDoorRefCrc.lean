/- What the document answers for the sum, bit by bit. -/
import Derived.Test.YtdpgfjdndohcdaaDoorCrc
namespace Go.Proofs.YtdpgfjdndohcdaaDoor
open Go.RowKit

/-- One bit into the register. -/
def bit1 (r v : Nat) : Nat := if (r + v) % 2 = 1 then (r / 2) ^^^ 3988292384 else r / 2
/-- j bits of v. -/
def bitJ (r v : Nat) : Nat → Nat
  | 0 => r
  | j + 1 => bit1 (bitJ r v j) (v / 2 ^ j)
def refL (c : Nat) (l : List UInt8) : Nat := l.foldl (fun c b => bitJ c b.toNat 8) c
theorem bit1_lt {r : Nat} (v : Nat) (h : r < 4294967296) : bit1 r v < 4294967296 := by
  unfold bit1
  split
  · exact xor_lt32 (by omega) (by decide)
  · omega
theorem bitJ_lt {r : Nat} (v : Nat) (h : r < 4294967296) : ∀ j, bitJ r v j < 4294967296
  | 0 => h
  | j + 1 => bit1_lt _ (bitJ_lt v h j)
theorem refL_lt (l : List UInt8) {c : Nat} (h : c < 4294967296) : refL c l < 4294967296 := by
  induction l generalizing c with
  | nil => exact h
  | cons b l ih => exact ih (bitJ_lt _ h 8)
theorem refL_snoc (c : Nat) (l : List UInt8) (b : UInt8) : refL c (l ++ [b]) = bitJ (refL c l) b.toNat 8 := by simp [refL]

set_option maxHeartbeats 2000000 in
/-- tidemarkref4.Crc -/
theorem refcrc_any (s : ByteArray) (w : World) (hs : s.size ≤ 1000) :
    Calls Tryd.prog 24 #[.string s] w fun e w' => e = .returned (.int .u32 (refL 4294967295 s.data.toList ^^^ 4294967295 : Nat)) ∧ w' = w := by
  go_enter Tryd.func24, Tryd.ntmps24
  go_wp2_with fail
  go_loopw [3, 4] (fun x i wr => ∃ k c : Nat, i = .int .i64 k ∧ x = .int .u32 c ∧ Hid (c = refL 4294967295 (s.data.toList.take k)) ∧ k ≤ s.size ∧ wr = w) (fun _ i _ => s.size - (Lib.intOf i).toNat)
  case atStart => exact ⟨0, 4294967295, rfl, rfl, Lib.hid rfl, Nat.zero_le _, rfl⟩
  case round =>
    obtain ⟨k, c, rfl, rfl, hcc, hk, rfl⟩ := hrel
    have hc32 : c < 4294967296 := by rw [hcc.out]; exact refL_lt _ (by decide)
    by_cases hlt : k < s.size
    · have hbyte := s[k].toNat_lt
      go_wp2_with fail
      go_loopw [3, 5, 6] (fun x v i wr' => ∃ j r u : Nat, i = .int .i64 j ∧ x = .int .u32 r ∧ Hid (r = bitJ c s[k].toNat j) ∧ v = .int .u32 u ∧ Hid (u = s[k].toNat / 2 ^ j) ∧ j ≤ 8 ∧ wr' = wr) (fun _ _ i _ => 8 - (Lib.intOf i).toNat)
      case atStart => exact ⟨0, c, s[k].toNat, rfl, rfl, Lib.hid rfl, rfl, Lib.hid (by simp), by decide, rfl⟩
      case round =>
        obtain ⟨j, r, u, rfl, rfl, hr, rfl, hu, hj, rfl⟩ := hrel
        have hr32 : r < 4294967296 := by rw [hr.out]; exact bitJ_lt _ hc32 j
        have hu8 : u < 256 := by rw [hu.out]; exact Nat.lt_of_le_of_lt (Nat.div_le_self _ _) s[k].toNat_lt
        by_cases hlj : j < 8
        · have hu2 : Hid (u / 2 = s[k].toNat / 2 ^ (j + 1)) := Lib.hid (by rw [hu.out, Nat.div_div_eq_div_mul, Nat.pow_succ])
          have ebit := Lib.hid (p := bitJ c s[k].toNat (j + 1) = bit1 r u) (by rw [bitJ, ← hr.out, ← hu.out])
          have ex : bits .xor .u32 ((r : Int) / 2) 3988292384 = (((r / 2) ^^^ 3988292384 : Nat) : Int) := by
            have h := bx (a := r / 2) (b := 3988292384) (by omega) (by decide)
            simpa using h
          by_cases ho : (r + u) % 2 = 1
          · have hb1 := Lib.hid (p := r / 2 ^^^ 3988292384 = bit1 r u) (by rw [bit1, if_pos ho])
            go_wp2_with fail
            exact ⟨⟨j + 1, r / 2 ^^^ 3988292384, u / 2, by go_num, rfl, Lib.hid (hb1.out.trans ebit.out.symm), by go_num, hu2, by omega, trivial⟩, by simp [Lib.intOf]; omega⟩
          · have hb1 := Lib.hid (p := r / 2 = bit1 r u) (by rw [bit1, if_neg ho])
            go_wp2_with fail
            exact ⟨⟨j + 1, r / 2, u / 2, by go_num, by go_num, Lib.hid (hb1.out.trans ebit.out.symm), by go_num, hu2, by omega, trivial⟩, by simp [Lib.intOf]; omega⟩
        · obtain rfl : j = 8 := by omega
          go_wp2_with fail
          exact ⟨⟨k + 1, r, by go_num, rfl, Lib.hid (by rw [take_snoc s k hlt, refL_snoc, ← hcc.out, hr.out]), by omega, trivial⟩, by simp [Lib.intOf]; omega⟩
    · replace hcc := Lib.hid (hcc.out.trans (by rw [take_all s k (by omega)]))
      have e1 : Hid (bits .xor .u32 (c : Int) 4294967295 = ((c ^^^ 4294967295 : Nat) : Int)) := Lib.hid (bx hc32 (by decide))
      go_wp2_with fail
      go_ret
      exact ⟨by rw [← hcc.out]; exact congrArg (fun x => Ending.returned (Value.int .u32 x)) e1.out, rfl⟩
end Go.Proofs.YtdpgfjdndohcdaaDoor
