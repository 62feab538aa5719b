/- What the document answers for a digit, its worth, a number from bytes and the bytes of a number. -/
import Derived.Test.YtdpgfjdndohcdaaDoorSum
import Derived.Test.YtdpgfjdndohcdaaDoorLift
namespace Go.Proofs.YtdpgfjdndohcdaaDoor
open Go.RowKit

set_option maxHeartbeats 1000000 in
/-- tidemarkref4.digit -/
theorem digit_any (i : Nat) (hi : i < 16) (w : World) :
    Calls Tryd.prog 35 #[.int .i64 i] w fun e w' => e = .returned (.int .u8 ((dg i).toNat : Nat)) ∧ w' = w := by
  by_cases h : i < 10
  · have hd : ((dg i).toNat : Nat) = 48 + i := by
      have : ∀ j : Fin 10, (dg j.val).toNat = 48 + j.val := by decide
      exact this ⟨i, h⟩
    have hd := Lib.hid hd
    go_enter Tryd.func35, Tryd.ntmps35
    go_wp2_with fail
    go_ret
    exact ⟨by rw [hd.out]; go_num, rfl⟩
  · have hd : ((dg i).toNat : Nat) = 87 + i := by
      have : ∀ j : Fin 6, (dg (j.val + 10)).toNat = 97 + j.val := by decide
      have h2 := this ⟨i - 10, by omega⟩
      simp only [show i - 10 + 10 = i by omega] at h2
      omega
    have hd := Lib.hid hd
    go_enter Tryd.func35, Tryd.ntmps35
    go_wp2_with fail
    go_ret
    exact ⟨by rw [hd.out]; go_num, rfl⟩

/-- What tidemarkref4.worth gives. -/
def worthN (b : Nat) : Nat := if 48 ≤ b ∧ b ≤ 57 then b - 48 else if 97 ≤ b ∧ b ≤ 102 then b - 87 else 0

set_option maxHeartbeats 1000000 in
/-- tidemarkref4.worth -/
theorem worth_any (b : Nat) (w : World) (hb : b < 256) :
    Calls Tryd.prog 26 #[.int .u8 b] w fun e w' => e = .returned (.int .i64 (worthN b : Nat)) ∧ w' = w := by
  go_enter Tryd.func26, Tryd.ntmps26
  go_wp2_with fail
  all_goals go_ret
  all_goals refine ⟨congrArg (fun x => Ending.returned (Value.int .i64 x)) ?_, rfl⟩
  all_goals unfold worthN
  all_goals split
  all_goals first | omega | (split <;> omega)

set_option maxHeartbeats 1000000 in
/-- tidemarkref1.small -/
theorem small_any (s : ByteArray) (w : World) (hs : s.size ≤ 8) :
    Calls Tryd.prog 36 #[.string s] w fun e w' => e = .returned (.int .u64 (liftN (bF s) 0 s.size : Nat)) ∧ w' = w := by
  go_enter Tryd.func36, Tryd.ntmps36
  go_wp2_with fail
  go_loopw [3, 4] (fun x i wr => ∃ k u : Nat, k ≤ s.size ∧ i = .int .i64 k ∧ x = .int .u64 u ∧ Hid (u = liftN (bF s) 0 k) ∧ wr = w) (fun _ i _ => s.size - (Lib.intOf i).toNat)
  case atStart => exact ⟨0, 0, Nat.zero_le _, rfl, rfl, Lib.hid rfl, rfl⟩
  case round =>
    obtain ⟨k, u, hk, rfl, rfl, hu, rfl⟩ := hrel
    by_cases hlt : k < s.size
    · have hu' : u < 72057594037927936 := by
        have h1 := liftN_lt (bF s) (bF_lt s) 0 k
        have h2 : 256 ^ k ≤ 256 ^ 7 := Nat.pow_le_pow_right (by decide) (by omega)
        rw [hu.out]
        exact Nat.lt_of_lt_of_le h1 h2
      have hget : Hid (s[k].toNat = bF s (0 + k)) := Lib.hid (by
        have : k < s.data.toList.length := by simpa using hlt
        rw [Nat.zero_add, bF, List.getD_eq_getElem?_getD, List.getElem?_eq_getElem this]; rfl)
      have hbyte := s[k].toNat_lt
      have e1 : IntKind.u64.wrap (s[k].toNat : Int) = (s[k].toNat : Int) := by rw [IntKind.wrap_u64]; omega
      have e2 : IntKind.u64.wrap ((u : Int) * 256) = (u : Int) * 256 := by rw [IntKind.wrap_u64]; omega
      have e3 : IntKind.u64.wrap ((u : Int) * 256 + (s[k].toNat : Int)) = (u : Int) * 256 + (s[k].toNat : Int) := by rw [IntKind.wrap_u64]; omega
      clear hbyte hu'
      go_wp2_with fail
      refine ⟨⟨k + 1, u * 256 + s[k].toNat, by omega, by go_num, ?_, Lib.hid (by rw [liftN, ← hu.out, ← hget.out]), trivial⟩, by simp [Lib.intOf]; omega⟩
      go_num
    · obtain rfl : k = s.size := by omega
      go_wp2_with fail
      go_ret
      exact ⟨by rw [hu.out]; rfl, rfl⟩

/-- A number's k lowest bytes, the highest first. -/
def bigL (v : Nat) : Nat → List UInt8
  | 0 => []
  | k + 1 => UInt8.ofNat (v / 256 ^ k) :: bigL v k

theorem bigL_length (v : Nat) : ∀ k, (bigL v k).length = k
  | 0 => rfl
  | k + 1 => by rw [bigL, List.length_cons, bigL_length v k]
theorem mk_size (l : List UInt8) : (ByteArray.mk l.toArray).size = l.length := by simp [ByteArray.size]
theorem mk_append (l m : List UInt8) : (ByteArray.mk l.toArray) ++ (ByteArray.mk m.toArray) = ByteArray.mk (l ++ m).toArray := by
  apply ByteArray.ext
  simp

set_option maxHeartbeats 1000000 in
/-- tidemarkref1.big -/
theorem big_any (v n : Nat) (hv : v < 18446744073709551616) (hn : n ≤ 8) (w : World) :
    Calls Tryd.prog 34 #[.int .u64 v, .int .i64 n] w fun e w' => e = .returned (.string ⟨(bigL v n).toArray⟩) ∧ Below w.heap.size w w' := by
  go_enter Tryd.func34, Tryd.ntmps34
  go_wp2_with fail
  go_loopw [0, 5, 6] (fun x t i wr => ∃ (k u : Nat), k ≤ n ∧ i = .int .i64 k ∧ x = .int .u64 u ∧ Hid (u = v / 256 ^ k) ∧ t = .string ⟨(bigL v k).toArray⟩ ∧ Below w.heap.size w wr) (fun _ _ i _ => n - (Lib.intOf i).toNat)
  case atStart => exact ⟨0, v, Nat.zero_le _, rfl, rfl, Lib.hid (by simp), rfl, Below.refl _ _⟩
  case round =>
    obtain ⟨k, u, hk, rfl, rfl, hu, rfl, hb⟩ := hrel
    by_cases hlt : k < n
    · have hconv : (convert 32 9 (.slice (some ⟨wr.heap.size, 0, none⟩) 1 1)).run Tryd.prog (wr.alloc (.cells #[.int .u8 ((u : Int) % 256)] 5)) = _ := run_convert_bytes_back (P := Tryd.prog) (wr.alloc (.cells #[.int .u8 ((u : Int) % 256)] 5)) 32 9 5 ⟨wr.heap.size, 0, none⟩ 1 [UInt8.ofNat u] Tryd.underlying32 Tryd.underlying5 Tryd.underlying9 (fun j hj => by
        obtain rfl : j = 0 := by simpa using hj
        rw [show (Addr.add ⟨wr.heap.size, 0, none⟩ 0) = ⟨wr.heap.size, 0, none⟩ from rfl, Lib.cell_of_heap (heap_alloc_at _ _)]
        simp)
      have hs1 : (ByteArray.mk #[UInt8.ofNat u]).size = 1 := rfl
      have hs2 : (ByteArray.mk (bigL v k).toArray).size = k := by rw [mk_size, bigL_length]
      have hk7 : k < 8 := by omega
      have hu64 : u < 18446744073709551616 := by
        rw [hu.out]
        exact Nat.lt_of_le_of_lt (Nat.div_le_self _ _) hv
      clear hv
      go_wp2_with fail
      refine ⟨⟨k + 1, u / 256, by omega, by go_num, by go_num, Lib.hid (by rw [hu.out, Nat.div_div_eq_div_mul, Nat.pow_succ]), ?_, hb.alloc hb.size _⟩, by simp [Lib.intOf]; omega⟩
      rw [bigL, ← hu.out]
      exact congrArg Value.string (mk_append [UInt8.ofNat u] (bigL v k))
    · obtain rfl : k = n := by omega
      go_wp2_with fail
      go_ret
      exact ⟨rfl, hb⟩
end Go.Proofs.YtdpgfjdndohcdaaDoor
