/- What wire.gather and wire.Crc answer. -/
import Derived.Test.YtdpgfjdndohcdaaDoorHex
import Derived.Laws.BitsAllLaws
namespace Go.Proofs.YtdpgfjdndohcdaaDoor
open Go.RowKit

/-- The remainder of each four bits. -/
def tb (i : Nat) : Nat := ([0, 498536548, 997073096, 651767980, 1994146192, 1802195444, 1303535960, 1342533948, 3988292384, 4027552580, 3604390888, 3412177804, 2607071920, 2262029012, 2685067896, 3183342108] : List Nat).getD i 0
/-- Four bits on. -/
def nib (c : Nat) : Nat := tb (c % 16) ^^^ (c / 16)
/-- A byte on. -/
def crcStep (c b : Nat) : Nat := nib (nib (c ^^^ b))
def crcL (c : Nat) (l : List UInt8) : Nat := l.foldl (fun c b => crcStep c b.toNat) c

theorem tb_lt (i : Nat) (h : i < 16) : tb i < 4294967296 := by
  have : ∀ i : Fin 16, tb i.val < 4294967296 := by decide
  exact this ⟨i, h⟩
theorem xor_lt32 {a b : Nat} (ha : a < 4294967296) (hb : b < 4294967296) : a ^^^ b < 4294967296 :=
  Nat.xor_lt_two_pow (n := 32) ha hb
theorem nib_lt {c : Nat} (h : c < 4294967296) : nib c < 4294967296 := xor_lt32 (tb_lt _ (by omega)) (by omega)
theorem crcStep_lt {c b : Nat} (h : c < 4294967296) (hb : b < 256) : crcStep c b < 4294967296 := nib_lt (nib_lt (xor_lt32 h (by omega)))
theorem crcL_lt (l : List UInt8) {c : Nat} (h : c < 4294967296) : crcL c l < 4294967296 := by
  induction l generalizing c with
  | nil => exact h
  | cons b l ih => exact ih (crcStep_lt h b.toNat_lt)
theorem crcL_snoc (c : Nat) (l : List UInt8) (b : UInt8) : crcL c (l ++ [b]) = crcStep (crcL c l) b.toNat := by simp [crcL]

theorem bx {a b : Nat} (ha : a < 4294967296) (hb : b < 4294967296) : bits .xor .u32 (a : Int) (b : Int) = ((a ^^^ b : Nat) : Int) := by
  exact u32_xor_nat a b ha hb
theorem b15 {a : Nat} (ha : a < 4294967296) : bits .and .u32 (a : Int) 15 = ((a % 16 : Nat) : Int) := by
  have h := u32_and_nat a 15 ha (by decide)
  rw [show a &&& 15 = a % 16 from Nat.and_two_pow_sub_one_eq_mod a 4] at h
  exact h
theorem bn {a : Nat} (ha : a < 4294967296) : bits .xor .u32 ((tb (a % 16) : Nat) : Int) ((a : Int) / 16) = ((nib a : Nat) : Int) := by
  have h := u32_xor_nat (tb (a % 16)) (a / 16) (tb_lt _ (by omega)) (by omega)
  simpa [nib] using h
theorem Laid.tb {w : World} (h : Laid w) (i : Nat) (hi : i < 16) : w.cell? ⟨1, i, none⟩ = some (.int .u32 (tb i : Nat)) := by
  rw [h.2 i hi]
  have : ∀ i : Fin 16, (YtdpgfjdndohcdaaDoor.crcL0.getD i.val 0 : Int) = (YtdpgfjdndohcdaaDoor.tb i.val : Nat) := by decide
  rw [this ⟨i, hi⟩]

set_option maxHeartbeats 2000000 in
/-- wire.gather -/
theorem gather_any (s : ByteArray) (c0 : Nat) (hc : c0 < 4294967296) (w : World) (hL : Laid w) (hs : s.size ≤ 1000) :
    Calls Tryd.prog 38 #[.int .u32 c0, .string s] w fun e w' => e = .returned (.int .u32 (crcL c0 s.data.toList : Nat)) ∧ w' = w := by
  go_enter Tryd.func38, Tryd.ntmps38
  go_wp2
  go_loopw [0, 5] (fun x i wr => ∃ k c : Nat, i = .int .i64 k ∧ x = .int .u32 c ∧ Hid (c = crcL c0 (s.data.toList.take k)) ∧ k ≤ s.size ∧ wr = w) (fun _ i _ => s.size - (Lib.intOf i).toNat)
  case atStart => exact ⟨0, c0, rfl, rfl, Lib.hid rfl, Nat.zero_le _, rfl⟩
  case round =>
    obtain ⟨k, c, rfl, rfl, hcc, hk, rfl⟩ := hrel
    have hc32 : c < 4294967296 := by rw [hcc.out]; exact crcL_lt _ hc
    by_cases hlt : k < s.size
    · have hbyte := s[k].toNat_lt
      obtain ⟨x, hx⟩ : ∃ x, Hid (x = c ^^^ s[k].toNat) := ⟨_, Lib.hid rfl⟩
      obtain ⟨y, hy⟩ : ∃ y, Hid (y = nib x) := ⟨_, Lib.hid rfl⟩
      obtain ⟨z, hz⟩ : ∃ z, Hid (z = nib y) := ⟨_, Lib.hid rfl⟩
      have hx32 : x < 4294967296 := by rw [hx.out]; exact xor_lt32 hc32 (by omega)
      have hy32 : y < 4294967296 := by rw [hy.out]; exact nib_lt hx32
      have e1 : bits .xor .u32 (c : Int) (s[k].toNat : Int) = (x : Int) := by rw [hx.out]; exact bx hc32 (by omega)
      have e2 : bits .and .u32 (x : Int) 15 = ((x % 16 : Nat) : Int) := b15 hx32
      have e3 : bits .xor .u32 ((tb (x % 16) : Nat) : Int) ((x : Int) / 16) = (y : Int) := by rw [hy.out]; exact bn hx32
      have e4 : bits .and .u32 (y : Int) 15 = ((y % 16 : Nat) : Int) := b15 hy32
      have e5 : bits .xor .u32 ((tb (y % 16) : Nat) : Int) ((y : Int) / 16) = (z : Int) := by rw [hz.out]; exact bn hy32
      have c1 := hL.tb (x % 16) (by omega)
      have c2 := hL.tb (y % 16) (by omega)
      clear hc32 hx32 hy32
      go_wp2_with fail
      go_roundw
      case rel =>
        refine ⟨k + 1, z, by go_num, rfl, Lib.hid ?_, by omega, trivial⟩
        rw [take_snoc s k hlt, crcL_snoc, ← hcc.out, hz.out, hy.out, hx.out]; rfl
      case measure =>
        simp [Lib.intOf]; omega
    · replace hcc := Lib.hid (hcc.out.trans (by rw [take_all s k (by omega)]))
      go_wp2_with fail
      go_ret
      exact ⟨by rw [hcc.out]; rfl, rfl⟩

set_option maxHeartbeats 2000000 in
/-- wire.Crc -/
theorem crc_any (s : ByteArray) (w : World) (hL : Laid w) (hs : s.size ≤ 1000) :
    Calls Tryd.prog 31 #[.string s] w fun e w' => e = .returned (.int .u32 (crcL 4294967295 s.data.toList ^^^ 4294967295 : Nat)) ∧ w' = w := by
  go_enter Tryd.func31, Tryd.ntmps31
  go_wp2_with (go_at_call 38; refine (gather_any s 4294967295 (by decide) w hL hs).mono ?_)
  rintro e w1 ⟨rfl, rfl⟩
  have e1 : bits .xor .u32 4294967295 ((crcL 4294967295 s.data.toList : Nat) : Int) = ((crcL 4294967295 s.data.toList ^^^ 4294967295 : Nat) : Int) := by
    rw [Nat.xor_comm]
    exact u32_xor_nat 4294967295 _ (by decide) (crcL_lt _ (by decide))
  go_wp2_with fail
  · go_ret
    exact ⟨congrArg (fun x => Ending.returned (Value.int .u32 x)) e1, rfl⟩
end Go.Proofs.YtdpgfjdndohcdaaDoor
