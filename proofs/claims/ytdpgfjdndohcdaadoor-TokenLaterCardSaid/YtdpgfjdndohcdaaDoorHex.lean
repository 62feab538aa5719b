/- What token.hex answers, and the two tables that the program laid. -/
import Derived.Test.YtdpgfjdndohcdaaDoorBase
import Derived.Test.YtdpgfjdndohcdaaDoorShelf
import Derived.Lib.LaidTab
namespace Go.Proofs.YtdpgfjdndohcdaaDoor
open Go.RowKit

/-- The sixteen digits. -/
def dg (i : Nat) : UInt8 := ([48, 49, 50, 51, 52, 53, 54, 55, 56, 57, 97, 98, 99, 100, 101, 102] : List UInt8).getD i 0
def crcL0 : List Int := [0, 498536548, 997073096, 651767980, 1994146192, 1802195444, 1303535960, 1342533948, 3988292384, 4027552580, 3604390888, 3412177804, 2607071920, 2262029012, 2685067896, 3183342108]

/-- The two tables lie where the program laid them. -/
def Laid (w : World) : Prop := (∀ i, i < 16 → w.cell? ⟨0, i, none⟩ = some (.int .u8 ((dg i).toNat : Nat))) ∧ (∀ i, i < 16 → w.cell? ⟨1, i, none⟩ = some (.int .u32 (crcL0.getD i 0)))

theorem gDig : Tryd.prog.globalNamed "tidemark/token.digits" = some 0 := by kernel_rfl
theorem gTab : Tryd.prog.globalNamed "tidemark/wire.table" = some 1 := by kernel_rfl

theorem Laid.size {w : World} (h : Laid w) : 2 ≤ w.heap.size := by
  have := h.2 0 (by decide)
  rcases Nat.lt_or_ge 1 w.heap.size with h' | h'
  · exact h'
  · simp [World.cell?, Array.getElem?_eq_none h'] at this

theorem Laid.below {w w' : World} (h : Laid w) (k : Below w.heap.size w w') : Laid w' := by
  have hs := h.size
  have e0 : w'.heap[0]? = w.heap[0]? := k.block 0 (by omega)
  have e1 : w'.heap[1]? = w.heap[1]? := k.block 1 (by omega)
  refine ⟨fun i hi => ?_, fun i hi => ?_⟩
  · rw [← h.1 i hi]; simp [World.cell?, e0]
  · rw [← h.2 i hi]; simp [World.cell?, e1]

/-- Bytes as digits, two a byte. -/
def hexL : List UInt8 → List UInt8
  | [] => []
  | b :: l => dg (b.toNat / 16) :: dg (b.toNat % 16) :: hexL l

theorem hexL_snoc (l : List UInt8) (b : UInt8) : hexL (l ++ [b]) = (hexL l ++ [dg (b.toNat / 16)]) ++ [dg (b.toNat % 16)] := by
  induction l with
  | nil => rfl
  | cons a l ih => simp [hexL, ih]
theorem hexL_length (l : List UInt8) : (hexL l).length = 2 * l.length := by
  induction l with
  | nil => rfl
  | cons a l ih => simp [hexL, ih]; omega

theorem take_snoc (s : ByteArray) (k : Nat) (h : k < s.size) : s.data.toList.take (k + 1) = s.data.toList.take k ++ [s[k]] := by
  rw [List.take_add_one]
  congr 1
  have : k < s.data.toList.length := by simpa using h
  rw [List.getElem?_eq_getElem this]
  rfl
theorem take_all (s : ByteArray) (k : Nat) (h : s.size ≤ k) : s.data.toList.take k = s.data.toList := by
  apply List.take_of_length_le
  simpa using h

set_option maxHeartbeats 2000000 in
/-- token.hex -/
theorem hex_any (s : ByteArray) (w : World) (hL : Laid w) (hs : s.size ≤ 1000) :
    Calls Tryd.prog 17 #[.string s] w fun e w' => e = .returned (.string ⟨(hexL s.data.toList).toArray⟩) ∧ Below w.heap.size w w' := by
  go_enter Tryd.func17, Tryd.ntmps17
  go_wp2
  go_loopw [4] (fun i wr => ∃ k : Nat, i = .int .i64 k ∧ k ≤ s.size ∧ Below w.heap.size w wr ∧ Lib.IsBuilder 60 5 w.heap.size w.heap.size (Lib.byteCells (hexL (s.data.toList.take k))) wr) (fun i _ => s.size - (Lib.intOf i).toNat)
  case atStart =>
    exact ⟨0, rfl, Nat.zero_le _, (Below.refl _ w).alloc (Nat.le_refl _) _, Lib.fresh_isBuilder 60 5 w⟩
  case round =>
    obtain ⟨k, rfl, hk, hb, hI⟩ := hrel
    have hLr : Laid wr := hL.below hb
    by_cases hlt : k < s.size
    · have hbyte := s[k].toNat_lt
      have hlen : (hexL (s.data.toList.take k)).length ≤ 2000 := by rw [hexL_length]; simp; omega
      have c0 : wr.cell? ⟨0, s[k].toNat / 16, none⟩ = some (.int .u8 ((dg (s[k].toNat / 16)).toNat : Nat)) := hLr.1 _ (by omega)
      go_wp2_with (go_at_call 29; refine (builder_byte w.heap.size w.heap.size _ _ wr hI (by rw [Lib.byteCells_length]; omega) hb.size).mono ?_)
      rintro e w1 ⟨rfl, hI1, hb1⟩
      have hb2 := hb.trans hb1
      have hL1 : Laid w1 := hL.below hb2
      have c1 : w1.cell? ⟨0, s[k].toNat % 16, none⟩ = some (.int .u8 ((dg (s[k].toNat % 16)).toNat : Nat)) := hL1.1 _ (by omega)
      clear c0
      go_wp2_with (go_at_call 29; refine (builder_byte w.heap.size w.heap.size _ _ w1 hI1 (by simp [Lib.byteCells_length]; omega) hb2.size).mono ?_)
      rintro e w2 ⟨rfl, hI2, hb3⟩
      clear c1
      go_wp2_with fail
      go_roundw
      case rel =>
        refine ⟨k + 1, by go_num, by omega, hb2.trans hb3, ?_⟩
        rw [take_snoc s k hlt, hexL_snoc, Lib.byteCells_append, Lib.byteCells_append]
        exact hI2
      case measure =>
        simp [Lib.intOf]; omega
    · rw [take_all s k (by omega)] at hI
      go_wp2_with (go_at_call 30; refine (builder_string w.heap.size w.heap.size _ wr hI hb.size).mono ?_)
      rintro e w1 ⟨rfl, hb1⟩
      go_wp2_with fail
      go_ret
      exact ⟨rfl, hb.trans hb1⟩
end Go.Proofs.YtdpgfjdndohcdaaDoor
