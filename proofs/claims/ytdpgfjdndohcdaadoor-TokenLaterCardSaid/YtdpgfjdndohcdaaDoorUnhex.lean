/- What token.unhex answers to a text of forty bytes. -/
import Derived.Test.YtdpgfjdndohcdaaDoorSum
import Derived.Lib.OthersKept
import Derived.Laws.RangeAny
namespace Go.Proofs.YtdpgfjdndohcdaaDoor
open Go.RowKit

/-- A digit's number, or zero. -/
def v0 (s : ByteArray) (j : Nat) : Nat := (val (s.data.toList.getD j 0).toNat).getD 0
/-- The byte at i, where p digits are read. -/
def outAt (s : ByteArray) (p i : Nat) : Nat := (if 2 * i < p then v0 s (2 * i) * 16 else 0) + (if 2 * i + 1 < p then v0 s (2 * i + 1) else 0)
def outA (s : ByteArray) (p : Nat) : Array Value := (Array.range 20).map fun i => .int .u8 (outAt s p i : Nat)

/-- Two digits a byte, if all are digits. -/
def unhexL : List UInt8 → Option (List UInt8)
  | [] => some []
  | [_] => none
  | a :: b :: l => match val a.toNat, val b.toNat, unhexL l with
    | some x, some y, some r => some (UInt8.ofNat (x * 16 + y) :: r)
    | _, _, _ => none
/-- What token.unhex hands back. -/
def unhexV : Option (List UInt8) → Value
  | some l => .tuple #[.string ⟨l.toArray⟩, .bool true]
  | none => .tuple #[.string ⟨#[]⟩, .bool false]

theorem val_lt {c : Int} {v : Nat} (h : val c = some v) : v < 16 := by
  unfold val at h
  split at h
  · cases h; omega
  · split at h
    · cases h; omega
    · cases h
theorem v0_lt (s : ByteArray) (j : Nat) : v0 s j < 16 := by
  unfold v0
  cases h : val (s.data.toList.getD j 0).toNat with
  | none => decide
  | some v => exact val_lt h
theorem v0_some {s : ByteArray} {j v : Nat} (h : val (s.data.toList.getD j 0).toNat = some v) : v0 s j = v := by rw [v0, h]; rfl
theorem outAt_lt (s : ByteArray) (p i : Nat) : outAt s p i < 256 := by
  have h1 := v0_lt s (2 * i)
  have h2 := v0_lt s (2 * i + 1)
  unfold outAt
  split <;> split <;> omega
theorem outAt_other (s : ByteArray) (p i : Nat) (h : i ≠ p / 2) : outAt s (p + 1) i = outAt s p i := by
  have e1 : (2 * i < p + 1) = (2 * i < p) := propext (by omega)
  have e2 : (2 * i + 1 < p + 1) = (2 * i + 1 < p) := propext (by omega)
  simp only [outAt, e1, e2]
theorem outAt_even (s : ByteArray) (p : Nat) (h : p % 2 = 0) : outAt s p (p / 2) = 0 ∧ outAt s (p + 1) (p / 2) = v0 s p * 16 := by
  have e : 2 * (p / 2) = p := by omega
  have e1 : ¬ p + 1 < p := by omega
  simp [outAt, e, e1]
theorem outAt_odd (s : ByteArray) (p : Nat) (h : p % 2 ≠ 0) : outAt s p (p / 2) = v0 s (p - 1) * 16 ∧ outAt s (p + 1) (p / 2) = v0 s (p - 1) * 16 + v0 s p := by
  have e : 2 * (p / 2) = p - 1 := by omega
  have e1 : p - 1 + 1 = p := by omega
  have e2 : p - 1 < p := by omega
  have e3 : p - 1 < p + 1 := by omega
  simp [outAt, e, e1, e2, e3]
theorem outA_at (s : ByteArray) (p i : Nat) (h : i < 20) : (outA s p)[i]? = some (.int .u8 (outAt s p i : Nat)) := by
  simp [outA, h]
theorem outA_set (s : ByteArray) (p : Nat) (v : Value) (hv : v = .int .u8 (outAt s (p + 1) (p / 2) : Nat)) : (outA s p).setIfInBounds (p / 2) v = outA s (p + 1) := by
  apply Array.ext
  · simp [outA]
  · intro i h1 h2
    rw [Array.getElem_setIfInBounds (by simpa [outA] using h2)]
    split
    · rename_i h; subst h; simp [outA, hv]
    · rename_i h
      simp [outA, outAt_other s p i (fun e => h e.symm)]
theorem bor (a y : Nat) (ha : a < 16) (hy : y < 16) : bits .or .u8 ((a * 16 : Nat) : Int) (y : Int) = ((a * 16 + y : Nat) : Int) := by
  have h := bits_join .u8 8 (by decide) wraps_u8 4 ((a * 16 : Nat) : Int) (y : Int) (by omega) (by omega) (by omega) (by omega) (by omega) (by omega)
  rw [h]; simp
theorem bor0 (y : Nat) (hy : y < 256) : bits .or .u8 0 (y : Int) = (y : Int) := by
  have h := (bits_nat .u8 8 (by decide) wraps_u8 0 y (by decide) hy).2
  simpa using h

theorem unhexL_some : ∀ (n : Nat) (l : List UInt8), l.length = 2 * n → (∀ j, j < 2 * n → (val (l.getD j 0).toNat).isSome = true) →
    unhexL l = some ((List.range n).map fun i => UInt8.ofNat (((val (l.getD (2 * i) 0).toNat).getD 0) * 16 + (val (l.getD (2 * i + 1) 0).toNat).getD 0))
  | 0, l, hl, _ => by
    obtain rfl : l = [] := List.length_eq_zero_iff.1 hl
    rfl
  | n + 1, [], hl, _ => by simp at hl
  | n + 1, [_], hl, _ => by simp at hl; omega
  | n + 1, a :: b :: l, hl, h => by
    have ih := unhexL_some n l (by simp at hl; omega) (fun j hj => by have := h (j + 2) (by omega); simpa using this)
    have ha := h 0 (by omega)
    have hb := h 1 (by omega)
    simp only [List.getD_cons_zero, List.getD_cons_succ] at ha hb
    obtain ⟨x, hx⟩ := Option.isSome_iff_exists.1 ha
    obtain ⟨y, hy⟩ := Option.isSome_iff_exists.1 hb
    rw [unhexL, hx, hy, ih, List.range_succ_eq_map, List.map_cons]
    simp only [List.getD_cons_zero, List.getD_cons_succ, hx, hy, Option.getD_some, List.map_map, Nat.mul_zero, Nat.zero_add]
    rfl
theorem unhexL_none : ∀ (l : List UInt8) (p : Nat), p < l.length → val (l.getD p 0).toNat = none → unhexL l = none
  | [], p, hp, _ => by simp at hp
  | [_], _, _, _ => rfl
  | a :: b :: l, 0, _, h => by
    simp only [List.getD_cons_zero] at h
    rw [unhexL, h]
  | a :: b :: l, 1, _, h => by
    simp only [List.getD_cons_zero, List.getD_cons_succ] at h
    rw [unhexL, h]
    cases val a.toNat <;> rfl
  | a :: b :: l, p + 2, hp, h => by
    have ih := unhexL_none l p (by simp at hp; omega) (by simpa using h)
    rw [unhexL, ih]
    cases val a.toNat <;> cases val b.toNat <;> rfl
theorem unhex_none (s : ByteArray) (hs : s.size = 40) (p : Nat) (hp : p < 40) (h : val (s.data.toList.getD p 0).toNat = none) : unhexL s.data.toList = none :=
  unhexL_none _ p (by simpa using hs ▸ hp) h
theorem unhex_some (s : ByteArray) (hs : s.size = 40) (h : ∀ j, j < 40 → (val (s.data.toList.getD j 0).toNat).isSome = true) : unhexL s.data.toList = some ((List.range 20).map fun i => UInt8.ofNat (outAt s 40 i)) := by
  rw [unhexL_some 20 s.data.toList (by simpa using hs) (fun j hj => h j (by omega))]
  refine congrArg some (List.map_congr_left fun i hi => ?_)
  have := List.mem_range.1 hi
  simp [outAt, v0, show 2 * i < 40 by omega, show 2 * i + 1 < 40 by omega]

set_option maxHeartbeats 2000000 in
/-- token.unhex -/
theorem unhex_any (s : ByteArray) (w : World) (hL : Laid w) (hs : s.size = 40) :
    Calls Tryd.prog 19 #[.string s] w fun e w' => e = .returned (unhexV (unhexL s.data.toList)) ∧ Below w.heap.size w w' := by
  have hmk : ∀ w, (Instr.makeSlice 32 (.int .i64 20) (.int .i64 20)).run Tryd.prog w = .ok (.slice (some ⟨w.heap.size, 0, none⟩) 20 20) (w.alloc (.cells (outA s 0) 5)) := fun w => by kernel_rfl
  go_enter Tryd.func19, Tryd.ntmps19
  go_wp2_with fail
  clear hmk
  go_loopw [] (fun wr => ∃ p : Nat, p ≤ 40 ∧ Hid (∀ j, j < p → (val (s.data.toList.getD j 0).toNat).isSome = true) ∧ wr.heap[w.heap.size]? = some (.cells (outA s p) 5 (0, 0)) ∧ wr.heap[w.heap.size + 1]? = some (.stringIter s p) ∧ Below w.heap.size w wr) (fun wr => 40 - wr.iterPos (w.heap.size + 1))
  case atStart =>
    refine ⟨0, Nat.zero_le _, Lib.hid (fun j hj => absurd hj (Nat.not_lt_zero _)), ?_, ?_, ?_⟩
    · have h1 : (w.alloc (.cells (outA s 0) 5)).heap[w.heap.size]? = some (.cells (outA s 0) 5 (0, 0)) := heap_alloc_at w _
      exact heap_alloc_old h1 _
    · have := World.iter_heap (w.alloc (.cells (outA s 0) 5)) s 0
      simpa using this
    · exact ((Below.refl _ w).alloc (Nat.le_refl _) _).alloc (by simp) _
  case round =>
    obtain ⟨p, hp40, hdig, hout, hit, hbw⟩ := hrel
    by_cases hp : p < s.size
    · have hp' : p < 40 := by omega
      have hget : s.data.toList.getD p 0 = s[p] := by
        have : p < s.data.toList.length := by simpa using hp
        rw [List.getD_eq_getElem?_getD, List.getElem?_eq_getElem this]; rfl
      have hout2 : (wr.iterAt (w.heap.size + 1) s (p + 1)).heap[w.heap.size]? = some (.cells (outA s p) 5 (0, 0)) := by rw [Lib.iterAt_other wr _ _ s (p + 1) (by omega)]; exact hout
      by_cases hasc : s[p].toNat < 128
      · have hnx : ∀ ty, (Instr.next (.pointer (some ⟨w.heap.size + 1, 0, none⟩)) true ty).run Tryd.prog wr = _ := fun ty => Lib.run_next_ascii_at wr (w.heap.size + 1) s p ty hit hp hasc
        have hit2 := Lib.iterAt_heap wr (w.heap.size + 1) s p (p + 1) hit
        have hbw2 := Lib.below_iterAt hbw (k := w.heap.size + 1) (by omega) s (p + 1)
        have hL2 : Laid (wr.iterAt (w.heap.size + 1) s (p + 1)) := hL.below hbw2
        cases hv : val (s[p].toNat : Int) with
        | none =>
          have hun := Lib.hid (unhex_none s hs p hp' (by rw [hget]; exact hv))
          go_wp2_with (go_at_call 32; refine (value_any (s[p].toNat : Int) _ hL2).mono ?_)
          rintro e w1 ⟨rfl, rfl⟩
          rw [hv]
          clear hv
          unfold valV
          go_wp2_with fail
          go_ret2
          exact ⟨by rw [hun.out]; rfl, hbw2⟩
        | some v =>
          go_wp2_with (go_at_call 32; refine (value_any (s[p].toNat : Int) _ hL2).mono ?_)
          rintro e w1 ⟨rfl, rfl⟩
          rw [hv]
          have hv' := Lib.hid hv
          clear hv
          unfold valV
          have hv16 := val_lt hv'.out
          have hv0 : v0 s p = v := v0_some (by rw [hget]; exact hv'.out)
          have cl : (wr.iterAt (w.heap.size + 1) s (p + 1)).cell? ⟨w.heap.size, p / 2, none⟩ = some (.int .u8 (outAt s p (p / 2) : Nat)) := by rw [Lib.cell_of_heap hout2]; exact outA_at s p _ (by omega)
          have cf : (wr.iterAt (w.heap.size + 1) s (p + 1)).frozen? ⟨w.heap.size, p / 2, none⟩ = false := Lib.frozen_of_heap hout2 _
          have hdig2 : Hid (∀ j, j < p + 1 → (val (s.data.toList.getD j 0).toNat).isSome = true) := Lib.hid (fun j hj => by
            by_cases hjp : j = p
            · rw [hjp, hget, hv'.out]; rfl
            · exact hdig.out j (by omega))
          have hset := Lib.hid (outA_set s p)
          have hh := Lib.hid (heap_set_same hout2 (p / 2))
          have hn := Lib.hid (fun u => heap_set_other hit2 (p := ⟨w.heap.size, p / 2, none⟩) (by simp) u)
          have hbw3 := Lib.hid (fun u => hbw2.setCell (p := ⟨w.heap.size, p / 2, none⟩) (Nat.le_refl _) u)
          by_cases he : p % 2 = 0
          · have ht : ((p : Int) % 2 == 0) = true := by simp; omega
            obtain ⟨o1, o2⟩ := outAt_even s p he
            rw [o1] at cl
            rw [hv0] at o2
            have hw : (v : Int) * 16 % 256 = (v : Int) * 16 := by omega
            have hor := Lib.hid (p := bits .or .u8 0 ((v : Int) * 16) = ((v * 16 : Nat) : Int)) (by have h := bor0 (v * 16) (by omega); simpa using h)
            have o2 := Lib.hid o2
            have hval : Hid (Value.int .u8 (bits .or .u8 0 ((v : Int) * 16)) = .int .u8 (outAt s (p + 1) (p / 2) : Nat)) := Lib.hid (by rw [hor.out, o2.out])
            clear he o1 hv0 hv16 hor
            go_wp2_with fail
            refine ⟨⟨p + 1, by omega, hdig2, (hh.out _).trans (by rw [hset.out _ hval.out]), hn.out _, hbw3.out _⟩, ?_⟩
            simp only [World.iterPos, hn.out, hit]
            omega
          · have ht : ((p : Int) % 2 == 0) = false := by simp; omega
            obtain ⟨o1, o2⟩ := outAt_odd s p he
            have hval : Hid (Value.int .u8 (bits .or .u8 ((outAt s p (p / 2) : Nat) : Int) (v : Int)) = .int .u8 (outAt s (p + 1) (p / 2) : Nat)) := Lib.hid (by
              rw [o1, o2, hv0, bor _ _ (v0_lt _ _) hv16])
            clear he o1 o2 hv0 hv16
            go_wp2_with fail
            refine ⟨⟨p + 1, by omega, hdig2, (hh.out _).trans (by rw [hset.out _ hval.out]), hn.out _, hbw3.out _⟩, ?_⟩
            simp only [World.iterPos, hn.out, hit]
            omega
      · have hnx : ∀ ty, (Instr.next (.pointer (some ⟨w.heap.size + 1, 0, none⟩)) true ty).run Tryd.prog wr = _ := fun ty => Lib.run_next_any_at wr (w.heap.size + 1) s p ty hit hp
        have hc := (decode_high s p hp (by omega)).1
        have hbw2 := Lib.below_iterAt hbw (k := w.heap.size + 1) (by omega) s (p + (Utf8.decode s p).2)
        have hL2 : Laid (wr.iterAt (w.heap.size + 1) s (p + (Utf8.decode s p).2)) := hL.below hbw2
        have hun := Lib.hid (unhex_none s hs p hp' (by rw [hget]; unfold val; rw [if_neg (by omega), if_neg (by omega)]))
        have hv : val ((Utf8.decode s p).1 : Int) = none := by unfold val; rw [if_neg (by omega), if_neg (by omega)]
        clear hc hasc hout2
        go_wp2_with (go_at_call 32; refine (value_any ((Utf8.decode s p).1 : Int) _ hL2).mono ?_)
        rintro e w1 ⟨rfl, rfl⟩
        rw [hv]
        clear hv
        unfold valV
        go_wp2_with fail
        go_ret2
        exact ⟨by rw [hun.out]; rfl, hbw2⟩
    · obtain rfl : p = 40 := by omega
      have hun := Lib.hid (unhex_some s hs hdig.out)
      have hnx : ∀ ty, (Instr.next (.pointer (some ⟨w.heap.size + 1, 0, none⟩)) true ty).run Tryd.prog wr = _ := fun ty => Lib.run_next_end_at wr (w.heap.size + 1) s 40 ty hit hp
      have hconv : (convert 32 9 (.slice (some ⟨w.heap.size, 0, none⟩) 20 20)).run Tryd.prog wr = _ := run_convert_bytes_back (P := Tryd.prog) wr 32 9 5 ⟨w.heap.size, 0, none⟩ 20 ((List.range 20).map fun i => UInt8.ofNat (outAt s 40 i)) Tryd.underlying32 Tryd.underlying5 Tryd.underlying9 (fun j hj => by
        have hj' : j < 20 := by simpa using hj
        have hlt := outAt_lt s 40 j
        rw [show (Addr.add ⟨w.heap.size, 0, none⟩ j) = ⟨w.heap.size, j, none⟩ by simp [Addr.add]; omega, Lib.cell_of_heap hout, outA_at s 40 j hj']
        simp
        omega)
      clear hdig
      go_wp2_with fail
      go_ret2
      exact ⟨by rw [hun.out]; rfl, hbw⟩
end Go.Proofs.YtdpgfjdndohcdaaDoor
