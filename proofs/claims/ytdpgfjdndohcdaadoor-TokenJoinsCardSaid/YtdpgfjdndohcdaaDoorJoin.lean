/- token.Join: the later of two tokens, or the refusal. -/
import Derived.Test.YtdpgfjdndohcdaaDoorPlain
import Derived.Test.YtdpgfjdndohcdaaDoorMax
namespace Go.Proofs.YtdpgfjdndohcdaaDoor
open Go.RowKit

/-- The numbers that a text carries; of none: zeros. -/
def sX (t : ByteArray) : Nat := (decL t.data.toList).elim 0 nX
def sY (t : ByteArray) : Nat := (decL t.data.toList).elim 0 nY
def sZ (t : ByteArray) : Nat := (decL t.data.toList).elim 0 nZ
/-- A text that is refused. -/
def badB (t : ByteArray) : Bool := !t.toList.isEmpty && (decL t.data.toList).isNone
def joinV (a b : ByteArray) : Value :=
  if badB a || badB b then .tuple #[.string ⟨#[]⟩, .int .i64 40]
  else if b.toList.isEmpty || (!a.toList.isEmpty && ltB (sX b) (sY b) (sZ b) (sX a) (sY a) (sZ a)) then .tuple #[.string a, .int .i64 0]
  else .tuple #[.string b, .int .i64 0]

def twoO (x y z x' y' z' : Int) : Obj := .cells #[.int .u64 x, .int .u32 y, .int .u32 z, .int .u64 x', .int .u32 y', .int .u32 z'] 50
/-- A text is none, or refused, or taken. -/
theorem kind (t : ByteArray) : (t.toList.isEmpty = true) ∨ (t.toList.isEmpty = false ∧ decL t.data.toList = none) ∨ (t.toList.isEmpty = false ∧ ∃ l, decL t.data.toList = some l) := by
  cases h : t.toList.isEmpty with
  | true => exact Or.inl rfl
  | false =>
    cases hd : decL t.data.toList with
    | none => exact Or.inr (Or.inl ⟨rfl, rfl⟩)
    | some l => exact Or.inr (Or.inr ⟨rfl, l, rfl⟩)

theorem nil_of_empty {t : ByteArray} (h : t.toList.isEmpty = true) : t.data.toList = [] := by
  rw [Go.ByteArray.toList_eq] at h
  simpa using h
theorem dec_empty {t : ByteArray} (h : t.toList.isEmpty = true) : decL t.data.toList = none := by
  rw [nil_of_empty h]; rfl
theorem bad_empty {t : ByteArray} (h : t.toList.isEmpty = true) : badB t = false := by simp [badB, h]
theorem bad_bad {t : ByteArray} (h : t.toList.isEmpty = false) (hd : decL t.data.toList = none) : badB t = true := by simp [badB, h, hd]
theorem bad_good {t : ByteArray} {l : List UInt8} (hd : decL t.data.toList = some l) : badB t = false := by simp [badB, hd]
theorem s_none {t : ByteArray} (hd : decL t.data.toList = none) : sX t = 0 ∧ sY t = 0 ∧ sZ t = 0 := by simp [sX, sY, sZ, hd]
theorem s_some {t : ByteArray} {l : List UInt8} (hd : decL t.data.toList = some l) : decV (decL t.data.toList) = .tuple #[.agg #[.int .u64 (sX t), .int .u32 (sY t), .int .u32 (sZ t)], .int .i64 0] := by
  rw [hd, decV_some]
  simp [sX, sY, sZ, hd]
theorem join_bad1 {a b : ByteArray} (h : badB a = true) : joinV a b = .tuple #[.string ⟨#[]⟩, .int .i64 40] := by simp [joinV, h]
theorem join_bad2 {a b : ByteArray} (h : badB b = true) : joinV a b = .tuple #[.string ⟨#[]⟩, .int .i64 40] := by simp [joinV, h]
theorem join_good {a b : ByteArray} (ha : badB a = false) (hb : badB b = false) : joinV a b = if b.toList.isEmpty || (!a.toList.isEmpty && ltB (sX b) (sY b) (sZ b) (sX a) (sY a) (sZ a)) then .tuple #[.string a, .int .i64 0] else .tuple #[.string b, .int .i64 0] := by simp [joinV, ha, hb]
theorem two_cells {w : World} {b : Nat} {x y z x' y' z' : Int} (h : w.heap[b]? = some (twoO x y z x' y' z')) :
    w.cell? ⟨b, 0, none⟩ = some (.int .u64 x) ∧ w.cell? ⟨b, 1, none⟩ = some (.int .u32 y) ∧ w.cell? ⟨b, 2, none⟩ = some (.int .u32 z) ∧ w.cell? ⟨b, 3, none⟩ = some (.int .u64 x') ∧ w.cell? ⟨b, 4, none⟩ = some (.int .u32 y') ∧ w.cell? ⟨b, 5, none⟩ = some (.int .u32 z') := by
  simp [World.cell?, h, twoO]
theorem two_free {w : World} {b : Nat} {x y z x' y' z' : Int} (h : w.heap[b]? = some (twoO x y z x' y' z')) (k : Nat) : w.frozen? ⟨b, k, none⟩ = false := by
  simp [World.frozen?, h, twoO]
theorem two_set0 {w : World} {b : Nat} {x y z x' y' z' : Int} (h : w.heap[b]? = some (twoO x y z x' y' z')) (X Y Z : Int) :
    (((w.setCell ⟨b, 0, none⟩ (.int .u64 X)).setCell ⟨b, 1, none⟩ (.int .u32 Y)).setCell ⟨b, 2, none⟩ (.int .u32 Z)).heap[b]? = some (twoO X Y Z x' y' z') :=
  heap_set_same (heap_set_same (heap_set_same h 0 _) 1 _) 2 _
theorem two_set1 {w : World} {b : Nat} {x y z x' y' z' : Int} (h : w.heap[b]? = some (twoO x y z x' y' z')) (X Y Z : Int) :
    (((w.setCell ⟨b, 3, none⟩ (.int .u64 X)).setCell ⟨b, 4, none⟩ (.int .u32 Y)).setCell ⟨b, 5, none⟩ (.int .u32 Z)).heap[b]? = some (twoO x y z X Y Z) :=
  heap_set_same (heap_set_same (heap_set_same h 3 _) 4 _) 5 _

set_option maxHeartbeats 4000000 in
theorem join_any (a b : ByteArray) (w : World) (hL : Laid w) :
    Calls Tryd.prog 11 #[.string a, .string b] w fun e w' => e = .returned (joinV a b) ∧ Below w.heap.size w w' := by
  have i0 : ∀ w, (Instr.index 51 (.agg #[.string a, .string b]) (.int .i64 0)).run Tryd.prog w = .ok (.string a) w := fun w => by
    simp [Instr.index, run_underlying Tryd.underlying51, asIntOf, go_sem]
  have i1 : ∀ w, (Instr.index 51 (.agg #[.string a, .string b]) (.int .i64 1)).run Tryd.prog w = .ok (.string b) w := fun w => by
    simp [Instr.index, run_underlying Tryd.underlying51, asIntOf, go_sem]
  go_enter Tryd.func11, Tryd.ntmps11
  go_wp2_with fail
  go_loopw [14] (fun i wr => Hid (Below w.heap.size w wr) ∧ ((i = .int .i64 0 ∧ Hid (wr.heap[w.heap.size]? = some (twoO 0 0 0 0 0 0))) ∨ (i = .int .i64 1 ∧ Hid (badB a = false) ∧ Hid (wr.heap[w.heap.size]? = some (twoO (sX a) (sY a) (sZ a) 0 0 0))) ∨
    (i = .int .i64 2 ∧ Hid (badB a = false) ∧ Hid (badB b = false) ∧ Hid (wr.heap[w.heap.size]? = some (twoO (sX a) (sY a) (sZ a) (sX b) (sY b) (sZ b)))))) (fun i _ => 2 - (Lib.intOf i).toNat)
  case atStart => exact ⟨Lib.hid ((Below.refl _ w).alloc (Nat.le_refl _) _), Or.inl ⟨rfl, Lib.hid (heap_alloc_at w _)⟩⟩
  case round =>
    obtain ⟨HB, ⟨rfl, HS⟩ | ⟨rfl, HA, HS⟩ | ⟨rfl, HA, HA2, HS⟩⟩ := hrel
    · rcases kind a with h | ⟨h, hd⟩ | ⟨h, l, hd⟩
      · go_wp2_with fail
        obtain ⟨z0, z1, z2⟩ := s_none (dec_empty h)
        refine ⟨⟨HB, Or.inr (Or.inl ⟨rfl, Lib.hid (bad_empty h), Lib.hid ?_⟩)⟩, by decide⟩
        rw [z0, z1, z2]
        exact HS.out
      · go_wp2_with fail
        refine (decode_any a wr (hL.below HB.out)).mono ?_
        rintro e w2 ⟨rfl, hb2⟩
        rw [hd]
        have HB := Lib.hid (p := Below w.heap.size w w2) (HB.out.trans (hb2.mono HB.out.size))
        have HX := Lib.hid (bad_bad h hd)
        clear hb2 hd i0 i1
        rw [show decV none = .tuple #[.agg #[.int .u64 0, .int .u32 0, .int .u32 0], .int .i64 40] from rfl]
        go_wp2_with fail
        go_ret2
        exact ⟨by rw [join_bad1 HX.out]; rfl, HB.out.alloc HB.out.size _⟩
      · go_wp2_with fail
        refine (decode_any a wr (hL.below HB.out)).mono ?_
        rintro e w2 ⟨rfl, hb2⟩
        rw [s_some hd]
        have HS := Lib.hid (heap_alloc_old (below_heap hb2 HS.out (lt_of_heap HS.out)) (stO (sX a) (sY a) (sZ a)))
        have HB := Lib.hid (p := Below w.heap.size w w2) (HB.out.trans (hb2.mono HB.out.size))
        have HB := Lib.hid (HB.out.alloc HB.out.size (stO (sX a) (sY a) (sZ a)))
        have HG := Lib.hid (bad_good hd)
        clear hb2 hd i0 i1
        have h1 := HS.out
        obtain ⟨c0, c1, c2, c3, c4, c5⟩ := two_cells h1
        have f0 := two_free h1 0
        have f1 := two_free h1 1
        have f2 := two_free h1 2
        have h2 := heap_alloc_at w2 (stO (sX a) (sY a) (sZ a))
        obtain ⟨d0, d1, d2⟩ := st_cells h2
        clear h1 h2
        unfold stO at c0 c1 c2 c3 c4 c5 d0 d1 d2 f0 f1 f2
        go_wp2_with fail
        refine ⟨⟨Lib.hid (((HB.out.setCell (p := ⟨w.heap.size, 0, none⟩) (Nat.le_refl _) _).setCell (p := ⟨w.heap.size, 1, none⟩) (Nat.le_refl _) _).setCell (p := ⟨w.heap.size, 2, none⟩) (Nat.le_refl _) _), Or.inr (Or.inl ⟨rfl, HG, Lib.hid (two_set0 HS.out _ _ _)⟩)⟩, by decide⟩
    · rcases kind b with h | ⟨h, hd⟩ | ⟨h, l, hd⟩
      · go_wp2_with fail
        obtain ⟨z0, z1, z2⟩ := s_none (dec_empty h)
        refine ⟨⟨HB, Or.inr (Or.inr ⟨rfl, HA, Lib.hid (bad_empty h), Lib.hid ?_⟩)⟩, by decide⟩
        rw [z0, z1, z2]
        exact HS.out
      · go_wp2_with fail
        refine (decode_any b wr (hL.below HB.out)).mono ?_
        rintro e w2 ⟨rfl, hb2⟩
        rw [hd]
        have HB := Lib.hid (p := Below w.heap.size w w2) (HB.out.trans (hb2.mono HB.out.size))
        have HX := Lib.hid (bad_bad h hd)
        clear hb2 hd i0 i1
        rw [show decV none = .tuple #[.agg #[.int .u64 0, .int .u32 0, .int .u32 0], .int .i64 40] from rfl]
        go_wp2_with fail
        go_ret2
        exact ⟨by rw [join_bad2 HX.out]; rfl, HB.out.alloc HB.out.size _⟩
      · go_wp2_with fail
        refine (decode_any b wr (hL.below HB.out)).mono ?_
        rintro e w2 ⟨rfl, hb2⟩
        rw [s_some hd]
        have HS := Lib.hid (heap_alloc_old (below_heap hb2 HS.out (lt_of_heap HS.out)) (stO (sX b) (sY b) (sZ b)))
        have HB := Lib.hid (p := Below w.heap.size w w2) (HB.out.trans (hb2.mono HB.out.size))
        have HB := Lib.hid (HB.out.alloc HB.out.size (stO (sX b) (sY b) (sZ b)))
        have HG := Lib.hid (bad_good hd)
        clear hb2 hd i0 i1
        have h1 := HS.out
        obtain ⟨c0, c1, c2, c3, c4, c5⟩ := two_cells h1
        have f0 := two_free h1 3
        have f1 := two_free h1 4
        have f2 := two_free h1 5
        have h2 := heap_alloc_at w2 (stO (sX b) (sY b) (sZ b))
        obtain ⟨d0, d1, d2⟩ := st_cells h2
        clear h1 h2
        unfold stO at c0 c1 c2 c3 c4 c5 d0 d1 d2 f0 f1 f2
        go_wp2_with fail
        refine ⟨⟨Lib.hid (((HB.out.setCell (p := ⟨w.heap.size, 3, none⟩) (Nat.le_refl _) _).setCell (p := ⟨w.heap.size, 4, none⟩) (Nat.le_refl _) _).setCell (p := ⟨w.heap.size, 5, none⟩) (Nat.le_refl _) _), Or.inr (Or.inr ⟨rfl, HA, HG, Lib.hid (two_set1 HS.out _ _ _)⟩)⟩, by decide⟩
    · have HJ := Lib.hid (join_good HA.out HA2.out)
      clear i0 i1
      cases hb : b.toList.isEmpty with
      | true =>
        go_wp2_with fail
        go_ret2
        exact ⟨by rw [HJ.out, hb]; rfl, HB.out⟩
      | false =>
        cases ha : a.toList.isEmpty with
        | true =>
          go_wp2_with fail
          go_ret2
          exact ⟨by rw [HJ.out, hb, ha]; rfl, HB.out⟩
        | false =>
          have h1 := HS.out
          obtain ⟨c0, c1, c2, c3, c4, c5⟩ := two_cells h1
          clear h1
          go_wp2_with fail
          refine (less_any (sX b) (sY b) (sZ b) (sX a) (sY a) (sZ a) wr).mono ?_
          rintro e w2 ⟨rfl, hb2⟩
          have HB := Lib.hid (p := Below w.heap.size w w2) (HB.out.trans (hb2.mono HB.out.size))
          clear hb2 c0 c1 c2 c3 c4 c5
          cases hlt : ltB (sX b) (sY b) (sZ b) (sX a) (sY a) (sZ a) with
          | true =>
            go_wp2_with fail
            go_ret2
            exact ⟨by rw [HJ.out, hb, ha, hlt]; rfl, HB.out⟩
          | false =>
            go_wp2_with fail
            go_ret2
            exact ⟨by rw [HJ.out, hb, ha, hlt]; rfl, HB.out⟩
end Go.Proofs.YtdpgfjdndohcdaaDoor
