/- tidemarkref4.Join: the document's join of two texts is the program's. -/
import Derived.Test.YtdpgfjdndohcdaaDoorRefLess
import Derived.Test.YtdpgfjdndohcdaaDoorRefDec
import Derived.Test.YtdpgfjdndohcdaaDoorJoin
namespace Go.Proofs.YtdpgfjdndohcdaaDoor
open Go.RowKit

def eN (t : ByteArray) : Int := (decL t.data.toList).elim 40 fun _ => 0
theorem decV_is (t : ByteArray) : decV (decL t.data.toList) = .tuple #[.agg #[.int .u64 (sX t), .int .u32 (sY t), .int .u32 (sZ t)], .int .i64 (eN t)] := by
  cases hd : decL t.data.toList with
  | none => simp [sX, sY, sZ, eN, hd, decV, noV]
  | some l => rw [decV_some]; simp [sX, sY, sZ, eN, hd]
theorem eN_none {t : ByteArray} (h : decL t.data.toList = none) : eN t = 40 := by simp [eN, h]
theorem eN_some {t : ByteArray} {l : List UInt8} (h : decL t.data.toList = some l) : eN t = 0 := by simp [eN, h]
theorem empty_is {t : ByteArray} (h : t.toList.isEmpty = true) : t = ⟨#[]⟩ := by
  apply ByteArray.ext
  apply Array.ext'
  simpa using nil_of_empty h
theorem bytes_of {s : ByteArray} {l : List UInt8} (h : decL s.data.toList = some l) : s = encS (sX s) (sY s) (sZ s) := by
  obtain ⟨h16, h2⟩ := decL_some h
  have e1 : sX s = nX l := by simp [sX, h]
  have e2 : sY s = nY l := by simp [sY, h]
  have e3 : sZ s = nZ l := by simp [sZ, h]
  rw [e1, e2, e3]
  apply ByteArray.ext
  apply Array.ext'
  show _ = hexL (rawL (nX l) (nY l) (nZ l))
  unfold rawL
  rw [packL_of l h16, h2]
/-- Of two texts that are taken, neither before the other: they are the same. -/
theorem not_lt_same {a b : ByteArray} {l m : List UInt8} (ha : decL a.data.toList = some l) (hb : decL b.data.toList = some m)
    (h1 : ltB (sX a) (sY a) (sZ a) (sX b) (sY b) (sZ b) = false) (h2 : ltB (sX b) (sY b) (sZ b) (sX a) (sY a) (sZ a) = false) : a = b := by
  have e : sX a = sX b ∧ sY a = sY b ∧ sZ a = sZ b := by
    rcases Int.lt_trichotomy (sX a : Int) (sX b) with h | h | h
    · rw [ltB_lt h] at h1; cases h1
    · have hx : sX a = sX b := by omega
      rw [hx] at h1 h2
      rcases Int.lt_trichotomy (sY a : Int) (sY b) with h | h | h
      · rw [ltB_elt h] at h1; cases h1
      · have hy : sY a = sY b := by omega
        rw [hy, ltB_ee] at h1 h2
        simp at h1 h2
        exact ⟨hx, hy, by omega⟩
      · rw [ltB_elt h] at h2; cases h2
    · rw [ltB_lt h] at h2; cases h2
  rw [bytes_of ha, bytes_of hb, e.1, e.2.1, e.2.2]
theorem lt_asym {a0 a1 a2 b0 b1 b2 : Int} (h : ltB a0 a1 a2 b0 b1 b2 = true) : ltB b0 b1 b2 a0 a1 a2 = false := by
  rcases Int.lt_trichotomy a0 b0 with k | rfl | k
  · exact ltB_gt k
  · rcases Int.lt_trichotomy a1 b1 with k | rfl | k
    · exact ltB_egt k
    · rw [ltB_ee] at h ⊢
      simp at h ⊢
      omega
    · rw [ltB_egt k] at h; cases h
  · rw [ltB_gt k] at h; cases h

set_option maxHeartbeats 4000000 in
theorem refjoin_any (a b : ByteArray) (w : World) :
    Calls Tryd.prog 13 #[.string a, .string b] w fun e w' => e = .returned (joinV a b) ∧ Below w.heap.size w w' := by
  have R := Lib.hid refdec_any
  go_enter Tryd.func13, Tryd.ntmps13
  go_wp2_with fail
  refine (R.out a w).mono ?_
  rintro e w2 ⟨rfl, hb2⟩
  rw [decV_is]
  have HB := Lib.hid (hb2.alloc hb2.size (stO (sX a) (sY a) (sZ a)))
  have HS := Lib.hid (heap_alloc_at w2 (stO (sX a) (sY a) (sZ a)))
  clear hb2
  go_wp2_with fail
  change Calls Tryd.prog 15 _ (w2.alloc (stO (sX a) (sY a) (sZ a))) _
  generalize w2.heap.size = B2 at *
  generalize w2.alloc (stO (sX a) (sY a) (sZ a)) = w3 at *
  refine (R.out b w3).mono ?_
  rintro e w4 ⟨rfl, hb4⟩
  rw [decV_is]
  have HS := Lib.hid (heap_alloc_old (below_heap hb4 HS.out (lt_of_heap HS.out)) (stO (sX b) (sY b) (sZ b)))
  have HB := Lib.hid (p := Below w.heap.size w w4) (HB.out.trans (hb4.mono HB.out.size))
  have HB := Lib.hid (HB.out.alloc HB.out.size (stO (sX b) (sY b) (sZ b)))
  clear hb4 R
  have h1 := HS.out
  have h2 := heap_alloc_at w4 (stO (sX b) (sY b) (sZ b))
  obtain ⟨c0, c1, c2⟩ := st_cells h1
  obtain ⟨d0, d1, d2⟩ := st_cells h2
  clear h1 h2
  unfold stO at c0 c1 c2 d0 d1 d2
  rcases kind a with ha | ⟨ha, hda⟩ | ⟨ha, l, hda⟩
  · have ea := eN_none (dec_empty ha)
    rcases kind b with hb | ⟨hb, hdb⟩ | ⟨hb, m, hdb⟩
    · have eb := eN_none (dec_empty hb)
      have HJ := Lib.hid (join_good (bad_empty ha) (bad_empty hb))
      have HE := Lib.hid ((empty_is ha).trans (empty_is hb).symm)
      go_wp2_with fail
      go_ret2
      exact ⟨by rw [HJ.out, hb, HE.out]; rfl, HB.out⟩
    · have eb := eN_none hdb
      have HJ := Lib.hid (join_bad2 (a := a) (bad_bad hb hdb))
      clear hdb
      go_wp2_with fail
      go_ret2
      exact ⟨by rw [HJ.out]; rfl, HB.out⟩
    · have eb := eN_some hdb
      have HJ := Lib.hid (join_good (bad_empty ha) (bad_good hdb))
      clear hdb
      go_wp2_with fail
      go_ret2
      exact ⟨by rw [HJ.out, hb, ha]; rfl, HB.out⟩
  · have ea := eN_none hda
    have HJ := Lib.hid (join_bad1 (b := b) (bad_bad ha hda))
    clear hda
    go_wp2_with fail
    go_ret2
    exact ⟨by rw [HJ.out]; rfl, HB.out⟩
  · have ea := eN_some hda
    rcases kind b with hb | ⟨hb, hdb⟩ | ⟨hb, m, hdb⟩
    · have eb := eN_none (dec_empty hb)
      have HJ := Lib.hid (join_good (bad_good hda) (bad_empty hb))
      clear hda
      go_wp2_with fail
      go_ret2
      exact ⟨by rw [HJ.out, hb]; rfl, HB.out⟩
    · have eb := eN_none hdb
      have HJ := Lib.hid (join_bad2 (a := a) (bad_bad hb hdb))
      clear hdb hda
      go_wp2_with fail
      go_ret2
      exact ⟨by rw [HJ.out]; rfl, HB.out⟩
    · have eb := eN_some hdb
      have HJ := Lib.hid (join_good (bad_good hda) (bad_good hdb))
      have HN := Lib.hid (not_lt_same hda hdb)
      clear hdb hda
      go_wp2_with fail
      refine (refless_any (sX a) (sY a) (sZ a) (sX b) (sY b) (sZ b) _).mono ?_
      rintro e w5 ⟨rfl, hb5⟩
      have HB := Lib.hid (p := Below w.heap.size w w5) (HB.out.trans (hb5.mono HB.out.size))
      clear hb5 c0 c1 c2 d0 d1 d2
      cases hlt : ltB (sX a) (sY a) (sZ a) (sX b) (sY b) (sZ b) with
      | true =>
        have H2 := Lib.hid (lt_asym hlt)
        go_wp2_with fail
        go_ret2
        exact ⟨by rw [HJ.out, hb, ha, H2.out]; rfl, HB.out⟩
      | false =>
        cases hgt : ltB (sX b) (sY b) (sZ b) (sX a) (sY a) (sZ a) with
        | true =>
          go_wp2_with fail
          go_ret2
          exact ⟨by rw [HJ.out, hb, ha, hgt]; rfl, HB.out⟩
        | false =>
          have HE := Lib.hid (HN.out hlt hgt)
          go_wp2_with fail
          go_ret2
          exact ⟨by rw [HJ.out, hb, ha, hgt, HE.out]; rfl, HB.out⟩
end Go.Proofs.YtdpgfjdndohcdaaDoor
