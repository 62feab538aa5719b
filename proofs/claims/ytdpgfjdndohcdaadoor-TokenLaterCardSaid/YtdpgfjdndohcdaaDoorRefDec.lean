/- tidemarkref4.Decode: what the document takes and refuses is what the program takes and refuses. -/
import Derived.Test.YtdpgfjdndohcdaaDoorRefEnc
import Derived.Test.YtdpgfjdndohcdaaDoorRefUnpack
namespace Go.Proofs.YtdpgfjdndohcdaaDoor
open Go.RowKit

/-- The byte that two digits stand for, and the first k of them. -/
def wB (s : ByteArray) (j : Nat) : UInt8 := UInt8.ofNat (worthN (bF s (2 * j)) * 16 + worthN (bF s (2 * j + 1)))
def wL (s : ByteArray) (k : Nat) : List UInt8 := (List.range k).map (wB s)
theorem wL_length (s : ByteArray) (k : Nat) : (wL s k).length = k := by simp [wL]
theorem wL_succ (s : ByteArray) (k : Nat) : wL s (k + 1) = wL s k ++ [wB s k] := by simp [wL, List.range_succ]
theorem worth_lt (b : Nat) : worthN b < 16 := by
  unfold worthN
  split
  · omega
  · split
    · omega
    · decide
theorem bF_get (s : ByteArray) (n : Nat) (h : n < s.size) : s[n].toNat = bF s n := by
  have : n < s.data.toList.length := by simpa using h
  rw [bF, List.getD_eq_getElem?_getD, List.getElem?_eq_getElem this]
  rfl

theorem worth_dg (i : Nat) (h : i < 16) : worthN (dg i).toNat = i := by
  have : ∀ j : Fin 16, worthN (dg j.val).toNat = j.val := by decide
  exact this ⟨i, h⟩
theorem hexL_get : ∀ (m : List UInt8) (j : Nat) (h : j < m.length), (hexL m).getD (2 * j) 0 = dg (m[j].toNat / 16) ∧ (hexL m).getD (2 * j + 1) 0 = dg (m[j].toNat % 16)
  | b :: m, 0, _ => ⟨rfl, rfl⟩
  | b :: m, j + 1, h => by
    have ih := hexL_get m j (by simpa using h)
    rw [show 2 * (j + 1) = 2 * j + 1 + 1 by omega, hexL]
    simpa using ih
/-- The digits of a token stand for its bytes. -/
theorem wL_hexL (s : ByteArray) (m : List UInt8) (hs : s.data.toList = hexL m) (hm : m.length = 20) : wL s 16 = m.take 16 := by
  apply List.ext_getElem
  · rw [wL_length, List.length_take]; omega
  · intro j h1 h2
    have hj : j < 16 := by rw [wL_length] at h1; exact h1
    have hg := hexL_get m j (by omega)
    have hb := m[j].toNat_lt
    have e : wB s j = m[j] := by
      unfold wB bF
      rw [hs, hg.1, hg.2, worth_dg _ (by omega), worth_dg _ (by omega), show m[j].toNat / 16 * 16 + m[j].toNat % 16 = m[j].toNat by omega]
      simp
    simp [wL, e]
theorem refdec_law (s : ByteArray) (t : ByteArray) (ht : ByteArray.mk (wL s 16).toArray = t) :
    (((encS (liftN (bF t) 0 8) (liftN (bF t) 8 4) (liftN (bF t) 12 4)).toList == s.toList) = true → decL s.data.toList = some t.data.toList) ∧
    (((encS (liftN (bF t) 0 8) (liftN (bF t) 8 4) (liftN (bF t) 12 4)).toList == s.toList) = false → decL s.data.toList = none) := by
  have hl := wL_length s 16
  have e : (encS (liftN (bF t) 0 8) (liftN (bF t) 8 4) (liftN (bF t) 12 4)).data.toList = hexL (wL s 16 ++ sumL (wL s 16)) := by
    rw [← ht]
    show hexL (packL (nX (wL s 16)) (nY (wL s 16)) (nZ (wL s 16)) ++ sumL (packL (nX (wL s 16)) (nY (wL s 16)) (nZ (wL s 16)))) = _
    rw [packL_of _ hl]
  rw [Go.ByteArray.toList_eq, Go.ByteArray.toList_eq, e]
  constructor
  · intro h
    rw [← eq_of_beq h, decL_hexL _ hl, ← ht]
  · intro h
    cases hd : decL s.data.toList with
    | none => rfl
    | some l =>
      exfalso
      obtain ⟨h16, h2⟩ := decL_some hd
      have hw := wL_hexL s (l ++ sumL l) h2 (by rw [List.length_append, h16, sumL_length])
      have hw2 : wL s 16 = l := by rw [hw, ← h16]; simp
      rw [hw2, ← h2] at h
      simp at h

set_option maxHeartbeats 4000000 in
theorem refdec_40 (s : ByteArray) (w : World) (hs : s.size = 40) :
    Calls Tryd.prog 15 #[.string s] w fun e w' => e = .returned (decV (decL s.data.toList)) ∧ Below w.heap.size w w' := by
  have hs' : (((s.size : Nat) : Int) != 40) = false := by simp; omega
  go_enter Tryd.func15, Tryd.ntmps15
  go_wp2_with fail
  go_loopw [4, 5] (fun t i wr => ∃ k : Nat, i = .int .i64 ((2 * k : Nat) : Int) ∧ k ≤ 16 ∧ Hid (Below w.heap.size w wr) ∧ Hid (wr.heap[w.heap.size]? = some (stO 0 0 0)) ∧ t = .string ⟨(wL s k).toArray⟩) (fun _ i _ => 32 - (Lib.intOf i).toNat)
  case atStart => exact ⟨0, rfl, Nat.zero_le _, Lib.hid ((Below.refl _ _).alloc (Nat.le_refl _) _), Lib.hid (zeroTo w), rfl⟩
  case round =>
    obtain ⟨k, rfl, hk, HB, HS, rfl⟩ := hrel
    obtain ⟨t, ht⟩ : ∃ t, ByteArray.mk (wL s k).toArray = t := ⟨_, rfl⟩
    have nt : t.size = k := by rw [← ht, mk_size, wL_length]
    rw [ht]
    have HT := Lib.hid ht
    clear ht
    obtain ⟨n, hn⟩ : ∃ n, n = 2 * k := ⟨_, rfl⟩
    rw [← hn]
    by_cases hlt : k < 16
    · have hn32 : n < 32 := by omega
      have HN := Lib.hid hn
      clear hn
      go_wp2_with fail
      refine wp_region_held (S := fun _ => True) (by kernel_rfl) ?_
      change wpAnyH _ _ _ _ _ _ _ _ wr.drew
      have HB := Lib.hid HB.out.drew
      have HS := Lib.hid (p := wr.drew.heap[w.heap.size]? = some (stO 0 0 0)) HS.out
      generalize wr.drew = w3 at *
      obtain ⟨n1, hn1⟩ : ∃ n1, n1 = n + 1 := ⟨_, rfl⟩
      have wn : IntKind.i64.wrap ((n : Int) + 1) = (n1 : Int) := by rw [IntKind.wrap_i64]; omega
      have hn133 : n1 < 33 := by omega
      have hns : n < s.size := by omega
      have hns1 : n1 < s.size := by omega
      obtain ⟨p, hp⟩ : ∃ p, s[n].toNat = p := ⟨_, rfl⟩
      obtain ⟨q, hq⟩ : ∃ q, s[n1].toNat = q := ⟨_, rfl⟩
      have hp256 : p < 256 := by rw [← hp]; exact s[n].toNat_lt
      have hq256 : q < 256 := by rw [← hq]; exact s[n1].toNat_lt
      obtain ⟨x, hwp⟩ : ∃ x, worthN p = x := ⟨_, rfl⟩
      obtain ⟨y, hwq⟩ : ∃ y, worthN q = y := ⟨_, rfl⟩
      have hx16 : x < 16 := by rw [← hwp]; exact worth_lt p
      have hy16 : y < 16 := by rw [← hwq]; exact worth_lt q
      obtain ⟨m, hm⟩ : ∃ m, m = x * 16 := ⟨_, rfl⟩
      obtain ⟨v, hv⟩ : ∃ v, v = m + y := ⟨_, rfl⟩
      have wm : IntKind.i64.wrap ((x : Int) * 16) = (m : Int) := by rw [IntKind.wrap_i64]; omega
      have wv : IntKind.i64.wrap ((m : Int) + (y : Int)) = (v : Int) := by rw [IntKind.wrap_i64]; omega
      have wu : IntKind.u8.wrap (v : Int) = (v : Int) := by rw [IntKind.wrap_u8]; omega
      have hv256 : v < 256 := by omega
      have HV := Lib.hid (show v = worthN (bF s n) * 16 + worthN (bF s (n + 1)) by rw [hv, hm, ← hwp, ← hwq, ← hp, ← hq, bF_get s n hns, bF_get s n1 hns1, hn1])
      clear hn1 hm hv
      refine held_take 0 (.string t) trivial rfl (fun _ _ _ h => h) (by kernel_rfl) (by kernel_rfl) (by kernel_rfl) rfl (fun w7 h7 => by go_simp) ?_
      simp only [Act.put, List.setIfInBounds_toArray, List.set_cons_zero, List.set_cons_succ, List.getElem_toArray, List.getElem_cons_zero]
      refine held_take 1 (.string s) trivial rfl (fun _ _ _ h => h) (by kernel_rfl) (by kernel_rfl) (by kernel_rfl) rfl (fun w7 h7 => by go_simp) ?_
      simp only [Act.put, List.setIfInBounds_toArray, List.set_cons_zero, List.set_cons_succ, List.getElem_toArray, List.getElem_cons_zero, List.getElem_cons_succ]
      refine held_take 2 (.int .i64 n) trivial rfl (fun _ _ _ h => h) (by kernel_rfl) (by kernel_rfl) (by kernel_rfl) rfl (fun w7 h7 => by go_simp) ?_
      simp only [Act.put, List.setIfInBounds_toArray, List.set_cons_zero, List.set_cons_succ, List.getElem_toArray, List.getElem_cons_zero, List.getElem_cons_succ]
      refine held_take 3 (.int .u8 p) trivial rfl (fun _ _ _ h => h) (by kernel_rfl) (by kernel_rfl) (by kernel_rfl) rfl (fun w7 h7 => by go_simp; intro hh; omega) ?_
      simp only [Act.put, List.setIfInBounds_toArray, List.set_cons_zero, List.set_cons_succ, List.getElem_toArray, List.getElem_cons_zero, List.getElem_cons_succ]
      refine held_take 6 (.string s) trivial rfl (fun _ _ _ h => h) (by kernel_rfl) (by kernel_rfl) (by kernel_rfl) rfl (fun w7 h7 => by go_simp) ?_
      simp only [Act.put, List.setIfInBounds_toArray, List.set_cons_zero, List.set_cons_succ, List.getElem_toArray, List.getElem_cons_zero, List.getElem_cons_succ]
      refine held_take 7 (.int .i64 n) trivial rfl (fun _ _ _ h => h) (by kernel_rfl) (by kernel_rfl) (by kernel_rfl) rfl (fun w7 h7 => by go_simp) ?_
      simp only [Act.put, List.setIfInBounds_toArray, List.set_cons_zero, List.set_cons_succ, List.getElem_toArray, List.getElem_cons_zero, List.getElem_cons_succ]
      refine held_take 8 (.int .i64 n1) trivial rfl (fun _ _ _ h => h) (by kernel_rfl) (by kernel_rfl) (by kernel_rfl) rfl (fun w7 h7 => by go_simp) ?_
      simp only [Act.put, List.setIfInBounds_toArray, List.set_cons_zero, List.set_cons_succ, List.getElem_toArray, List.getElem_cons_zero, List.getElem_cons_succ]
      refine held_take 9 (.int .u8 q) trivial rfl (fun _ _ _ h => h) (by kernel_rfl) (by kernel_rfl) (by kernel_rfl) rfl (fun w7 h7 => by go_simp; intro hh; omega) ?_
      simp only [Act.put, List.setIfInBounds_toArray, List.set_cons_zero, List.set_cons_succ, List.getElem_toArray, List.getElem_cons_zero, List.getElem_cons_succ]
      refine held_call 4 (f := 26) (args := #[.int .u8 p]) rfl (by kernel_rfl) rfl (by go_simp) ?_
      refine (worth_any p _ hp256).mono ?_
      rintro e wk ⟨rfl, hw⟩
      subst wk
      rw [hwp]
      refine ⟨_, rfl, trivial, ?_⟩
      simp only [Act.put, List.setIfInBounds_toArray, List.set_cons_zero, List.set_cons_succ, List.getElem_toArray, List.getElem_cons_zero, List.getElem_cons_succ]
      refine held_take 5 (.int .i64 m) trivial rfl (fun _ _ _ h => h) (by kernel_rfl) (by kernel_rfl) (by kernel_rfl) rfl (fun w7 h7 => by go_simp) ?_
      simp only [Act.put, List.setIfInBounds_toArray, List.set_cons_zero, List.set_cons_succ, List.getElem_toArray, List.getElem_cons_zero, List.getElem_cons_succ]
      refine held_call 10 (f := 26) (args := #[.int .u8 q]) rfl (by kernel_rfl) rfl (by go_simp) ?_
      refine (worth_any q _ hq256).mono ?_
      rintro e wk ⟨rfl, hw⟩
      subst wk
      rw [hwq]
      refine ⟨_, rfl, trivial, ?_⟩
      simp only [Act.put, List.setIfInBounds_toArray, List.set_cons_zero, List.set_cons_succ, List.getElem_toArray, List.getElem_cons_zero, List.getElem_cons_succ]
      refine held_take 11 (.int .i64 v) trivial rfl (fun _ _ _ h => h) (by kernel_rfl) (by kernel_rfl) (by kernel_rfl) rfl (fun w7 h7 => by go_simp) ?_
      simp only [Act.put, List.setIfInBounds_toArray, List.set_cons_zero, List.set_cons_succ, List.getElem_toArray, List.getElem_cons_zero, List.getElem_cons_succ]
      refine held_take 12 (.int .u8 v) trivial rfl (fun _ _ _ h => h) (by kernel_rfl) (by kernel_rfl) (by kernel_rfl) rfl (fun w7 h7 => by go_simp) ?_
      simp only [Act.put, List.setIfInBounds_toArray, List.set_cons_zero, List.set_cons_succ, List.getElem_toArray, List.getElem_cons_zero, List.getElem_cons_succ]
      refine held_value 13 (.slice (some ⟨w3.heap.size, 0, none⟩) 1 1) (w3.alloc (.cells #[.int .u8 (v : Nat)] 5)) rfl (by kernel_rfl) rfl (by go_simp) trivial ?_
      simp only [Act.put, List.setIfInBounds_toArray, List.set_cons_zero, List.set_cons_succ, List.getElem_toArray, List.getElem_cons_zero, List.getElem_cons_succ]
      have hconv : (convert 32 9 (.slice (some ⟨w3.heap.size, 0, none⟩) 1 1)).run Tryd.prog (w3.alloc (.cells #[.int .u8 (v : Nat)] 5)) = _ := run_convert_bytes_back (P := Tryd.prog) (w3.alloc (.cells #[.int .u8 (v : Nat)] 5)) 32 9 5 ⟨w3.heap.size, 0, none⟩ 1 [UInt8.ofNat v] Tryd.underlying32 Tryd.underlying5 Tryd.underlying9 (fun j hj => by
        obtain rfl : j = 0 := by simpa using hj
        have hc := Lib.cell_of_heap (heap_alloc_at w3 (.cells #[.int .u8 (v : Nat)] 5))
        rw [show (Addr.add ⟨w3.heap.size, 0, none⟩ 0) = ⟨w3.heap.size, 0, none⟩ from rfl, hc]
        simp
        omega)
      have HB2 := Lib.hid (HB.out.alloc HB.out.size (.cells #[.int .u8 (v : Nat)] 5))
      have HS2 := Lib.hid (heap_alloc_old HS.out (.cells #[.int .u8 (v : Nat)] 5))
      generalize w3.alloc (.cells #[.int .u8 (v : Nat)] 5) = w8 at *
      refine held_value 14 (.string ⟨[UInt8.ofNat v].toArray⟩) (w8) rfl (by kernel_rfl) rfl (run_op_convert 32 9 (.tmp 30) rfl hconv) trivial ?_
      simp only [Act.put, List.setIfInBounds_toArray, List.set_cons_zero, List.set_cons_succ, List.getElem_toArray, List.getElem_cons_zero, List.getElem_cons_succ]
      refine held_take 15 (.string (t ++ ⟨[UInt8.ofNat v].toArray⟩)) trivial rfl (fun _ _ _ h => h) (by kernel_rfl) (by kernel_rfl) (by kernel_rfl) rfl (fun w7 h7 => by go_simp; omega) ?_
      simp only [Act.put, List.setIfInBounds_toArray, List.set_cons_zero, List.set_cons_succ, List.getElem_toArray, List.getElem_cons_zero, List.getElem_cons_succ]
      refine held_take 16 (.string (t ++ ⟨[UInt8.ofNat v].toArray⟩)) trivial rfl (fun _ _ _ h => h) (by kernel_rfl) (by kernel_rfl) (by kernel_rfl) rfl (fun w7 h7 => by go_simp) ?_
      simp only [Act.put, List.setIfInBounds_toArray, List.set_cons_zero, List.set_cons_succ, List.getElem_toArray, List.getElem_cons_zero, List.getElem_cons_succ]
      refine wpAnyH_done (by kernel_rfl) ?_ _
      clear hconv wv wn wm wu hwp hwq
      go_wp2_with fail
      refine ⟨⟨k + 1, congrArg (Value.int .i64) (by have := HN.out; omega), by omega, HB2, HS2, ?_⟩, by simp [Lib.intOf]; omega⟩
      have hw : wB s k = UInt8.ofNat v := by unfold wB; rw [HV.out, HN.out]
      rw [wL_succ, hw, ← mk_append, HT.out]
    · obtain rfl : k = 16 := by omega
      subst hn
      have E2 : ∀ w, Calls Tryd.prog 14 #[.agg #[.int .u64 (liftN (bF t) 0 8 : Nat), .int .u32 (liftN (bF t) 8 4 : Nat), .int .u32 (liftN (bF t) 12 4 : Nat)]] w fun e w' => e = .returned (.string (encS (liftN (bF t) 0 8) (liftN (bF t) 8 4) (liftN (bF t) 12 4))) ∧ Below w.heap.size w w' := fun w =>
        refencode_any _ _ _ w (liftN_lt _ (bF_lt t) 0 8) (liftN_lt _ (bF_lt t) 8 4) (liftN_lt _ (bF_lt t) 12 4)
      have E2 := Lib.hid E2
      go_wp2_with fail
      refine (refunpack_any t wr nt).mono ?_
      rintro e w2 ⟨rfl, hb2⟩
      have HS := Lib.hid (heap_alloc_old (below_heap hb2 HS.out (lt_of_heap HS.out)) (stO (liftN (bF t) 0 8 : Nat) (liftN (bF t) 8 4 : Nat) (liftN (bF t) 12 4 : Nat)))
      have HB := Lib.hid (p := Below w.heap.size w w2) (HB.out.trans (hb2.mono HB.out.size))
      have HB := Lib.hid (HB.out.alloc HB.out.size (stO (liftN (bF t) 0 8 : Nat) (liftN (bF t) 8 4 : Nat) (liftN (bF t) 12 4 : Nat)))
      have HU := Lib.hid (heap_alloc_at w2 (stO (liftN (bF t) 0 8 : Nat) (liftN (bF t) 8 4 : Nat) (liftN (bF t) 12 4 : Nat)))
      clear hb2
      have h2 := HU.out
      obtain ⟨d0, d1, d2⟩ := st_cells h2
      clear h2
      unfold stO at d0 d1 d2
      go_wp2_with fail
      change Calls Tryd.prog 14 _ (w2.alloc (stO (liftN (bF t) 0 8 : Nat) (liftN (bF t) 8 4 : Nat) (liftN (bF t) 12 4 : Nat))) _
      clear d0 d1 d2
      generalize w2.heap.size = B2 at *
      generalize w2.alloc (stO (liftN (bF t) 0 8 : Nat) (liftN (bF t) 8 4 : Nat) (liftN (bF t) 12 4 : Nat)) = w3 at *
      refine (E2.out w3).mono ?_
      rintro e w4 ⟨rfl, hb4⟩
      have HS := Lib.hid (below_heap hb4 HS.out (lt_of_heap HS.out))
      have HU := Lib.hid (below_heap hb4 HU.out (lt_of_heap HU.out))
      have HB := Lib.hid (p := Below w.heap.size w w4) (HB.out.trans (hb4.mono HB.out.size))
      clear hb4 E2
      have HL := Lib.hid (refdec_law s t HT.out)
      have h1 := HS.out
      have h2 := HU.out
      obtain ⟨c0, c1, c2⟩ := st_cells h1
      obtain ⟨d0, d1, d2⟩ := st_cells h2
      have f0 := st_free h1 0
      have f1 := st_free h1 1
      have f2 := st_free h1 2
      clear h1 h2
      cases he : ((encS (liftN (bF t) 0 8) (liftN (bF t) 8 4) (liftN (bF t) 12 4)).toList == s.toList) with
      | true =>
        have HE := Lib.hid (HL.out.1 he)
        go_wp2_with fail
        exact end_st2 rfl rfl rfl (st_set3 HS.out _ _ _) rfl ⟨by rw [HE.out]; rfl, ((HB.out.setCell (Nat.le_refl _) _).setCell (Nat.le_refl _) _).setCell (Nat.le_refl _) _⟩
      | false =>
        have HE := Lib.hid (HL.out.2 he)
        go_wp2_with fail
        exact end_st2 rfl rfl rfl (st_set3 HS.out 0 0 0) rfl ⟨by rw [HE.out]; rfl, ((HB.out.setCell (Nat.le_refl _) _).setCell (Nat.le_refl _) _).setCell (Nat.le_refl _) _⟩

theorem refdec_any (s : ByteArray) (w : World) :
    Calls Tryd.prog 15 #[.string s] w fun e w' => e = .returned (decV (decL s.data.toList)) ∧ Below w.heap.size w w' := by
  by_cases hs : s.size = 40
  · exact refdec_40 s w hs
  · have hl : ¬ s.data.toList.length = 40 := by simpa using hs
    have hd : decL s.data.toList = none := by unfold decL; rw [if_neg hl]
    rw [hd]
    have hs' : (((s.size : Nat) : Int) != 40) = true := by simp; omega
    go_enter Tryd.func15, Tryd.ntmps15
    go_wp2_with fail
    exact end_st2 rfl rfl rfl (heap_alloc_at w (stO 0 0 0)) rfl ⟨rfl, (Below.refl _ w).alloc (Nat.le_refl _) _⟩
end Go.Proofs.YtdpgfjdndohcdaaDoor
