/- The law of TokenLater, walked. -/
import Derived.Test.YtdpgfjdndohcdaaDoorLaterLaw
import Derived.Test.YtdpgfjdndohcdaaDoorHeldMore
import Derived.Test.YtdpgfjdndohcdaaDoorApart
import Derived.Deep.AppendLies
namespace Go.Proofs.YtdpgfjdndohcdaaDoor
open Go.RowKit

theorem Tryd.info25 : (Tryd.prog.info? 25).map (fun i => (i.zero, i.size, i.bytes)) = some (some (.agg #[.int .u64 0, .int .u32 0, .int .u32 0]), 3, 16) := by kernel_rfl
/-- The list as it lies in memory. -/
def ListAt (w : World) (q : Option Addr) (n : Nat) (f : Nat → Tri) : Prop := ∀ k, k < n → ∃ b off, q = some ⟨b, off, none⟩ ∧ b < w.heap.size ∧
  w.cell? ⟨b, off + k * 3, none⟩ = some (.int .u64 (f k).x) ∧ w.cell? ⟨b, off + k * 3 + 1, none⟩ = some (.int .u32 (f k).y) ∧ w.cell? ⟨b, off + k * 3 + 2, none⟩ = some (.int .u32 (f k).z) ∧ (f k).fits
/-- The cells of the first k stamps. -/
def triCells (f : Nat → Tri) : Nat → List Value
  | 0 => []
  | k + 1 => triCells f k ++ [.int .u64 (f k).x, .int .u32 (f k).y, .int .u32 (f k).z]
theorem triCells_length (f : Nat → Tri) : ∀ k, (triCells f k).length = k * 3
  | 0 => rfl
  | k + 1 => by rw [triCells, List.length_append, triCells_length f k]; simp; omega
theorem triCells_at (f : Nat → Tri) : ∀ k j, j < k → (triCells f k)[j * 3]? = some (.int .u64 (f j).x) ∧ (triCells f k)[j * 3 + 1]? = some (.int .u32 (f j).y) ∧ (triCells f k)[j * 3 + 2]? = some (.int .u32 (f j).z)
  | k + 1, j, h => by
    have hl := triCells_length f k
    rw [triCells]
    by_cases hj : j = k
    · subst hj
      rw [List.getElem?_append_right (by omega), List.getElem?_append_right (by omega), List.getElem?_append_right (by omega), hl]
      simp
    · rw [List.getElem?_append_left (by omega), List.getElem?_append_left (by omega), List.getElem?_append_left (by omega)]
      exact triCells_at f k j (by omega)
theorem own_below {w w1 : World} {base : Nat} {e : TypeId} {size n : Nat} {v : Value} {xs : List Value} (ho : w.ownsRow base e size v n xs) (hg : Below w.heap.size w w1) : w1.ownsRow base e size v n xs := by
  refine ⟨ho.1, ?_⟩
  rcases ho.2 with h | ⟨g, cap, cur, hv, hb, hh, rest⟩
  · exact Or.inl h
  · exact Or.inr ⟨g, cap, cur, hv, hb, by rw [hg.block g (lt_of_heap hh)]; exact hh, rest⟩
theorem own_ge {w : World} {base : Nat} {e : TypeId} {size n : Nat} {v : Value} {xs : List Value} (ho : w.ownsRow base e size v n xs) : ∀ k, v.ownBlock = some k → base ≤ k := by
  intro k hk
  rcases ho.2 with ⟨h, _⟩ | ⟨g, cap, cur, hv, hb, _⟩
  · rw [h] at hk; cases hk
  · rw [hv] at hk; cases hk; exact hb
theorem add_nones (b off n : Nat) : (⟨b, off, none⟩ : Addr).add n = ⟨b, off + n, none⟩ := by
  unfold Addr.add
  split
  · subst_vars; rfl
  · rfl
theorem own_tri {w : World} {base g cap n : Nat} {f : Nat → Tri} (h : w.ownsRow base 25 3 (.slice (some ⟨g, 0, none⟩) n cap) n (triCells f n)) (k : Nat) (hk : k < n) :
    w.cell? ⟨g, 0 + k * 3, none⟩ = some (.int .u64 (f k).st.w) ∧ w.cell? ⟨g, 0 + k * 3 + 1, none⟩ = some (.int .u32 (f k).st.l) ∧ w.cell? ⟨g, 0 + k * 3 + 2, none⟩ = some (.int .u32 (f k).st.n) := by
  obtain ⟨h1, h2, h3⟩ := triCells_at f n k hk
  have hc : ∀ j u, (triCells f n)[j]? = some u → w.cell? ⟨g, j, none⟩ = some u := fun j u hu => by
    have := h.cells (g := g) rfl j u hu
    rwa [add_nones, Nat.zero_add] at this
  rw [Nat.zero_add]
  exact ⟨hc _ _ h1, hc _ _ h2, hc _ _ h3⟩

theorem own_lt {w : World} {base g cap k : Nat} {xs : List Value} (h : w.ownsRow base 25 3 (.slice (some ⟨g, 0, none⟩) (k + 1) cap) (k + 1) xs) : g < w.heap.size := by
  rcases h.2 with ⟨h, _⟩ | ⟨g', cap', cur, hv, hb, hh, _⟩
  · cases h
  · cases hv; exact lt_of_heap hh

set_option maxRecDepth 100000 in
set_option maxHeartbeats 8000000 in
theorem later_walk (q : Option Addr) (n cap : Nat) (f : Nat → Tri) (w : World) (hL : Laid w) (hq : ListAt w q n f) (hn : (n + 2) * 16 ≤ 140737488355328) :
    Calls Tryd.prog 4 #[.slice q n cap] w fun e w' => e = .returned (.bool true) ∧ Below w.heap.size w w' := by
  obtain ⟨i25, hi, hz, hz1, hz2⟩ := info_parts Tryd.info25
  have HQ := Lib.hid hq
  have HN := Lib.hid hn
  clear hq hn
  go_enter Tryd.func4, Tryd.ntmps4
  go_wp2_with fail
  go_loopw [3, 4, 5] (fun t sn i wr => ∃ k : Nat, k ≤ n ∧ i = .int .i64 k ∧ t = .string (allT f k) ∧ Hid (Below w.heap.size w wr) ∧ Hid (wr.ownsRow w.heap.size 25 3 sn k (triCells f k))) (fun _ _ i _ => n - (Lib.intOf i).toNat)
  case atStart => exact ⟨0, Nat.zero_le _, rfl, rfl, Lib.hid (Below.refl _ _), Lib.hid (World.ownsRow_nil _ _ _ _)⟩
  case round =>
    obtain ⟨k, hk, rfl, rfl, HB, HO⟩ := hrel
    by_cases hlt : k < n
    · obtain ⟨b, off, rfl, hbs, d0, d1, d2, hfit⟩ := HQ.out k hlt
      have HC := Lib.hid (And.intro hbs (And.intro d0 (And.intro d1 d2)))
      have HF := Lib.hid hfit
      rw [← HB.out.cell (by exact hbs)] at d0 d1 d2
      clear hbs hfit
      go_wp2_with fail
      refine (encode_any (f k).x (f k).y (f k).z wr (hL.below HB.out) HF.out.2.1 HF.out.2.2).mono ?_
      rintro e w2 ⟨rfl, hb2⟩
      have HO := Lib.hid (own_below HO.out hb2)
      have HB := Lib.hid (p := Below w.heap.size w w2) (HB.out.trans (hb2.mono HB.out.size))
      clear hb2 d0 d1 d2
      obtain ⟨hbs, d0, d1, d2⟩ := HC.out
      rw [← HB.out.cell (by exact hbs)] at d0 d1 d2
      have ht : encS (f k).x (f k).y (f k).z = (f k).enc := rfl
      rw [ht]
      clear hbs ht
      go_wp2_with (at_builtin; refine wpList_append_lies (P := Tryd.prog) _ rfl (.tmp 26) (.tmp 31) 34 rfl w.heap.size 25 i25 (.agg #[.int .u64 0, .int .u32 0, .int .u32 0]) 3 16 Tryd.underlying34 hi hz hz1 hz2 rfl (by decide) u4 k (triCells f k) rfl (HO.out.alloc _) ⟨w2.heap.size, 0, none⟩ 1 1 [.int .u64 (f k).x, .int .u32 (f k).y, .int .u32 (f k).z] rfl rfl (World.news_of_block (heap_alloc_at w2 _)) (by simp [Value.oneCell']) (by decide) (by have := HN.out; unfold maxLen; omega) (by have := HN.out; omega) (Nat.le_trans HB.out.size (by simp)) (w2.heap.size + 1) (by simp) ?_; intro g cp w3 hown hgrow hat hlt3; have HO3 := Lib.hid hown; have HB3 := Lib.hid (p := Below w.heap.size w w3) ((HB.out.alloc HB.out.size _).grown hgrow (Nat.le_trans HB.out.size (by simp)) (own_ge HO.out)); clear hown hgrow hat hlt3 d0 d1 d2)
      have hfit : ∀ j, j < k + 1 → (f j).fits := fun j hj => by
        obtain ⟨_, _, _, _, _, _, _, h⟩ := HQ.out j (by omega)
        exact h
      obtain ⟨M, hM⟩ : ∃ M, mxN f (k + 1) = M := ⟨_, rfl⟩
      have hall : allT f (k + 1) = M.enc := by rw [← hM]; rfl
      have J1 := Lib.hid (join_there hfit)
      have J2 := Lib.hid (join_back hfit)
      have J3 := Lib.hid (join_same HF.out)
      rw [hall] at J1 J2
      have hmf : M.fits := by rw [← hM]; exact mxN_fits _ hfit
      have D := Lib.hid (show ∀ w, Laid w → Calls Tryd.prog 10 #[.string M.enc] w fun e w' => e = .returned (.tuple #[.agg #[.int .u64 M.x, .int .u32 M.y, .int .u32 M.z], .int .i64 0]) ∧ Below w.heap.size w w' from fun w hL => dec_is M.x M.y M.z hmf.1 hmf.2.1 hmf.2.2 w hL)
      have E := Lib.hid (show ∀ w, Laid w → Calls Tryd.prog 9 #[.agg #[.int .u64 M.x, .int .u32 M.y, .int .u32 M.z]] w fun e w' => e = .returned (.string M.enc) ∧ Below w.heap.size w w' from fun w hL => encode_any M.x M.y M.z w hL hmf.2.1 hmf.2.2)
      have MX := Lib.hid (show ∀ v, v.ownsRow w.heap.size 25 3 (.slice (some ⟨g, 0, none⟩) (k + 1) cp) (k + 1) (triCells f (k + 1)) → Calls Tryd.prog 12 #[.slice (some ⟨g, 0, none⟩) (k + 1) cp] v fun e w' => e = .returned (.agg #[.int .u64 M.x, .int .u32 M.y, .int .u32 M.z]) ∧ Below v.heap.size v w' from fun v hv => by
        have h := max_any g 0 (k + 1) cp (fun j => (f j).st) v (by have := HN.out; omega) (fun j hj => own_tri hv j hj) (own_lt hv)
        rw [maxTo_mxN, hM] at h
        exact h)
      have HA := Lib.hid hall
      have n1 : (f k).enc.size = 40 := encS_size _ _ _
      clear hfit hM hall hmf
      have HO := Lib.hid (show w3.ownsRow w.heap.size 25 3 (.slice (some ⟨g, 0, none⟩) (k + 1) cp) (k + 1) (triCells f (k + 1)) from HO3.out)
      have HB := HB3
      clear HO3 HB3
      refine (join_any (allT f k) (f k).enc w3 (hL.below HB.out)).mono ?_
      rintro e w4 ⟨rfl, hb4⟩
      rw [J1.out]
      have HO := Lib.hid (own_below HO.out hb4)
      have HB := Lib.hid (p := Below w.heap.size w w4) (HB.out.trans (hb4.mono HB.out.size))
      clear hb4
      go_wp2_with fail
      refine (join_any (f k).enc (allT f k) w4 (hL.below HB.out)).mono ?_
      rintro e w5 ⟨rfl, hb5⟩
      rw [J2.out]
      have HO := Lib.hid (own_below HO.out hb5)
      have HB := Lib.hid (p := Below w.heap.size w w5) (HB.out.trans (hb5.mono HB.out.size))
      clear hb5
      go_wp2_with fail
      refine (join_any (f k).enc (f k).enc w5 (hL.below HB.out)).mono ?_
      rintro e w6 ⟨rfl, hb6⟩
      rw [J3.out]
      have HO := Lib.hid (own_below HO.out hb6)
      have HB := Lib.hid (p := Below w.heap.size w w6) (HB.out.trans (hb6.mono HB.out.size))
      clear hb6
      go_wp2_with fail
      refine (MX.out w6 HO.out).mono ?_
      rintro e w7 ⟨rfl, hb7⟩
      have HO := Lib.hid (own_below HO.out hb7)
      have HB := Lib.hid (p := Below w.heap.size w w7) (HB.out.trans (hb7.mono HB.out.size))
      clear hb7
      go_wp2_with fail
      refine (E.out w7 (hL.below HB.out)).mono ?_
      rintro e w8 ⟨rfl, hb8⟩
      have HO := Lib.hid (own_below HO.out hb8)
      have HB := Lib.hid (p := Below w.heap.size w w8) (HB.out.trans (hb8.mono HB.out.size))
      clear hb8
      go_wp2_with fail
      refine (D.out w8 (hL.below HB.out)).mono ?_
      rintro e w9 ⟨rfl, hb9⟩
      have HO := Lib.hid (own_below HO.out hb9)
      have HB := Lib.hid (p := Below w.heap.size w w9) (HB.out.trans (hb9.mono HB.out.size))
      clear hb9
      go_wp2_with fail
      refine wp_region_held (S := fun w' => w'.heap[w9.heap.size]? = some (stO M.x M.y M.z)) (by kernel_rfl) ?_
      change wpAnyH _ _ _ _ _ _ _ _ (w9.alloc (stO M.x M.y M.z)).drew
      have HS := Lib.hid (p := (w9.alloc (stO M.x M.y M.z)).drew.heap[w9.heap.size]? = some (stO M.x M.y M.z)) (heap_alloc_at w9 _)
      have HO := Lib.hid (p := (w9.alloc (stO M.x M.y M.z)).drew.ownsRow w.heap.size 25 3 (.slice (some ⟨g, 0, none⟩) (k + 1) cp) (k + 1) (triCells f (k + 1))) (HO.out.alloc _)
      have HB := Lib.hid (p := Below w.heap.size w (w9.alloc (stO M.x M.y M.z)).drew) (HB.out.alloc HB.out.size _).drew
      generalize (w9.alloc (stO M.x M.y M.z)).drew = w11 at *
      have MX := MX.out
      refine held_take 0 (.int .i64 0) HS.out rfl (fun _ _ _ h => h) (by kernel_rfl) (by kernel_rfl) (by kernel_rfl) rfl (fun w7 h7 => by go_simp) ?_
      simp only [Act.put, List.setIfInBounds_toArray, List.set_cons_zero, List.set_cons_succ, List.getElem_toArray, List.getElem_cons_zero]
      refine held_take 1 (.bool false) HS.out rfl (fun _ _ _ h => h) (by kernel_rfl) (by kernel_rfl) (by kernel_rfl) rfl (fun w7 h7 => by go_simp) ?_
      simp only [Act.put, List.setIfInBounds_toArray, List.set_cons_zero, List.set_cons_succ, List.getElem_toArray, List.getElem_cons_zero, List.getElem_cons_succ]
      refine held_take 2 (.bool false) HS.out rfl (fun _ _ _ h => h) (by kernel_rfl) (by kernel_rfl) (by kernel_rfl) rfl (fun w7 h7 => by go_simp) ?_
      simp only [Act.put, List.setIfInBounds_toArray, List.set_cons_zero, List.set_cons_succ, List.getElem_toArray, List.getElem_cons_zero, List.getElem_cons_succ]
      refine held_want 3 (.agg #[.int .u64 M.x, .int .u32 M.y, .int .u32 M.z]) HS.out rfl (fun _ _ _ h => h) (by kernel_rfl) (by kernel_rfl) (by kernel_rfl) rfl (fun w7 h7 => by obtain ⟨q0, q1, q2⟩ := st_cells h7; go_simp) ?_
      simp only [Act.put, List.setIfInBounds_toArray, List.set_cons_zero, List.set_cons_succ, List.getElem_toArray, List.getElem_cons_zero, List.getElem_cons_succ]
      refine held_want 4 (.slice (some ⟨g, 0, none⟩) (k + 1) cp) HS.out rfl (fun _ _ _ h => h) (by kernel_rfl) (by kernel_rfl) (by kernel_rfl) rfl (fun w7 h7 => by go_simp) ?_
      simp only [Act.put, List.setIfInBounds_toArray, List.set_cons_zero, List.set_cons_succ, List.getElem_toArray, List.getElem_cons_zero, List.getElem_cons_succ]
      refine held_call 5 (f := 12) (args := #[.slice (some ⟨g, 0, none⟩) (k + 1) cp]) rfl (by kernel_rfl) rfl (by go_simp) ?_
      refine (MX _ HO.out).mono ?_
      rintro e w10 ⟨rfl, hb10⟩
      have HO := Lib.hid (own_below HO.out hb10)
      have HS := Lib.hid (below_heap hb10 HS.out (lt_of_heap HS.out))
      have HB := Lib.hid (p := Below w.heap.size w w10) (HB.out.trans (hb10.mono HB.out.size))
      clear hb10
      refine ⟨_, rfl, HS.out, ?_⟩
      simp only [Act.put, List.setIfInBounds_toArray, List.set_cons_zero, List.set_cons_succ, List.getElem_toArray, List.getElem_cons_zero, List.getElem_cons_succ]
      refine held_want 6 (.bool false) HS.out rfl (fun _ _ _ h => h) (by kernel_rfl) (by kernel_rfl) (by kernel_rfl) rfl (fun w7 h7 => by go_simp) ?_
      simp only [Act.put, List.setIfInBounds_toArray, List.set_cons_zero, List.set_cons_succ, List.getElem_toArray, List.getElem_cons_zero, List.getElem_cons_succ]
      refine held_take 7 (.bool false) HS.out rfl (fun _ _ _ h => h) (by kernel_rfl) (by kernel_rfl) (by kernel_rfl) rfl (fun w7 h7 => by go_simp) ?_
      simp only [Act.put, List.setIfInBounds_toArray, List.set_cons_zero, List.set_cons_succ, List.getElem_toArray, List.getElem_cons_zero, List.getElem_cons_succ]
      refine wpAnyH_done (by kernel_rfl) ?_ _
      have hn63 : n ≤ 1000000000000000000 := by have := HN.out; omega
      clear n1
      go_wp2_with fail
      refine ⟨⟨k + 1, by omega, by go_num, by rw [HA.out], HB, HO⟩, by simp [Lib.intOf]; omega⟩
    · obtain rfl : k = n := by omega
      go_wp2_with fail
      go_ret
      exact ⟨rfl, HB.out⟩
end Go.Proofs.YtdpgfjdndohcdaaDoor
