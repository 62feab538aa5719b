/- The document's clock: Last and Ceiling: the walks. -/
import Derived.Test.YtlgkolmlcbfppaaRef
namespace Go.Proofs.Ytlgkolmlcbfppaa
open Go.RowKit

def stAt (S : List St) (k : Nat) : St := S.getD k ⟨0, 0, 0⟩
def intAt (L : List Int) (k : Nat) : Int := L.getD k 0
theorem stCells_at (S : List St) : ∀ k, k < S.length → (stCells S)[k * 3]? = some (.int .u64 (stAt S k).w) ∧ (stCells S)[k * 3 + 1]? = some (.int .u32 (stAt S k).l) ∧ (stCells S)[k * 3 + 2]? = some (.int .u32 (stAt S k).n) := by
  induction S with
  | nil => intro k hk; cases hk
  | cons a t ih =>
    intro k hk
    have e : stCells (a :: t) = [.int .u64 a.w, .int .u32 a.l, .int .u32 a.n] ++ stCells t := rfl
    match k, hk with
    | 0, _ => exact ⟨rfl, rfl, rfl⟩
    | j + 1, hk =>
      obtain ⟨h1, h2, h3⟩ := ih j (by simpa using hk)
      have e1 : stAt (a :: t) (j + 1) = stAt t j := rfl
      rw [e, e1]
      refine ⟨?_, ?_, ?_⟩
      · rw [List.getElem?_append_right (by simp; omega)]; exact (congrArg (fun i => (stCells t)[i]?) (by simp; omega)).trans h1
      · rw [List.getElem?_append_right (by simp; omega)]; exact (congrArg (fun i => (stCells t)[i]?) (by simp; omega)).trans h2
      · rw [List.getElem?_append_right (by simp; omega)]; exact (congrArg (fun i => (stCells t)[i]?) (by simp; omega)).trans h3
theorem add_none (b off n : Nat) : (⟨b, off, none⟩ : Addr).add n = ⟨b, off + n, none⟩ := by
  unfold Addr.add
  split
  · subst_vars; rfl
  · rfl
theorem own_st {w : World} {g cap : Nat} {S : List St} (h : w.ownsRow 0 31 3 (sl g S.length cap) S.length (stCells S)) (k : Nat) (hk : k < S.length) :
    w.cell? ⟨g, k * 3, none⟩ = some (.int .u64 (stAt S k).w) ∧ w.cell? ⟨g, k * 3 + 1, none⟩ = some (.int .u32 (stAt S k).l) ∧ w.cell? ⟨g, k * 3 + 2, none⟩ = some (.int .u32 (stAt S k).n) := by
  obtain ⟨h1, h2, h3⟩ := stCells_at S k hk
  have hc : ∀ j u, (stCells S)[j]? = some u → w.cell? ⟨g, j, none⟩ = some u := fun j u hu => by
    have := h.cells (g := g) rfl j u hu
    rwa [add_none, Nat.zero_add] at this
  exact ⟨hc _ _ h1, hc _ _ h2, hc _ _ h3⟩
theorem own_int {w : World} {g cap : Nat} {L : List Int} (h : w.ownsRow 0 24 1 (sl g L.length cap) L.length (intCells L)) (k : Nat) (hk : k < L.length) :
    w.cell? ⟨g, k, none⟩ = some (.int .u64 (intAt L k)) := by
  have := h.cells (g := g) rfl k (.int .u64 (intAt L k)) (by simp [intCells, intAt, hk])
  rwa [add_none, Nat.zero_add] at this

def DLastRel (w : World) (f : Nat → St) (n : Nat) (i : Value) (wr : World) : Prop :=
  ∃ k : Nat, k ≤ n ∧ i = .int .i64 k ∧ Below w.heap.size w wr ∧ w.heap.size + 1 < wr.heap.size ∧ wr.heap[w.heap.size]? = some (stO 0 0 0) ∧ wr.heap[w.heap.size + 1]? = some (stO (maxTo f k).w (maxTo f k).l (maxTo f k).n)

set_option maxRecDepth 100000 in
set_option maxHeartbeats 4000000 in
theorem dlast_any (db rg sg lg : Nat) (node win : Int) (R : List Int) (S : List St) (L : List Int) (w : World) (hd : DAt w db rg sg lg node win R S L) (hlen : S.length * 16 ≤ 140737488355328) :
    Calls Try.prog 50 #[.pointer (some ⟨db, 0, none⟩)] w fun e w' => e = .returned (.agg #[.int .u64 (maxTo (stAt S) S.length).w, .int .u32 (maxTo (stAt S) S.length).l, .int .u32 (maxTo (stAt S) S.length).n]) ∧ Below w.heap.size w w' := by
  obtain ⟨⟨rc, sc, lc, hb, hr, hs, hl⟩, ha, hle⟩ := hd
  have HB := Lib.hid hb
  have HS := Lib.hid hs
  have hdl := hle.2.2.2
  have hsl := hle.2.1
  have hn : (S.length : Int) ≤ 9223372036854775807 := by omega
  clear hb hr hs hl hlen ha hle
  go_enter Try.func50, Try.ntmps50
  go_wp2_with fail
  go_loopw [4] (DLastRel w (stAt S) S.length) (fun i _ => S.length - (intOf i).toNat)
  case atStart => exact ⟨0, Nat.zero_le _, rfl, ((Below.refl _ _).alloc (Nat.le_refl _) _).alloc (by simp) _, by simp, heap_alloc_old (heap_alloc_at _ _) _, heap_alloc_eq2 w (stO 0 0 0) (stO 0 0 0)⟩
  case round =>
    obtain ⟨k, hk, rfl, hB, hs, hz, hm⟩ := hrel
    have hb' := Lib.hid (below_heap hB HB.out hdl)
    obtain ⟨c0, c1, c2, c3, c4⟩ := ref_cells hb'.out
    unfold sl at c3
    obtain ⟨m0, m1, m2⟩ := st_cells hm
    have HB2 := Lib.hid hB
    have HZ := Lib.hid hz
    have HM := Lib.hid hm
    clear c0 c1 c2 c4 hz hm
    by_cases hlt : k < S.length
    · obtain ⟨d0, d1, d2⟩ := own_st HS.out k hlt
      rw [← hB.cell (by simpa using hsl)] at d0 d1 d2
      have hk0 : (0 : Int) ≤ (k : Int) := by omega
      have hk1 : (k : Int) < (S.length : Int) := by omega
      clear hB
      go_wp2_with fail
      go_region_with ((go_at_call 18; refine (after_any _ _ _ _ _ _ _).mono ?_; rintro e w1 ⟨rfl, hb1⟩; have hm1 := Lib.hid (below_heap hb1 (heap_drew HM.out) hs); have hz1 := Lib.hid (below_heap hb1 (heap_drew HZ.out) (Nat.lt_of_succ_lt hs)); have hB1 := Lib.hid (HB2.out.drew.trans (hb1.mono HB2.out.size)); have hsz1 : wr.heap.size ≤ w1.heap.size := hb1.size; clear hb1))
      all_goals
        clear c3 d0 d1 d2 m0 m1 m2
        have hs1 : w.heap.size + 1 < w1.heap.size := by omega
        have hb1' := Lib.hid (below_heap hB1.out HB.out hdl)
        obtain ⟨c0, c1, c2, c3, c4⟩ := ref_cells hb1'.out
        unfold sl at c3
        obtain ⟨d0, d1, d2⟩ := own_st HS.out k hlt
        rw [← hB1.out.cell (by simpa using hsl)] at d0 d1 d2
        have mf := st_free hm1.out
        obtain ⟨m0, m1, m2⟩ := st_cells hm1.out
        clear c0 c1 c2 c4
        by_cases hL : ltB (maxTo (stAt S) k).w (maxTo (stAt S) k).l (maxTo (stAt S) k).n (stAt S k).w (stAt S k).l (stAt S k).n = true
        · have HL := Lib.hid hL
          go_wp2_with fail
          · exact ⟨⟨k + 1, by omega, by go_num, below_st3 hB1.out (by omega) _ _ _, by simpa using hs1, heap_st3 hz1.out (by omega) _ _ _, by rw [maxTo_yes HL.out]; exact st_set3 hm1.out _ _ _⟩, by simp [intOf]; omega⟩
          · rename_i h; rw [hL] at h; cases h
        · have HL := Lib.hid hL
          simp only [Bool.not_eq_true] at hL
          go_wp2_with fail
          exact ⟨⟨k + 1, by omega, by go_num, hB1.out, hs1, hz1.out, by rw [maxTo_no HL.out]; exact hm1.out⟩, by simp [intOf]; omega⟩
    · obtain ⟨z0, z1, z2⟩ := st_cells HZ.out
      have zf := st_free HZ.out
      obtain hkn : k = S.length := by omega
      have HK := Lib.hid hkn
      clear hkn hB
      go_wp2_with fail
      rw [← HK.out]
      exact end_st (p := 2) Try.results50 rfl (st_set3 HZ.out _ _ _) rfl ⟨rfl, below_st3 HB2.out (Nat.le_refl _) _ _ _⟩

def maxN (f : Nat → Int) : Nat → Int
  | 0 => 0
  | k + 1 => if maxN f k < f k then f k else maxN f k
theorem maxN_yes {f : Nat → Int} {k : Nat} (h : maxN f k < f k) : maxN f (k + 1) = f k := if_pos h
theorem maxN_no {f : Nat → Int} {k : Nat} (h : f k ≤ maxN f k) : maxN f (k + 1) = maxN f k := if_neg (Int.not_lt.2 h)

def DCeilRel (f : Nat → Int) (n : Nat) (m i : Value) : Prop := ∃ k : Nat, k ≤ n ∧ i = .int .i64 k ∧ m = .int .u64 (maxN f k)

set_option maxRecDepth 100000 in
set_option maxHeartbeats 4000000 in
theorem dceil_any (db rg sg lg : Nat) (node win : Int) (R : List Int) (S : List St) (L : List Int) (w : World) (hd : DAt w db rg sg lg node win R S L) (hlen : L.length * 8 ≤ 140737488355328) :
    Calls Try.prog 53 #[.pointer (some ⟨db, 0, none⟩)] w fun e w' => e = .returned (.int .u64 (maxN (intAt L) L.length)) ∧ w = w' := by
  obtain ⟨⟨rc, sc, lc, hb, hr, hs, hl⟩, ha, hle⟩ := hd
  have HL := Lib.hid hl
  have hn : (L.length : Int) ≤ 9223372036854775807 := by omega
  obtain ⟨c0, c1, c2, c3, c4⟩ := ref_cells hb
  unfold sl at c4
  clear hb hr hs hl hlen ha hle c0 c1 c2 c3
  go_enter Try.func53, Try.ntmps53
  go_wp2_with fail
  go_loop [3, 4] (DCeilRel (intAt L) L.length) (fun _ i => L.length - (intOf i).toNat)
  case atStart => exact ⟨0, Nat.zero_le _, rfl, rfl⟩
  case round =>
    obtain ⟨k, hk, rfl, rfl⟩ := hrel
    by_cases hlt : k < L.length
    · have d0 := own_int HL.out k hlt
      have hk0 : (0 : Int) ≤ (k : Int) := by omega
      have hk1 : (k : Int) < (L.length : Int) := by omega
      rcases Int.lt_or_le (maxN (intAt L) k) (intAt L k) with hm | hm
      · have HM := Lib.hid hm
        have hd : decide (maxN (intAt L) k < intAt L k) = true := decide_eq_true hm
        clear hm
        go_wp2_with fail
        exact ⟨⟨k + 1, by omega, by go_num, by rw [maxN_yes HM.out]⟩, by simp [intOf]; omega⟩
      · have HM := Lib.hid hm
        have hd : decide (maxN (intAt L) k < intAt L k) = false := decide_eq_false (Int.not_lt.2 hm)
        clear hm
        go_wp2_with fail
        exact ⟨⟨k + 1, by omega, by go_num, by rw [maxN_no HM.out]⟩, by simp [intOf]; omega⟩
    · obtain hkn : k = L.length := by omega
      have HK := Lib.hid hkn
      clear hkn
      go_wp2_with fail
      go_ret
      exact ⟨ret_int (congrArg (maxN (intAt L)) HK.out), rfl⟩

end Go.Proofs.Ytlgkolmlcbfppaa
