/- tidemarknames: numbers, limits and kinds answer true: the walks. -/
import Derived.Test.YtlgkolmlcbfppaaBase
import Derived.Deep.QuietTactic
import Derived.BigQuiet
import Derived.Great.BuildSlice
import Derived.Deep.WholeRow
namespace Go.Proofs.Ytlgkolmlcbfppaa
open Go.RowKit

theorem heap_drewN {w : World} {b : Nat} {o : Obj} {n : Nat} (h : w.heap[b]? = some o) : (w.drewN n).heap[b]? = some o := h
theorem below_drewN {B : Nat} {a w : World} (h : Below B a w) (n : Nat) : Below B a (w.drewN n) := ⟨h.os, h.tape, h.output, h.size, h.block⟩
theorem heap_alloc_eq {w : World} {g : Nat} (h : g = w.heap.size) (o : Obj) : (w.alloc o).heap[g]? = some o := by subst h; exact heap_alloc_at w o
theorem setRow_alloc_eq {w : World} {g : Nat} (c c' : Array Value) (t : TypeId) (h : g = w.heap.size) : (w.alloc (.cells c t)).setRow g c' = w.alloc (.cells c' t) := by
  subst h; exact World.setRow_alloc_new w c c' t
def rowO (l : List Int) (k : IntKind) (t : TypeId) : Obj := .cells (l.map (Value.int k)).toArray t (0, 0)
def NumAt (l : List Int) (k : Nat) : Int := l.getD k 0
theorem row_cell {w : World} {b : Nat} {l : List Int} {kd : IntKind} {t : TypeId} (h : w.heap[b]? = some (rowO l kd t)) (k : Nat) (hk : k < l.length) : w.cell? ⟨b, k, none⟩ = some (.int kd (NumAt l k)) := by
  simp [World.cell?, h, rowO, NumAt, hk]
def limL : List Int := [32, 33, 64, 16, 16, 512, 6, 6, 16, 256, 1048576, 1048576, 400, 400, 600, 2, 10, 8, 4]

def LimRel (w : World) (i : Value) (wr : World) : Prop :=
  ∃ k : Nat, k ≤ 19 ∧ i = .int .i64 k ∧ Below w.heap.size w wr ∧ wr.heap[w.heap.size]? = some (rowO limL .i64 63) ∧ wr.heap[w.heap.size + 1]? = some (rowO limL .i64 63)

set_option maxRecDepth 100000 in
set_option maxHeartbeats 2000000 in
theorem limits_any (w : World) : Calls Try.prog 12 #[] w fun e w' => e = .returned (.bool true) ∧ Below w.heap.size w w' := by
  go_enter Try.func12, Try.ntmps12
  go_wp2_with (first
    | (refine wpList_buildFlatArrTo rfl 63 2 19 _ rfl .i64 limL (some 4) rfl Try.underlying63 (by as_aux_lemma => kernel_rfl) (by as_aux_lemma => kernel_rfl) (by as_aux_lemma => kernel_rfl) ?_)
    | (refine wpList_buildFlatArrTo rfl 63 2 19 _ rfl .i64 limL (some 5) rfl Try.underlying63 (by as_aux_lemma => kernel_rfl) (by as_aux_lemma => kernel_rfl) (by as_aux_lemma => kernel_rfl) ?_)
    | (refine wpList_store_rowTo rfl 63 _ _ rfl rfl _ (limL.map (Value.int .i64)).toArray rfl rfl 63 _ (heap_alloc_eq (by simp) _) (by as_aux_lemma => kernel_rfl) (by as_aux_lemma => kernel_rfl) (by as_aux_lemma => kernel_rfl) ?_; rw [setRow_alloc_eq _ _ _ (by simp)]))
  go_loopw [3] (LimRel w) (fun i _ => 19 - (intOf i).toNat)
  case atStart => exact ⟨0, Nat.zero_le _, rfl, ((Below.refl _ _).alloc (Nat.le_refl _) _).alloc (by simp) _, heap_alloc_old (heap_alloc_at w (rowO limL .i64 63)) _, by
    have := heap_alloc_at (w.alloc (rowO limL .i64 63)) (rowO limL .i64 63)
    rw [World.size_alloc] at this
    exact this⟩
  case round =>
    obtain ⟨k, hk, rfl, hB, hx, hy⟩ := hrel
    have HB := Lib.hid hB
    have HX := Lib.hid hx
    have HY := Lib.hid hy
    by_cases hlt : k < 19
    · have c0 := row_cell hx k (by simpa [limL] using hlt)
      have c1 := row_cell hy k (by simpa [limL] using hlt)
      have hi : (0 : Int) ≤ (k : Int) := by omega
      have hi' : (k : Int) < 19 := by omega
      clear hx hy hB
      go_wp2_with fail
      go_quiet (fail)
      go_wp2_with fail
      exact ⟨⟨k + 1, by omega, by go_num, below_drewN HB.out _, heap_drewN HX.out, heap_drewN HY.out⟩, by simp [intOf]; omega⟩
    · clear hx hy hB
      go_wp2
      go_ret
      exact ⟨rfl, HB.out⟩

set_option maxHeartbeats 400000 in
theorem num_any (n : Int) (w : World) : Calls Try.prog 29 #[.int .i64 n] w fun e w' => e = .returned (.int .i64 n) ∧ w = w' := by
  go_enter Try.func29, Try.ntmps29
  go_wp2
  go_ret
  exact ⟨rfl, rfl⟩

/-- The errors' numbers. -/
def errL : List Int := [0, 1, 10, 11, 30, 31, 32, 40, 50, 60, 61, 70, 71, 90, 91, 100, 101, 110, 120, 130, 131, 140, 141, 142, 150, 160, 161, 162, 163, 164, 170, 171, 180, 181, 182, 183, 184, 185, 200, 201, 210, 220, 221, 250, 260, 261, 262, 263]

def NumRel (w : World) (i : Value) (wr : World) : Prop :=
  ∃ k : Nat, k ≤ 48 ∧ i = .int .i64 k ∧ Below w.heap.size w wr ∧ wr.heap[w.heap.size]? = some (rowO errL .i64 61) ∧ wr.heap[w.heap.size + 1]? = some (rowO errL .i64 61) ∧ wr.heap[w.heap.size + 1 + 1]? = some (rowO errL .i64 61)

set_option maxRecDepth 100000 in
set_option maxHeartbeats 4000000 in
theorem numbers_any (w : World) : Calls Try.prog 11 #[] w fun e w' => e = .returned (.bool true) ∧ Below w.heap.size w w' := by
  go_enter Try.func11, Try.ntmps11
  go_wp2_with (first
    | (go_at_call 29; refine (num_any _ _).mono ?_; rintro e w' ⟨rfl, rfl⟩)
    | (refine wpList_buildFlatArrTo rfl 61 3 48 _ rfl .i64 errL (some 5) rfl Try.underlying61 (by as_aux_lemma => kernel_rfl) (by as_aux_lemma => kernel_rfl) (by as_aux_lemma => kernel_rfl) ?_)
    | (refine wpList_buildFlatArrTo rfl 61 3 48 _ rfl .i64 errL (some 6) rfl Try.underlying61 (by as_aux_lemma => kernel_rfl) (by as_aux_lemma => kernel_rfl) (by as_aux_lemma => kernel_rfl) ?_)
    | (refine wpList_buildTo rfl 61 _ rfl (some 55) rfl (errL.map (Value.int .i64)).toArray (by as_aux_lemma => kernel_rfl) ?_)
    | (refine wpList_store_rowTo rfl 61 _ _ rfl rfl _ (errL.map (Value.int .i64)).toArray rfl rfl 61 _ (heap_alloc_eq (by simp) _) (by as_aux_lemma => kernel_rfl) (by as_aux_lemma => kernel_rfl) (by as_aux_lemma => kernel_rfl) ?_; rw [setRow_alloc_eq _ _ _ (by simp)]))
  go_loopw [4] (NumRel w) (fun i _ => 48 - (intOf i).toNat)
  case atStart => exact ⟨0, Nat.zero_le _, rfl, (((Below.refl _ _).alloc (Nat.le_refl _) _).alloc (by simp) _).alloc (by simp; omega) _, heap_alloc_old (heap_alloc_old (heap_alloc_at w (rowO errL .i64 61)) _) _, heap_alloc_old (heap_alloc_eq (by simp) (rowO errL .i64 61)) _, heap_alloc_eq (by simp) (rowO errL .i64 61)⟩
  case round =>
    obtain ⟨k, hk, rfl, hB, hx, hy, hz⟩ := hrel
    have HB := Lib.hid hB
    have HX := Lib.hid hx
    have HY := Lib.hid hy
    have HZ := Lib.hid hz
    by_cases hlt : k < 48
    · have c0 := row_cell hx k (by simpa [errL] using hlt)
      have c1 := row_cell hy k (by simpa [errL] using hlt)
      have c2 := row_cell hz k (by simpa [errL] using hlt)
      have hi : (0 : Int) ≤ (k : Int) := by omega
      have hi' : (k : Int) < 48 := by omega
      clear hx hy hz hB
      go_wp2_with fail
      go_quiet (fail)
      go_wp2_with fail
      exact ⟨⟨k + 1, by omega, by go_num, below_drewN HB.out _, heap_drewN HX.out, heap_drewN HY.out, heap_drewN HZ.out⟩, by simp [intOf]; omega⟩
    · clear hx hy hz hB
      go_wp2
      go_ret
      exact ⟨rfl, HB.out⟩

/-- c, c + 1, and so on: n of them. -/
def seqL (n c : Nat) : List Int := (List.range n).map fun k => ((k + c : Nat) : Int)
theorem seq_cell {w : World} {b n c : Nat} {kd : IntKind} {t : TypeId} (h : w.heap[b]? = some (rowO (seqL n c) kd t)) (k : Nat) (hk : k < n) : w.cell? ⟨b, k, none⟩ = some (.int kd ((k + c : Nat) : Int)) := by
  simp [World.cell?, h, rowO, seqL, hk]

set_option maxHeartbeats 400000 in
theorem outcome_any (n : Int) (w : World) : Calls Try.prog 30 #[.int .i64 n] w fun e w' => e = .returned (.int .i64 n) ∧ w = w' := by
  go_enter Try.func30, Try.ntmps30
  go_wp2
  go_ret
  exact ⟨rfl, rfl⟩
set_option maxHeartbeats 400000 in
theorem kind_any (n : Int) (w : World) : Calls Try.prog 31 #[.int .i64 n] w fun e w' => e = .returned (.int .i64 n) ∧ w = w' := by
  go_enter Try.func31, Try.ntmps31
  go_wp2
  go_ret
  exact ⟨rfl, rfl⟩
set_option maxHeartbeats 400000 in
theorem recordkind_any (n : Int) (w : World) : Calls Try.prog 32 #[.int .i64 n] w fun e w' => e = .returned (.int .i64 n) ∧ w = w' := by
  go_enter Try.func32, Try.ntmps32
  go_wp2
  go_ret
  exact ⟨rfl, rfl⟩
set_option maxHeartbeats 400000 in
theorem opkind_any (n : Int) (w : World) : Calls Try.prog 33 #[.int .i64 n] w fun e w' => e = .returned (.int .i64 n) ∧ w = w' := by
  go_enter Try.func33, Try.ntmps33
  go_wp2
  go_ret
  exact ⟨rfl, rfl⟩
set_option maxHeartbeats 400000 in
theorem valuekind_any (n : Int) (w : World) : Calls Try.prog 34 #[.int .i64 n] w fun e w' => e = .returned (.int .i64 n) ∧ w = w' := by
  go_enter Try.func34, Try.ntmps34
  go_wp2
  go_ret
  exact ⟨rfl, rfl⟩
set_option maxHeartbeats 400000 in
theorem tablekind_any (n : Int) (w : World) : Calls Try.prog 35 #[.int .i64 n] w fun e w' => e = .returned (.int .i64 n) ∧ w = w' := by
  go_enter Try.func35, Try.ntmps35
  go_wp2
  go_ret
  exact ⟨rfl, rfl⟩

def CountRel (n : Nat) (i : Value) : Prop := ∃ k : Nat, k ≤ n ∧ i = .int .i64 k

set_option maxRecDepth 100000 in
set_option maxHeartbeats 4000000 in
theorem kinds_any (w : World) : Calls Try.prog 13 #[] w fun e w' => e = .returned (.bool true) ∧ Below w.heap.size w w' := by
  go_enter Try.func13, Try.ntmps13
  go_wp2_with (first
    | (go_at_call 30; refine (outcome_any _ _).mono ?_; rintro e w' ⟨rfl, rfl⟩)
    | (go_at_call 31; refine (kind_any _ _).mono ?_; rintro e w' ⟨rfl, rfl⟩)
    | (go_at_call 32; refine (recordkind_any _ _).mono ?_; rintro e w' ⟨rfl, rfl⟩)
    | (go_at_call 33; refine (opkind_any _ _).mono ?_; rintro e w' ⟨rfl, rfl⟩)
    | (go_at_call 34; refine (valuekind_any _ _).mono ?_; rintro e w' ⟨rfl, rfl⟩)
    | (go_at_call 35; refine (tablekind_any _ _).mono ?_; rintro e w' ⟨rfl, rfl⟩)
    | (refine wpList_buildTo rfl 68 _ rfl (some 31) rfl ((seqL 9 1).map (Value.int .i64)).toArray (by as_aux_lemma => kernel_rfl) ?_)
    | (refine wpList_buildTo rfl 71 _ rfl (some 37) rfl ((seqL 5 1).map (Value.int .i64)).toArray (by as_aux_lemma => kernel_rfl) ?_)
    | (refine wpList_buildTo rfl 74 _ rfl (some 45) rfl ((seqL 7 1).map (Value.int .i64)).toArray (by as_aux_lemma => kernel_rfl) ?_)
    | (refine wpList_buildTo rfl 77 _ rfl (some 50) rfl ((seqL 4 0).map (Value.int .i64)).toArray (by as_aux_lemma => kernel_rfl) ?_)
    | (refine wpList_buildTo rfl 71 _ rfl (some 56) rfl ((seqL 5 1).map (Value.int .i64)).toArray (by as_aux_lemma => kernel_rfl) ?_)
    | (refine wpList_store_rowTo rfl 68 _ _ rfl rfl _ ((seqL 9 1).map (Value.int .i64)).toArray rfl rfl 68 _ (heap_alloc_eq (by simp) _) (by as_aux_lemma => kernel_rfl) (by as_aux_lemma => kernel_rfl) (by as_aux_lemma => kernel_rfl) ?_; rw [setRow_alloc_eq _ _ _ (by simp)])
    | (refine wpList_store_rowTo rfl 71 _ _ rfl rfl _ ((seqL 5 1).map (Value.int .i64)).toArray rfl rfl 71 _ (heap_alloc_eq (by simp) _) (by as_aux_lemma => kernel_rfl) (by as_aux_lemma => kernel_rfl) (by as_aux_lemma => kernel_rfl) ?_; rw [setRow_alloc_eq _ _ _ (by simp)])
    | (refine wpList_store_rowTo rfl 74 _ _ rfl rfl _ ((seqL 7 1).map (Value.int .i64)).toArray rfl rfl 74 _ (heap_alloc_eq (by simp) _) (by as_aux_lemma => kernel_rfl) (by as_aux_lemma => kernel_rfl) (by as_aux_lemma => kernel_rfl) ?_; rw [setRow_alloc_eq _ _ _ (by simp)])
    | (refine wpList_store_rowTo rfl 77 _ _ rfl rfl _ ((seqL 4 0).map (Value.int .i64)).toArray rfl rfl 77 _ (heap_alloc_eq (by simp) _) (by as_aux_lemma => kernel_rfl) (by as_aux_lemma => kernel_rfl) (by as_aux_lemma => kernel_rfl) ?_; rw [setRow_alloc_eq _ _ _ (by simp)]))
  have HB := Lib.hid (show Below w.heap.size w (((((w.alloc (rowO (seqL 9 1) .i64 68)).alloc (rowO (seqL 5 1) .i64 71)).alloc (rowO (seqL 7 1) .i64 74)).alloc (rowO (seqL 4 0) .i64 77)).alloc (rowO (seqL 5 1) .i64 71)) from
    ((((((Below.refl _ _).alloc (Nat.le_refl _) _).alloc (by simp) _).alloc (by simp; omega) _).alloc (by simp; omega) _).alloc (by simp; omega) _))
  have H2 := Lib.hid (show (((((w.alloc (rowO (seqL 9 1) .i64 68)).alloc (rowO (seqL 5 1) .i64 71)).alloc (rowO (seqL 7 1) .i64 74)).alloc (rowO (seqL 4 0) .i64 77)).alloc (rowO (seqL 5 1) .i64 71)).heap[w.heap.size]? = some (rowO (seqL 9 1) .i64 68) from
    heap_alloc_old (heap_alloc_old (heap_alloc_old (heap_alloc_old (heap_alloc_at w _) _) _) _) _)
  have H3 := Lib.hid (show (((((w.alloc (rowO (seqL 9 1) .i64 68)).alloc (rowO (seqL 5 1) .i64 71)).alloc (rowO (seqL 7 1) .i64 74)).alloc (rowO (seqL 4 0) .i64 77)).alloc (rowO (seqL 5 1) .i64 71)).heap[w.heap.size + 1]? = some (rowO (seqL 5 1) .i64 71) from
    heap_alloc_old (heap_alloc_old (heap_alloc_old (heap_alloc_eq (by simp) _) _) _) _)
  have H4 := Lib.hid (show (((((w.alloc (rowO (seqL 9 1) .i64 68)).alloc (rowO (seqL 5 1) .i64 71)).alloc (rowO (seqL 7 1) .i64 74)).alloc (rowO (seqL 4 0) .i64 77)).alloc (rowO (seqL 5 1) .i64 71)).heap[w.heap.size + 1 + 1]? = some (rowO (seqL 7 1) .i64 74) from
    heap_alloc_old (heap_alloc_old (heap_alloc_eq (by simp) _) _) _)
  have H5 := Lib.hid (show (((((w.alloc (rowO (seqL 9 1) .i64 68)).alloc (rowO (seqL 5 1) .i64 71)).alloc (rowO (seqL 7 1) .i64 74)).alloc (rowO (seqL 4 0) .i64 77)).alloc (rowO (seqL 5 1) .i64 71)).heap[w.heap.size + 1 + 1 + 1]? = some (rowO (seqL 4 0) .i64 77) from
    heap_alloc_old (heap_alloc_eq (by simp) _) _)
  have H6 := Lib.hid (show (((((w.alloc (rowO (seqL 9 1) .i64 68)).alloc (rowO (seqL 5 1) .i64 71)).alloc (rowO (seqL 7 1) .i64 74)).alloc (rowO (seqL 4 0) .i64 77)).alloc (rowO (seqL 5 1) .i64 71)).heap[w.heap.size + 1 + 1 + 1 + 1]? = some (rowO (seqL 5 1) .i64 71) from
    heap_alloc_eq (by simp) _)
  change Code.wp _ _ _ _ (((((w.alloc (rowO (seqL 9 1) .i64 68)).alloc (rowO (seqL 5 1) .i64 71)).alloc (rowO (seqL 7 1) .i64 74)).alloc (rowO (seqL 4 0) .i64 77)).alloc (rowO (seqL 5 1) .i64 71))
  generalize (((((w.alloc (rowO (seqL 9 1) .i64 68)).alloc (rowO (seqL 5 1) .i64 71)).alloc (rowO (seqL 7 1) .i64 74)).alloc (rowO (seqL 4 0) .i64 77)).alloc (rowO (seqL 5 1) .i64 71)) = W at *
  go_loop [7] (CountRel 4) (fun i => 4 - (intOf i).toNat)
  case atStart => exact ⟨0, Nat.zero_le _, rfl⟩
  case round =>
    obtain ⟨k, hk, rfl⟩ := hrel
    by_cases hlt : k < 4
    · have c0 := seq_cell H5.out k hlt
      rw [show ((k + 0 : Nat) : Int) = (k : Int) by omega] at c0
      have hi : (0 : Int) ≤ (k : Int) := by omega
      have hi' : (k : Int) < 4 := by omega
      go_wp2_with fail
      exact ⟨⟨k + 1, by omega, by go_num⟩, by simp [intOf]; omega⟩
    · go_wp2_with fail
      go_loop [8] (CountRel 5) (fun i => 5 - (intOf i).toNat)
      case atStart => exact ⟨0, Nat.zero_le _, rfl⟩
      case round =>
        obtain ⟨k, hk, rfl⟩ := hrel
        by_cases hlt : k < 5
        · have c0 := seq_cell H6.out k hlt
          rw [show ((k + 1 : Nat) : Int) = (k : Int) + 1 by omega] at c0
          have hi : (0 : Int) ≤ (k : Int) := by omega
          have hi' : (k : Int) < 5 := by omega
          go_wp2_with fail
          exact ⟨⟨k + 1, by omega, by go_num⟩, by simp [intOf]; omega⟩
        · go_wp2_with fail
          go_loop [9] (CountRel 9) (fun i => 9 - (intOf i).toNat)
          case atStart => exact ⟨0, Nat.zero_le _, rfl⟩
          case round =>
            obtain ⟨k, hk, rfl⟩ := hrel
            by_cases hlt : k < 9
            · have c0 := seq_cell H2.out k hlt
              rw [show ((k + 1 : Nat) : Int) = (k : Int) + 1 by omega] at c0
              have hi : (0 : Int) ≤ (k : Int) := by omega
              have hi' : (k : Int) < 9 := by omega
              go_wp2_with fail
              exact ⟨⟨k + 1, by omega, by go_num⟩, by simp [intOf]; omega⟩
            · go_wp2_with fail
              go_loop [10] (CountRel 5) (fun i => 5 - (intOf i).toNat)
              case atStart => exact ⟨0, Nat.zero_le _, rfl⟩
              case round =>
                obtain ⟨k, hk, rfl⟩ := hrel
                by_cases hlt : k < 5
                · have c0 := seq_cell H3.out k hlt
                  rw [show ((k + 1 : Nat) : Int) = (k : Int) + 1 by omega] at c0
                  have hi : (0 : Int) ≤ (k : Int) := by omega
                  have hi' : (k : Int) < 5 := by omega
                  go_wp2_with fail
                  exact ⟨⟨k + 1, by omega, by go_num⟩, by simp [intOf]; omega⟩
                · go_wp2_with fail
                  go_loop [11] (CountRel 7) (fun i => 7 - (intOf i).toNat)
                  case atStart => exact ⟨0, Nat.zero_le _, rfl⟩
                  case round =>
                    obtain ⟨k, hk, rfl⟩ := hrel
                    by_cases hlt : k < 7
                    · have c0 := seq_cell H4.out k hlt
                      rw [show ((k + 1 : Nat) : Int) = (k : Int) + 1 by omega] at c0
                      have hi : (0 : Int) ≤ (k : Int) := by omega
                      have hi' : (k : Int) < 7 := by omega
                      go_wp2_with fail
                      exact ⟨⟨k + 1, by omega, by go_num⟩, by simp [intOf]; omega⟩
                    · go_wp2_with fail
                      go_ret
                      exact ⟨rfl, HB.out⟩

set_option maxHeartbeats 400000 in
theorem names_any (w : World) : Calls Try.prog 3 #[] w fun e w' => e = .returned (.bool true) ∧ Below w.heap.size w w' := by
  go_enter Try.func3, Try.ntmps3
  go_wp2_with fail
  with_reducible refine (numbers_any _).mono ?_
  rintro e w1 ⟨rfl, hb1⟩
  have H1 := Lib.hid hb1
  clear hb1
  go_wp2_with fail
  with_reducible refine (limits_any _).mono ?_
  rintro e w2 ⟨rfl, hb2⟩
  have H2 := Lib.hid (H1.out.trans (hb2.mono H1.out.size))
  clear hb2 H1
  go_wp2_with fail
  with_reducible refine (kinds_any _).mono ?_
  rintro e w3 ⟨rfl, hb3⟩
  have H3 := Lib.hid (H2.out.trans (hb3.mono H2.out.size))
  clear hb3 H2
  go_wp2_with fail
  go_ret
  exact ⟨rfl, H3.out⟩

end Go.Proofs.Ytlgkolmlcbfppaa
