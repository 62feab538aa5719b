/- The document's clock: Need: the walk. -/
import Derived.Test.YtlgkolmlcbfppaaRefTick
namespace Go.Proofs.Ytlgkolmlcbfppaa
open Go.RowKit

theorem dat_in {w : World} {db rg sg lg : Nat} {node win : Int} {R : List Int} {S : List St} {L : List Int} (h : DAt w db rg sg lg node win R S L) (o : Obj) (n : Nat) : DAt ((w.alloc o).drewN n) db rg sg lg node win R S L :=
  foot_dat (F := fun _ => False) (((Foot.refl _ w).alloc o).drewN n) h id id id id

theorem ahead_ref1 {win s : Int} (hw : topW - s ≤ win) : topW = aheadF win s := (ahead_top (Or.inr (by omega))).symm
theorem ahead_ref2 {win s : Int} (hs : s < topW) (hw : win < topW - s) (hw0 : 0 ≤ win) : s + win + 1 = aheadF win s := by
  by_cases h : topW - 1 ≤ s ∨ topW - 1 - s ≤ win
  · rw [ahead_top h]; omega
  · rw [ahead_sum h]

set_option maxRecDepth 100000 in
set_option maxHeartbeats 1000000 in
theorem dneed_no (db rg sg lg : Nat) (node win ceil s0 s1 s2 : Int) (R : List Int) (S : List St) (L : List Int) (w : World) (hd : DAt w db rg sg lg node win R S L) (hlen : L.length * 8 ≤ 140737488355328)
    (hm : maxN (intAt L) L.length = ceil) (hs : s0 = topW ∨ s0 < ceil) :
    Calls Try.prog 51 #[.pointer (some ⟨db, 0, none⟩), .agg #[.int .u64 s0, .int .u32 s1, .int .u32 s2]] w fun e w' => e = .returned (.tuple #[.int .u64 0, .bool false]) ∧ Below w.heap.size w w' := by
  have HD := Lib.hid hd
  have HLEN := Lib.hid hlen
  have HM := Lib.hid hm
  clear hd hlen hm
  cases k : (s0 == 18446744073709551615)
  · have hd : decide (s0 < ceil) = true := by
      have : s0 ≠ topW := by simpa [topW] using k
      simp; omega
    clear hs
    go_enter Try.func51, Try.ntmps51
    go_wp2_with fail
    go_quiet ((go_at_call 53; exact Calls.quiet_of_same ((dceil_any db rg sg lg node win R S L _ (dat_in HD.out _ _) HLEN.out).mono fun _ _ h => ⟨h.1.trans (ret_int HM.out), h.2.symm⟩)))
    go_wp2
    go_ret2
    exact ⟨rfl, below_drewN ((Below.refl _ _).alloc (Nat.le_refl _) _) _⟩
  · clear hs
    go_enter Try.func51, Try.ntmps51
    go_wp2_with fail
    go_quiet (fail)
    go_wp2
    go_ret2
    exact ⟨rfl, below_drewN ((Below.refl _ _).alloc (Nat.le_refl _) _) _⟩

theorem ret2_int {k : IntKind} {a b : Int} (h : a = b) : Ending.returned (.tuple #[.int k a, .bool true]) = .returned (.tuple #[.int k b, .bool true]) := by rw [h]

set_option maxRecDepth 100000 in
set_option maxHeartbeats 2000000 in
theorem dneed_yes (db rg sg lg : Nat) (node win ceil s0 s1 s2 : Int) (R : List Int) (S : List St) (L : List Int) (w : World) (hd : DAt w db rg sg lg node win R S L) (hlen : L.length * 8 ≤ 140737488355328)
    (hm : maxN (intAt L) L.length = ceil) (hs : s0 < topW) (hc : ceil ≤ s0) (h0 : 0 ≤ s0) (hw : 0 ≤ win) (hw' : win ≤ topW) :
    Calls Try.prog 51 #[.pointer (some ⟨db, 0, none⟩), .agg #[.int .u64 s0, .int .u32 s1, .int .u32 s2]] w fun e w' => e = .returned (.tuple #[.int .u64 (aheadF win s0), .bool true]) ∧ Below w.heap.size w w' := by
  have HD := Lib.hid hd
  have HLEN := Lib.hid hlen
  have HM := Lib.hid hm
  obtain ⟨⟨rc, sc, lc, hb, _, _, _⟩, _, hle⟩ := hd
  obtain ⟨c0, c1, c2, c3, c4⟩ := ref_cells hb
  have hdl := hle.2.2.2
  clear hlen hm hb hle c0 c2 c3 c4
  have k : (s0 == 18446744073709551615) = false := ne_topW hs
  have hd : decide (s0 < ceil) = false := by simp; omega
  have hs' : s0 < 18446744073709551615 := hs
  have hwr : IntKind.u64.wrap (18446744073709551615 - s0) = 18446744073709551615 - s0 := wrap_u64 _ (by omega) (by unfold topW; omega)
  rcases Int.lt_or_le win (18446744073709551615 - s0) with hq | hq
  · have HQ := Lib.hid (ahead_ref2 hs (show win < topW - s0 from hq) hw)
    have hw1 : win ≤ 18446744073709551615 := hw'
    go_enter Try.func51, Try.ntmps51
    go_wp2_with fail
    go_quiet ((go_at_call 53; exact Calls.quiet_of_same ((dceil_any db rg sg lg node win R S L _ (dat_in HD.out _ _) HLEN.out).mono fun _ _ h => ⟨h.1.trans (ret_int HM.out), h.2.symm⟩)))
    go_wp2
    have hws1 : IntKind.u64.wrap (s0 + win) = s0 + win := wrap_u64 _ (by omega) (by unfold topW; omega)
    have hws2 : IntKind.u64.wrap (s0 + win + 1) = s0 + win + 1 := wrap_u64 _ (by omega) (by unfold topW; omega)
    go_quiet (fail)
    go_wp2
    go_ret2
    exact ⟨ret2_int HQ.out, below_drewN (below_drewN ((Below.refl _ _).alloc (Nat.le_refl _) _) _) _⟩
  · have HQ := Lib.hid (ahead_ref1 (show topW - s0 ≤ win from hq))
    go_enter Try.func51, Try.ntmps51
    go_wp2_with fail
    go_quiet ((go_at_call 53; exact Calls.quiet_of_same ((dceil_any db rg sg lg node win R S L _ (dat_in HD.out _ _) HLEN.out).mono fun _ _ h => ⟨h.1.trans (ret_int HM.out), h.2.symm⟩)))
    go_wp2
    go_ret2
    exact ⟨ret2_int HQ.out, below_drewN ((Below.refl _ _).alloc (Nat.le_refl _) _) _⟩

end Go.Proofs.Ytlgkolmlcbfppaa
