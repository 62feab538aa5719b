/- told: Observe and Need. -/
import Derived.Test.YtlgkolmlcbfppaaTellA
namespace Go.Proofs.Ytlgkolmlcbfppaa
open Go.RowKit

set_option maxRecDepth 100000 in
set_option maxHeartbeats 8000000 in
theorem tell_obsok (p : PS) (B lb off cnt : Nat) (kind place node win num s0 s1 s2 : Int) (w : World) (hp : p.At B lb w) (ha : p.Agree cnt) (hlb : lb < w.heap.size) (hB : B ≤ w.heap.size)
    (hc : w.cell? ⟨lb, off, none⟩ = some (.pointer (some ⟨p.cb, 0, none⟩))) (hd : w.cell? ⟨lb, off + 1, none⟩ = some (.pointer (some ⟨p.db, 0, none⟩)))
    (hn : 0 ≤ num ∧ num ≤ topW) (hs : 0 ≤ s0 ∧ s0 ≤ topW ∧ 0 ≤ s1 ∧ s1 ≤ topL ∧ 0 ≤ s2) (hlen : (cnt + 2) * 16 ≤ 140737488355328) (hk : (kind == 5) = true) (hq : (s0 == 18446744073709551615) = false) :
    Calls Try.prog 41 #[.pointer (some ⟨lb, off, none⟩), .agg #[.int .i64 kind, .int .i64 place, .int .u32 node, .int .u64 win, .int .u64 num, .int .u64 s0, .int .u32 s1, .int .u32 s2]] w (ToldP p B lb cnt w) := by
  have q3 : (kind == 3) = false := by rw [beq_iff_eq] at hk; rw [hk]; rfl
  have q4 : (kind == 4) = false := by rw [beq_iff_eq] at hk; rw [hk]; rfl
  have HQ := Lib.hid hq
  clear hq
  have HP := Lib.hid hp
  have HA := Lib.hid ha
  have HN := Lib.hid hn
  have HS := Lib.hid hs
  have HLEN := Lib.hid hlen
  have HC := Lib.hid hc
  have HDc := Lib.hid hd
  have hcl : p.cb < w.heap.size := lt_of_heap hp.clk
  have hused := And.intro hlb hB
  have hnl : lb ≠ p.cb ∧ lb ≠ p.db := ⟨fun e => hp.loc (Or.inl e), fun e => hp.loc (Or.inr (Or.inl e))⟩
  have HNL := Lib.hid hnl
  clear hp ha hn hs hlen hnl
  go_enter Try.func41, Try.ntmps41
  go_wp2_with fail
  go_region_with ((go_at_call 17; refine (observe_ok p.cb p.win p.ceil p.node p.rd p.l0 p.l1 p.l2 s0 s1 s2 _ (heap_drew (heap_alloc_old HP.out.clk _)) HQ.out).mono ?_; rintro e w1 ⟨m, hm, rfl, hg1, hk1⟩; have hX1 := Lib.hid (gb_heap hg1 (heap_drew (heap_alloc_at w (opO kind place node win num s0 s1 s2))) (by omega)); have HG1 := Lib.hid (((Foot.refl (· = p.cb) w).alloc (opO kind place node win num s0 s1 s2)).drew.trans (Foot.ofG hg1)); have HK1 := Lib.hid hk1; have HM := Lib.hid hm; clear hg1 hk1 hm))
  all_goals
    have hsz1 : w.heap.size < w1.heap.size := lt_of_heap hX1.out
    have hlb1 : lb < w1.heap.size := by omega
    obtain ⟨x0, x1, x2, x3, x4, x5, x6, x7⟩ := op_cells hX1.out
    have hc1 := foot_cell HG1.out HC.out (fun e => HNL.out.1 e)
    have hd1 := foot_cell HG1.out HDc.out (fun e => HNL.out.1 e)
    have HD1 := Lib.hid (foot_dat (HG1.out.mono (fun _ h => h)) HP.out.dat (fun e => HP.out.apart.1 e.symm) (fun e => HP.out.apart.2.1 e.symm) (fun e => HP.out.apart.2.2.1 e.symm) (fun e => HP.out.apart.2.2.2 e.symm))
    have hrl := (mulb HA.out.2.2.2.2.2.1 HLEN.out).2.1
    go_wp2_with fail
    go_region_with ((go_at_call 49; refine (dobserve_ok p.db p.rg p.sg p.lg p.node p.win s0 s1 s2 p.R p.S p.L _ (foot_dat (F := fun _ => False) ((Foot.refl _ _).drew) HD1.out id id id id) hrl HQ.out).mono ?_; rintro e w2 ⟨sg', rfl, hr, hF2, hd2⟩; have HR2 := Lib.hid hr; have HF2 := Lib.hid hF2; have HD2 := Lib.hid hd2; clear hr hF2 hd2))
    all_goals
      go_wp2_with fail
      go_ret
      have hR : sg' = p.sg ∨ w.heap.size ≤ sg' := HR2.out.imp id (fun h => Nat.le_trans (Nat.le_of_lt hsz1) h)
      have hF : Foot p.F w w2 := (HG1.out.mono (fun _ h => Or.inl h)).drew.trans (HF2.out.mono (fun _ h => h.elim (fun q => Or.inr (Or.inl q)) (fun q => Or.inr (Or.inr (Or.inr (Or.inl q))))))
      have hK : w2.heap[p.cb]? = some (clkO p.win p.ceil p.node p.rd m.w m.l m.n) := foot_heap HF2.out (heap_drew HK1.out) (fun h => h.elim HP.out.apart.1 HP.out.apart.2.2.1)
      exact told_seen (m := m) (s := ⟨s0, s1, s2⟩) HP.out HA.out hlb hF hK (max2_if HA.out.2.2.2.2.2.2.2.1 HA.out.2.2.2.2.2.2.2.2.2.1 HA.out.2.2.2.2.2.2.2.2.2.2.2.1 HM.out) HS.out.1 HS.out.2.1 HS.out.2.2.1 HS.out.2.2.2.1 HS.out.2.2.2.2 hR hB HD2.out

set_option maxRecDepth 100000 in
set_option maxHeartbeats 8000000 in
theorem tell_obstop (p : PS) (B lb off cnt : Nat) (kind place node win num s0 s1 s2 : Int) (w : World) (hp : p.At B lb w) (ha : p.Agree cnt) (hlb : lb < w.heap.size) (hB : B ≤ w.heap.size)
    (hc : w.cell? ⟨lb, off, none⟩ = some (.pointer (some ⟨p.cb, 0, none⟩))) (hd : w.cell? ⟨lb, off + 1, none⟩ = some (.pointer (some ⟨p.db, 0, none⟩)))
    (hn : 0 ≤ num ∧ num ≤ topW) (hs : 0 ≤ s0 ∧ s0 ≤ topW ∧ 0 ≤ s1 ∧ s1 ≤ topL ∧ 0 ≤ s2) (hlen : (cnt + 2) * 16 ≤ 140737488355328) (hk : (kind == 5) = true) (hq : (s0 == 18446744073709551615) = true) :
    Calls Try.prog 41 #[.pointer (some ⟨lb, off, none⟩), .agg #[.int .i64 kind, .int .i64 place, .int .u32 node, .int .u64 win, .int .u64 num, .int .u64 s0, .int .u32 s1, .int .u32 s2]] w (ToldP p B lb cnt w) := by
  have q3 : (kind == 3) = false := by rw [beq_iff_eq] at hk; rw [hk]; rfl
  have q4 : (kind == 4) = false := by rw [beq_iff_eq] at hk; rw [hk]; rfl
  have HQ := Lib.hid hq
  clear hq
  have HP := Lib.hid hp
  have HA := Lib.hid ha
  have HN := Lib.hid hn
  have HS := Lib.hid hs
  have HLEN := Lib.hid hlen
  have HC := Lib.hid hc
  have HDc := Lib.hid hd
  have hcl : p.cb < w.heap.size := lt_of_heap hp.clk
  have hused := And.intro hlb hB
  have hnl : lb ≠ p.cb ∧ lb ≠ p.db := ⟨fun e => hp.loc (Or.inl e), fun e => hp.loc (Or.inr (Or.inl e))⟩
  have HNL := Lib.hid hnl
  clear hp ha hn hs hlen hnl
  go_enter Try.func41, Try.ntmps41
  go_wp2_with fail
  go_region_with ((go_at_call 17; refine (observe_top p.cb p.win p.ceil p.node p.rd p.l0 p.l1 p.l2 s0 s1 s2 _ (heap_drew (heap_alloc_old HP.out.clk _)) HQ.out).mono ?_; rintro e w1 ⟨rfl, hb1⟩; have hX1 := Lib.hid (below_heap hb1 (heap_drew (heap_alloc_at w (opO kind place node win num s0 s1 s2))) (by simp)); have HB1 := Lib.hid ((((Below.refl _ w).alloc (Nat.le_refl _) (opO kind place node win num s0 s1 s2)).drew).trans (hb1.mono (by simp))); clear hb1))
  all_goals
    have hsz1 : w.heap.size < w1.heap.size := lt_of_heap hX1.out
    have hlb1 : lb < w1.heap.size := by omega
    obtain ⟨x0, x1, x2, x3, x4, x5, x6, x7⟩ := op_cells hX1.out
    have hc1 := foot_cell (F := fun _ => False) (Foot.ofBelow HB1.out) HC.out id
    have hd1 := foot_cell (F := fun _ => False) (Foot.ofBelow HB1.out) HDc.out id
    have HD1 := Lib.hid (foot_dat (F := fun _ => False) (Foot.ofBelow HB1.out) HP.out.dat id id id id)
    go_wp2_with fail
    go_region_with ((go_at_call 49; refine (dobserve_top p.db s0 s1 s2 _ HQ.out).mono ?_; rintro e w2 ⟨rfl, hb2⟩; have HB2 := Lib.hid ((HB1.out.drew).trans (hb2.mono (by simp; omega))); clear hb2))
    all_goals
      go_wp2_with fail
      go_ret
      exact told_same HP.out HA.out HB2.out

set_option maxRecDepth 100000 in
set_option maxHeartbeats 8000000 in
theorem tell_needno (p : PS) (B lb off cnt : Nat) (kind place node win num s0 s1 s2 : Int) (w : World) (hp : p.At B lb w) (ha : p.Agree cnt) (hlb : lb < w.heap.size) (hB : B ≤ w.heap.size)
    (hc : w.cell? ⟨lb, off, none⟩ = some (.pointer (some ⟨p.cb, 0, none⟩))) (hd : w.cell? ⟨lb, off + 1, none⟩ = some (.pointer (some ⟨p.db, 0, none⟩)))
    (hn : 0 ≤ num ∧ num ≤ topW) (hs : 0 ≤ s0 ∧ s0 ≤ topW ∧ 0 ≤ s1 ∧ s1 ≤ topL ∧ 0 ≤ s2) (hlen : (cnt + 2) * 16 ≤ 140737488355328) (hk : (kind == 7) = true) (hq : s0 = topW ∨ s0 < p.ceil) :
    Calls Try.prog 41 #[.pointer (some ⟨lb, off, none⟩), .agg #[.int .i64 kind, .int .i64 place, .int .u32 node, .int .u64 win, .int .u64 num, .int .u64 s0, .int .u32 s1, .int .u32 s2]] w (ToldP p B lb cnt w) := by
  have q3 : (kind == 3) = false := by rw [beq_iff_eq] at hk; rw [hk]; rfl
  have q4 : (kind == 4) = false := by rw [beq_iff_eq] at hk; rw [hk]; rfl
  have q5 : (kind == 5) = false := by rw [beq_iff_eq] at hk; rw [hk]; rfl
  have q6 : (kind == 6) = false := by rw [beq_iff_eq] at hk; rw [hk]; rfl
  have HQ := Lib.hid hq
  clear hq
  have HP := Lib.hid hp
  have HA := Lib.hid ha
  have HN := Lib.hid hn
  have HS := Lib.hid hs
  have HLEN := Lib.hid hlen
  have HC := Lib.hid hc
  have HDc := Lib.hid hd
  have hcl : p.cb < w.heap.size := lt_of_heap hp.clk
  have hused := And.intro hlb hB
  have hnl : lb ≠ p.cb ∧ lb ≠ p.db := ⟨fun e => hp.loc (Or.inl e), fun e => hp.loc (Or.inr (Or.inl e))⟩
  have HNL := Lib.hid hnl
  clear hp ha hn hs hlen hnl
  go_enter Try.func41, Try.ntmps41
  go_wp2_with fail
  go_region_with ((go_at_call 23; refine (need_no p.cb p.win p.ceil p.node p.rd p.l0 p.l1 p.l2 s0 s1 s2 _ (heap_drew (heap_alloc_old HP.out.clk _)) HQ.out).mono ?_; rintro e w1 ⟨rfl, hb1⟩; have hX1 := Lib.hid (below_heap hb1 (heap_drew (heap_alloc_at w (opO kind place node win num s0 s1 s2))) (by simp)); have HB1 := Lib.hid ((((Below.refl _ w).alloc (Nat.le_refl _) (opO kind place node win num s0 s1 s2)).drew).trans (hb1.mono (by simp))); clear hb1))
  all_goals
    have hsz1 : w.heap.size < w1.heap.size := lt_of_heap hX1.out
    have hlb1 : lb < w1.heap.size := by omega
    obtain ⟨x0, x1, x2, x3, x4, x5, x6, x7⟩ := op_cells hX1.out
    have hc1 := foot_cell (F := fun _ => False) (Foot.ofBelow HB1.out) HC.out id
    have hd1 := foot_cell (F := fun _ => False) (Foot.ofBelow HB1.out) HDc.out id
    have HD1 := Lib.hid (foot_dat (F := fun _ => False) (Foot.ofBelow HB1.out) HP.out.dat id id id id)
    have hrl := (mulb HA.out.2.2.2.2.2.2.1 HLEN.out).2.2.1
    go_wp2_with fail
    go_region_with ((go_at_call 51; refine (dneed_no p.db p.rg p.sg p.lg p.node p.win p.ceil s0 s1 s2 p.R p.S p.L _ (foot_dat (F := fun _ => False) ((Foot.refl _ _).drew) HD1.out id id id id) hrl HA.out.2.2.2.1 HQ.out).mono ?_; rintro e w2 ⟨rfl, hb2⟩; have HB2 := Lib.hid ((HB1.out.drew).trans (hb2.mono (by simp; omega))); clear hb2))
    all_goals
      go_wp2_with fail
      go_ret
      exact told_same HP.out HA.out HB2.out

set_option maxRecDepth 100000 in
set_option maxHeartbeats 8000000 in
theorem tell_needyes (p : PS) (B lb off cnt : Nat) (kind place node win num s0 s1 s2 : Int) (w : World) (hp : p.At B lb w) (ha : p.Agree cnt) (hlb : lb < w.heap.size) (hB : B ≤ w.heap.size)
    (hc : w.cell? ⟨lb, off, none⟩ = some (.pointer (some ⟨p.cb, 0, none⟩))) (hd : w.cell? ⟨lb, off + 1, none⟩ = some (.pointer (some ⟨p.db, 0, none⟩)))
    (hn : 0 ≤ num ∧ num ≤ topW) (hs : 0 ≤ s0 ∧ s0 ≤ topW ∧ 0 ≤ s1 ∧ s1 ≤ topL ∧ 0 ≤ s2) (hlen : (cnt + 2) * 16 ≤ 140737488355328) (hk : (kind == 7) = true) (hq : s0 < topW ∧ p.ceil ≤ s0) :
    Calls Try.prog 41 #[.pointer (some ⟨lb, off, none⟩), .agg #[.int .i64 kind, .int .i64 place, .int .u32 node, .int .u64 win, .int .u64 num, .int .u64 s0, .int .u32 s1, .int .u32 s2]] w (ToldP p B lb cnt w) := by
  have q3 : (kind == 3) = false := by rw [beq_iff_eq] at hk; rw [hk]; rfl
  have q4 : (kind == 4) = false := by rw [beq_iff_eq] at hk; rw [hk]; rfl
  have q5 : (kind == 5) = false := by rw [beq_iff_eq] at hk; rw [hk]; rfl
  have q6 : (kind == 6) = false := by rw [beq_iff_eq] at hk; rw [hk]; rfl
  have HQ := Lib.hid hq
  clear hq
  have HP := Lib.hid hp
  have HA := Lib.hid ha
  have HN := Lib.hid hn
  have HS := Lib.hid hs
  have HLEN := Lib.hid hlen
  have HC := Lib.hid hc
  have HDc := Lib.hid hd
  have hcl : p.cb < w.heap.size := lt_of_heap hp.clk
  have hused := And.intro hlb hB
  have hnl : lb ≠ p.cb ∧ lb ≠ p.db := ⟨fun e => hp.loc (Or.inl e), fun e => hp.loc (Or.inr (Or.inl e))⟩
  have HNL := Lib.hid hnl
  clear hp ha hn hs hlen hnl
  go_enter Try.func41, Try.ntmps41
  go_wp2_with fail
  go_region_with ((go_at_call 23; refine (need_yes p.cb p.win p.ceil p.node p.rd p.l0 p.l1 p.l2 s0 s1 s2 _ (heap_drew (heap_alloc_old HP.out.clk _)) HQ.out.1 HQ.out.2 HS.out.1 HA.out.2.2.2.2.2.2.2.2.2.2.2.2.2.2.1).mono ?_; rintro e w1 ⟨rfl, hb1⟩; have hX1 := Lib.hid (below_heap hb1 (heap_drew (heap_alloc_at w (opO kind place node win num s0 s1 s2))) (by simp)); have HB1 := Lib.hid ((((Below.refl _ w).alloc (Nat.le_refl _) (opO kind place node win num s0 s1 s2)).drew).trans (hb1.mono (by simp))); clear hb1))
  all_goals
    have hsz1 : w.heap.size < w1.heap.size := lt_of_heap hX1.out
    have hlb1 : lb < w1.heap.size := by omega
    obtain ⟨x0, x1, x2, x3, x4, x5, x6, x7⟩ := op_cells hX1.out
    have hc1 := foot_cell (F := fun _ => False) (Foot.ofBelow HB1.out) HC.out id
    have hd1 := foot_cell (F := fun _ => False) (Foot.ofBelow HB1.out) HDc.out id
    have HD1 := Lib.hid (foot_dat (F := fun _ => False) (Foot.ofBelow HB1.out) HP.out.dat id id id id)
    have hrl := (mulb HA.out.2.2.2.2.2.2.1 HLEN.out).2.2.1
    go_wp2_with fail
    go_region_with ((go_at_call 51; refine (dneed_yes p.db p.rg p.sg p.lg p.node p.win p.ceil s0 s1 s2 p.R p.S p.L _ (foot_dat (F := fun _ => False) ((Foot.refl _ _).drew) HD1.out id id id id) hrl HA.out.2.2.2.1 HQ.out.1 HQ.out.2 HS.out.1 HA.out.2.2.2.2.2.2.2.2.2.2.2.2.2.2.1 HA.out.2.2.2.2.2.2.2.2.2.2.2.2.2.2.2.1).mono ?_; rintro e w2 ⟨rfl, hb2⟩; have HB2 := Lib.hid ((HB1.out.drew).trans (hb2.mono (by simp; omega))); clear hb2))
    all_goals
      go_wp2_with fail
      go_ret
      exact told_same HP.out HA.out HB2.out

end Go.Proofs.Ytlgkolmlcbfppaa
