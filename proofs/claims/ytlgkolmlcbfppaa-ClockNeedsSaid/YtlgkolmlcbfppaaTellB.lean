/- told: Tick, Last, Ceiling, and what does nothing. -/
import Derived.Test.YtlgkolmlcbfppaaTellA
namespace Go.Proofs.Ytlgkolmlcbfppaa
open Go.RowKit

theorem told_keep {p : PS} {B lb cnt : Nat} {w w' : World} (hp : p.At B lb w) (ha : p.Agree cnt) {sg' : Nat} (hlb : lb < w.heap.size) (hF : Foot p.F w w') (hk : w'.heap[p.cb]? = some (clkO p.win p.ceil p.node p.rd p.l0 p.l1 p.l2))
    (hr : sg' = p.sg ∨ w.heap.size ≤ sg') (hB : B ≤ w.heap.size) (hd : DAt w' p.db p.rg sg' p.lg p.node p.win p.R p.S p.L) : ToldP p B lb cnt w (.returned (.bool true)) w' := by
  have hcl := lt_of_heap hp.clk
  have := hp.apart
  have := hp.base
  have hl := hp.loc
  unfold PS.F at hl
  refine ⟨{ p with sg := sg' }, rfl, hF, ⟨hk, hd, ?_, ?_, ?_⟩, agree_more (show PS.Agree { p with sg := sg' } cnt from ha), rfl, rfl, ?_⟩
  · simp only; omega
  · simp only; omega
  · unfold PS.F; simp only; omega
  · intro k hk
    rcases hk with h | h | h | h | h
    · exact Or.inl (Or.inl h)
    · exact Or.inl (Or.inr (Or.inl h))
    · exact Or.inl (Or.inr (Or.inr (Or.inl h)))
    · rcases hr with q | q
      · exact Or.inl (Or.inr (Or.inr (Or.inr (Or.inl ((show k = sg' from h).trans q)))))
      · exact Or.inr (by rw [show k = sg' from h]; exact q)
    · exact Or.inl (Or.inr (Or.inr (Or.inr (Or.inr h))))
theorem told_tick {p : PS} {B lb cnt : Nat} {w w' : World} {s0 s1 s2 er n0 n1 n2 : Int} {S' : List St} (hp : p.At B lb w) (ha : p.Agree cnt) {sg' : Nat} (hlb : lb < w.heap.size) (hF : Foot p.F w w')
    (hR : TickR p.node p.rd p.l0 p.l1 p.l2 s0 s1 s2 er n0 n1 n2) (hk : w'.heap[p.cb]? = some (clkO p.win p.ceil p.node p.rd n0 n1 n2)) (hS : (er = 11 ∧ S' = p.S) ∨ (er = 0 ∧ S' = p.S ++ [⟨s0, s1, s2⟩]))
    (hr : sg' = p.sg ∨ w.heap.size ≤ sg') (hB : B ≤ w.heap.size) (hd : DAt w' p.db p.rg sg' p.lg p.node p.win p.R S' p.L) : ToldP p B lb cnt w (.returned (.bool true)) w' := by
  have hb := ha.2.2.2.2.2.2.2
  rcases hR with ⟨h, _, _, _, rfl, rfl, rfl, _⟩ | ⟨h, h1, h2, rfl, rfl, rfl, h3⟩
  · rcases hS with ⟨_, rfl⟩ | ⟨h', _⟩
    · exact told_keep hp ha hlb hF hk hr hB hd
    · omega
  · rcases hS with ⟨h', _⟩ | ⟨_, rfl⟩
    · omega
    · have hT : 0 < topL := by decide
      have hlt : ltB p.l0 p.l1 p.l2 n0 n1 n2 = true := by
        unfold ltB
        by_cases e : p.l0 ≠ n0
        · rw [if_pos e]; simp; omega
        · rw [if_neg e, if_pos (by omega)]; simp; omega
      exact told_seen (m := ⟨n0, n1, n2⟩) (s := ⟨n0, n1, n2⟩) hp ha hlb hF hk (by rw [if_pos hlt]) (by simp only; omega) (by simp only; omega) (by simp only; omega) (by simp only; omega) (by simp only; omega) hr hB hd

set_option maxRecDepth 100000 in
set_option maxHeartbeats 8000000 in
theorem tell_tick (p : PS) (B lb off cnt : Nat) (kind place node win num s0 s1 s2 : Int) (w : World) (hp : p.At B lb w) (ha : p.Agree cnt) (hlb : lb < w.heap.size) (hB : B ≤ w.heap.size)
    (hc : w.cell? ⟨lb, off, none⟩ = some (.pointer (some ⟨p.cb, 0, none⟩))) (hd : w.cell? ⟨lb, off + 1, none⟩ = some (.pointer (some ⟨p.db, 0, none⟩)))
    (hn : 0 ≤ num ∧ num ≤ topW) (hs : 0 ≤ s0 ∧ s0 ≤ topW ∧ 0 ≤ s1 ∧ s1 ≤ topL ∧ 0 ≤ s2) (hlen : (cnt + 2) * 16 ≤ 140737488355328) (hk : (kind == 4) = true) :
    Calls Try.prog 41 #[.pointer (some ⟨lb, off, none⟩), .agg #[.int .i64 kind, .int .i64 place, .int .u32 node, .int .u64 win, .int .u64 num, .int .u64 s0, .int .u32 s1, .int .u32 s2]] w (ToldP p B lb cnt w) := by
  have q3 : (kind == 3) = false := by rw [beq_iff_eq] at hk; rw [hk]; rfl
  have HP := Lib.hid hp
  have HA := Lib.hid ha
  have HN := Lib.hid hn
  have HS := Lib.hid hs
  have HLEN := Lib.hid hlen
  have HC := Lib.hid hc
  have HDc := Lib.hid hd
  have hcl : p.cb < w.heap.size := lt_of_heap hp.clk
  have hused := And.intro hlb hB
  have hnl : lb ≠ p.cb ∧ lb ≠ p.db := ⟨fun e => hp.loc (Or.inl e), fun e => hp.loc (Or.inr (Or.inl e))⟩
  have HNL := Lib.hid hnl
  clear hp ha hn hs hlen hnl
  go_enter Try.func41, Try.ntmps41
  go_wp2_with fail
  refine (tick_any p.cb p.win p.ceil p.node p.rd p.l0 p.l1 p.l2 _ (heap_alloc_old HP.out.clk _) HA.out.2.2.2.2.2.2.2.1 HA.out.2.2.2.2.2.2.2.2.1 HA.out.2.2.2.2.2.2.2.2.2.1 HA.out.2.2.2.2.2.2.2.2.2.2.1 HA.out.2.2.2.2.2.2.2.2.2.2.2.2.1).mono ?_
  rintro e w1 ⟨r0, r1, r2, er, n0, n1, n2, rfl, hR, hg1, hk1⟩
  have HR := Lib.hid hR
  have hX1 := Lib.hid (gb_heap hg1 (heap_alloc_at w (opO kind place node win num s0 s1 s2)) (by omega))
  have HG1 := Lib.hid (((Foot.refl (· = p.cb) w).alloc (opO kind place node win num s0 s1 s2)).trans (Foot.ofG hg1))
  have HK1 := Lib.hid hk1
  clear hg1 hk1 hR
  have hsz1 : w.heap.size < w1.heap.size := lt_of_heap hX1.out
  have hlb1 : lb < w1.heap.size := by omega
  obtain ⟨x0, x1, x2, x3, x4, x5, x6, x7⟩ := op_cells hX1.out
  have hc1 := foot_cell HG1.out HC.out (fun e => HNL.out.1 e)
  have hd1 := foot_cell HG1.out HDc.out (fun e => HNL.out.1 e)
  have HD1 := Lib.hid (foot_dat (HG1.out.mono (fun _ h => h)) HP.out.dat (fun e => HP.out.apart.1 e.symm) (fun e => HP.out.apart.2.1 e.symm) (fun e => HP.out.apart.2.2.1 e.symm) (fun e => HP.out.apart.2.2.2 e.symm))
  have hrl := mulb HA.out.2.2.2.2.2.1 HLEN.out
  have hrr := mulb HA.out.2.2.2.2.1 HLEN.out
  go_wp2_with fail
  refine (dtick_any p.db p.rg p.sg p.lg p.node p.win p.rd p.l0 p.l1 p.l2 p.R p.S p.L _ (foot_dat (F := fun _ => False) ((Foot.refl _ _).alloc _) HD1.out id id id id) hrl.2.1 hrr.2.2.1 HA.out.1 HA.out.2.1 HA.out.2.2.1 HA.out.2.2.2.2.2.2.2.1 HA.out.2.2.2.2.2.2.2.2.1 HA.out.2.2.2.2.2.2.2.2.2.1 HA.out.2.2.2.2.2.2.2.2.2.2.1 HA.out.2.2.2.2.2.2.2.2.2.2.2.2.1).mono ?_
  rintro e w2 ⟨t0, t1, t2, er', k0, k1, k2, sg', S', rfl, hR2, hS, hr, hF2, hd2⟩
  obtain ⟨rfl, rfl, rfl, rfl⟩ := tick_one HR.out hR2
  have HT := Lib.hid (foot_heap hF2 (heap_alloc_at w1 (stO t0 t1 t2)) (fun h => by have := HP.out.dat.le; rcases h with h | h <;> omega))
  have HS2 := Lib.hid hS
  have HR2 := Lib.hid hr
  have HF2 := Lib.hid hF2
  have HD2 := Lib.hid hd2
  clear hS hr hF2 hd2 hR2
  have hsz2 : w1.heap.size < w2.heap.size := lt_of_heap HT.out
  obtain ⟨t0', t1', t2'⟩ := st_cells HT.out
  go_wp2_with fail
  go_ret
  have hR : sg' = p.sg ∨ w.heap.size ≤ sg' := HR2.out.imp id (fun h => Nat.le_trans (Nat.le_of_lt hsz1) (Nat.le_trans (by simp) h))
  have hF : Foot p.F w w2 := ((HG1.out.mono (fun _ h => Or.inl h)).alloc _).trans (HF2.out.mono (fun _ h => h.elim (fun q => Or.inr (Or.inl q)) (fun q => Or.inr (Or.inr (Or.inr (Or.inl q))))))
  have hK : w2.heap[p.cb]? = some (clkO p.win p.ceil p.node p.rd n0 n1 n2) := foot_heap HF2.out (heap_alloc_old HK1.out _) (fun h => h.elim HP.out.apart.1 HP.out.apart.2.2.1)
  exact told_tick HP.out HA.out hlb (hF.alloc _) HR.out (heap_alloc_old hK _) HS2.out hR hB (foot_dat (F := fun _ => False) ((Foot.refl _ _).alloc _) HD2.out id id id id)

set_option maxRecDepth 100000 in
set_option maxHeartbeats 8000000 in
theorem tell_last (p : PS) (B lb off cnt : Nat) (kind place node win num s0 s1 s2 : Int) (w : World) (hp : p.At B lb w) (ha : p.Agree cnt) (hlb : lb < w.heap.size) (hB : B ≤ w.heap.size)
    (hc : w.cell? ⟨lb, off, none⟩ = some (.pointer (some ⟨p.cb, 0, none⟩))) (hd : w.cell? ⟨lb, off + 1, none⟩ = some (.pointer (some ⟨p.db, 0, none⟩)))
    (hn : 0 ≤ num ∧ num ≤ topW) (hs : 0 ≤ s0 ∧ s0 ≤ topW ∧ 0 ≤ s1 ∧ s1 ≤ topL ∧ 0 ≤ s2) (hlen : (cnt + 2) * 16 ≤ 140737488355328) (hk : (kind == 6) = true) :
    Calls Try.prog 41 #[.pointer (some ⟨lb, off, none⟩), .agg #[.int .i64 kind, .int .i64 place, .int .u32 node, .int .u64 win, .int .u64 num, .int .u64 s0, .int .u32 s1, .int .u32 s2]] w (ToldP p B lb cnt w) := by
  have q3 : (kind == 3) = false := by rw [beq_iff_eq] at hk; rw [hk]; rfl
  have q4 : (kind == 4) = false := by rw [beq_iff_eq] at hk; rw [hk]; rfl
  have q5 : (kind == 5) = false := by rw [beq_iff_eq] at hk; rw [hk]; rfl
  have HP := Lib.hid hp
  have HA := Lib.hid ha
  have HN := Lib.hid hn
  have HS := Lib.hid hs
  have HLEN := Lib.hid hlen
  have HC := Lib.hid hc
  have HDc := Lib.hid hd
  have hcl : p.cb < w.heap.size := lt_of_heap hp.clk
  have hused := And.intro hlb hB
  have hnl : lb ≠ p.cb ∧ lb ≠ p.db := ⟨fun e => hp.loc (Or.inl e), fun e => hp.loc (Or.inr (Or.inl e))⟩
  have HNL := Lib.hid hnl
  clear hp ha hn hs hlen hnl
  go_enter Try.func41, Try.ntmps41
  go_wp2_with fail
  refine (last_any p.cb p.win p.ceil p.node p.rd p.l0 p.l1 p.l2 _ (heap_alloc_old HP.out.clk _)).mono ?_
  rintro e w1 ⟨rfl, hb1⟩
  have hX1 := Lib.hid (below_heap hb1 (heap_alloc_at w (opO kind place node win num s0 s1 s2)) (by simp))
  have HB1 := Lib.hid (((Below.refl _ w).alloc (Nat.le_refl _) (opO kind place node win num s0 s1 s2)).trans (hb1.mono (by simp)))
  clear hb1
  have hsz1 : w.heap.size < w1.heap.size := lt_of_heap hX1.out
  have hlb1 : lb < w1.heap.size := by omega
  obtain ⟨x0, x1, x2, x3, x4, x5, x6, x7⟩ := op_cells hX1.out
  have hc1 := foot_cell (F := fun _ => False) (Foot.ofBelow HB1.out) HC.out id
  have hd1 := foot_cell (F := fun _ => False) (Foot.ofBelow HB1.out) HDc.out id
  have HD1 := Lib.hid (foot_dat (F := fun _ => False) (Foot.ofBelow HB1.out) HP.out.dat id id id id)
  have hrl := (mulb HA.out.2.2.2.2.2.1 HLEN.out).2.2.2
  go_wp2_with fail
  refine (dlast_any p.db p.rg p.sg p.lg p.node p.win p.R p.S p.L _ (foot_dat (F := fun _ => False) ((Foot.refl _ _).alloc _) HD1.out id id id id) hrl).mono ?_
  rintro e w2 ⟨rfl, hb2⟩
  rw [HA.out.2.2.1]
  have HT := Lib.hid (below_heap hb2 (heap_alloc_at w1 (stO p.l0 p.l1 p.l2)) (by simp))
  have HB2 := Lib.hid ((HB1.out.alloc (Nat.le_of_lt hsz1) _).trans (hb2.mono (by simp; omega)))
  clear hb2
  have hsz2 : w1.heap.size < w2.heap.size := lt_of_heap HT.out
  obtain ⟨t0', t1', t2'⟩ := st_cells HT.out
  go_wp2_with fail
  go_ret
  exact told_same HP.out HA.out (HB2.out.alloc HB2.out.size _)

set_option maxRecDepth 100000 in
set_option maxHeartbeats 8000000 in
theorem tell_ceil (p : PS) (B lb off cnt : Nat) (kind place node win num s0 s1 s2 : Int) (w : World) (hp : p.At B lb w) (ha : p.Agree cnt) (hlb : lb < w.heap.size) (hB : B ≤ w.heap.size)
    (hc : w.cell? ⟨lb, off, none⟩ = some (.pointer (some ⟨p.cb, 0, none⟩))) (hd : w.cell? ⟨lb, off + 1, none⟩ = some (.pointer (some ⟨p.db, 0, none⟩)))
    (hn : 0 ≤ num ∧ num ≤ topW) (hs : 0 ≤ s0 ∧ s0 ≤ topW ∧ 0 ≤ s1 ∧ s1 ≤ topL ∧ 0 ≤ s2) (hlen : (cnt + 2) * 16 ≤ 140737488355328) (hk : (kind == 9) = true) :
    Calls Try.prog 41 #[.pointer (some ⟨lb, off, none⟩), .agg #[.int .i64 kind, .int .i64 place, .int .u32 node, .int .u64 win, .int .u64 num, .int .u64 s0, .int .u32 s1, .int .u32 s2]] w (ToldP p B lb cnt w) := by
  have q3 : (kind == 3) = false := by rw [beq_iff_eq] at hk; rw [hk]; rfl
  have q4 : (kind == 4) = false := by rw [beq_iff_eq] at hk; rw [hk]; rfl
  have q5 : (kind == 5) = false := by rw [beq_iff_eq] at hk; rw [hk]; rfl
  have q6 : (kind == 6) = false := by rw [beq_iff_eq] at hk; rw [hk]; rfl
  have q7 : (kind == 7) = false := by rw [beq_iff_eq] at hk; rw [hk]; rfl
  have q8 : (kind == 8) = false := by rw [beq_iff_eq] at hk; rw [hk]; rfl
  have HP := Lib.hid hp
  have HA := Lib.hid ha
  have HN := Lib.hid hn
  have HS := Lib.hid hs
  have HLEN := Lib.hid hlen
  have HC := Lib.hid hc
  have HDc := Lib.hid hd
  have hcl : p.cb < w.heap.size := lt_of_heap hp.clk
  have hused := And.intro hlb hB
  have hnl : lb ≠ p.cb ∧ lb ≠ p.db := ⟨fun e => hp.loc (Or.inl e), fun e => hp.loc (Or.inr (Or.inl e))⟩
  have HNL := Lib.hid hnl
  clear hp ha hn hs hlen hnl
  go_enter Try.func41, Try.ntmps41
  go_wp2_with fail
  refine (ceiling_any p.cb p.win p.ceil p.node p.rd p.l0 p.l1 p.l2 _ (heap_alloc_old HP.out.clk _)).mono ?_
  rintro e w1 ⟨rfl, rfl⟩
  go_wp2_with fail
  refine (dceil_any p.db p.rg p.sg p.lg p.node p.win p.R p.S p.L _ (foot_dat (F := fun _ => False) ((Foot.refl _ _).alloc _) HP.out.dat id id id id) (mulb HA.out.2.2.2.2.2.2.1 HLEN.out).2.2.1).mono ?_
  rintro e w2 ⟨rfl, rfl⟩
  rw [HA.out.2.2.2.1]
  go_wp2_with fail
  go_ret
  exact told_same HP.out HA.out ((Below.refl _ _).alloc (Nat.le_refl _) _)

set_option maxRecDepth 100000 in
set_option maxHeartbeats 8000000 in
theorem tell_other (p : PS) (B lb off cnt : Nat) (kind place node win num s0 s1 s2 : Int) (w : World) (hp : p.At B lb w) (ha : p.Agree cnt) (hlb : lb < w.heap.size) (hB : B ≤ w.heap.size)
    (hc : w.cell? ⟨lb, off, none⟩ = some (.pointer (some ⟨p.cb, 0, none⟩))) (hd : w.cell? ⟨lb, off + 1, none⟩ = some (.pointer (some ⟨p.db, 0, none⟩)))
    (hn : 0 ≤ num ∧ num ≤ topW) (hs : 0 ≤ s0 ∧ s0 ≤ topW ∧ 0 ≤ s1 ∧ s1 ≤ topL ∧ 0 ≤ s2) (hlen : (cnt + 2) * 16 ≤ 140737488355328) (q3 : (kind == 3) = false) (q4 : (kind == 4) = false) (q5 : (kind == 5) = false) (q6 : (kind == 6) = false) (q7 : (kind == 7) = false) (q8 : (kind == 8) = false) (q9 : (kind == 9) = false) :
    Calls Try.prog 41 #[.pointer (some ⟨lb, off, none⟩), .agg #[.int .i64 kind, .int .i64 place, .int .u32 node, .int .u64 win, .int .u64 num, .int .u64 s0, .int .u32 s1, .int .u32 s2]] w (ToldP p B lb cnt w) := by
  have HP := Lib.hid hp
  have HA := Lib.hid ha
  have HN := Lib.hid hn
  have HS := Lib.hid hs
  have HLEN := Lib.hid hlen
  have HC := Lib.hid hc
  have HDc := Lib.hid hd
  have hcl : p.cb < w.heap.size := lt_of_heap hp.clk
  have hused := And.intro hlb hB
  have hnl : lb ≠ p.cb ∧ lb ≠ p.db := ⟨fun e => hp.loc (Or.inl e), fun e => hp.loc (Or.inr (Or.inl e))⟩
  have HNL := Lib.hid hnl
  clear hp ha hn hs hlen hnl
  go_enter Try.func41, Try.ntmps41
  go_wp2_with fail
  go_ret
  exact told_same HP.out HA.out ((Below.refl _ _).alloc (Nat.le_refl _) _)

end Go.Proofs.Ytlgkolmlcbfppaa
