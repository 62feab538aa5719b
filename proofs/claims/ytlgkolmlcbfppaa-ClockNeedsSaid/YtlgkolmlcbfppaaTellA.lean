/- tidemarklaw2.told: a call on a pair of clocks: it answers true, and both agree behind it. -/
import Derived.Test.YtlgkolmlcbfppaaPair
namespace Go.Proofs.Ytlgkolmlcbfppaa
open Go.RowKit

theorem foot_cell {F : Nat → Prop} {w w' : World} {a : Addr} {v : Value} (h : Foot F w w') (hc : w.cell? a = some v) (h1 : ¬ F a.block) : w'.cell? a = some v := by
  have hlt : a.block < w.heap.size := World.block_lt_of_cell? w a hc
  rw [World.cell?_of_block (h.block a.block hlt h1)]; exact hc

def opO (kind place node win num s0 s1 s2 : Int) : Obj := .cells #[.int .i64 kind, .int .i64 place, .int .u32 node, .int .u64 win, .int .u64 num, .int .u64 s0, .int .u32 s1, .int .u32 s2] 93 (0, 0)
theorem op_cells {w : World} {b : Nat} {kind place node win num s0 s1 s2 : Int} (h : w.heap[b]? = some (opO kind place node win num s0 s1 s2)) :
    w.cell? ⟨b, 0, none⟩ = some (.int .i64 kind) ∧ w.cell? ⟨b, 1, none⟩ = some (.int .i64 place) ∧ w.cell? ⟨b, 2, none⟩ = some (.int .u32 node) ∧ w.cell? ⟨b, 3, none⟩ = some (.int .u64 win) ∧
    w.cell? ⟨b, 4, none⟩ = some (.int .u64 num) ∧ w.cell? ⟨b, 5, none⟩ = some (.int .u64 s0) ∧ w.cell? ⟨b, 6, none⟩ = some (.int .u32 s1) ∧ w.cell? ⟨b, 7, none⟩ = some (.int .u32 s2) := by
  simp [World.cell?, h, opO]
theorem mulb {k cnt : Nat} (h : k ≤ cnt + 1) (hl : (cnt + 2) * 16 ≤ 140737488355328) : (k + 1) * 8 ≤ 140737488355328 ∧ (k + 1) * 16 ≤ 140737488355328 ∧ k * 8 ≤ 140737488355328 ∧ k * 16 ≤ 140737488355328 := by omega

set_option maxRecDepth 100000 in
set_option maxHeartbeats 8000000 in
theorem tell_read (p : PS) (B lb off cnt : Nat) (kind place node win num s0 s1 s2 : Int) (w : World) (hp : p.At B lb w) (ha : p.Agree cnt) (hlb : lb < w.heap.size) (hB : B ≤ w.heap.size)
    (hc : w.cell? ⟨lb, off, none⟩ = some (.pointer (some ⟨p.cb, 0, none⟩))) (hd : w.cell? ⟨lb, off + 1, none⟩ = some (.pointer (some ⟨p.db, 0, none⟩)))
    (hn : 0 ≤ num ∧ num ≤ topW) (hs : 0 ≤ s0 ∧ s0 ≤ topW ∧ 0 ≤ s1 ∧ s1 ≤ topL ∧ 0 ≤ s2) (hlen : (cnt + 2) * 16 ≤ 140737488355328) (hk : (kind == 3) = true) :
    Calls Try.prog 41 #[.pointer (some ⟨lb, off, none⟩), .agg #[.int .i64 kind, .int .i64 place, .int .u32 node, .int .u64 win, .int .u64 num, .int .u64 s0, .int .u32 s1, .int .u32 s2]] w (ToldP p B lb cnt w) := by
  have HP := Lib.hid hp
  have HA := Lib.hid ha
  have HN := Lib.hid hn
  have HS := Lib.hid hs
  have HLEN := Lib.hid hlen
  have HC := Lib.hid hc
  have HDc := Lib.hid hd
  have hcl : p.cb < w.heap.size := lt_of_heap hp.clk
  have hused := And.intro hlb hB
  have hnl : lb ≠ p.cb ∧ lb ≠ p.db := ⟨fun e => hp.loc (Or.inl e), fun e => hp.loc (Or.inr (Or.inl e))⟩
  have HNL := Lib.hid hnl
  clear hp ha hn hs hlen hnl
  go_enter Try.func41, Try.ntmps41
  go_wp2_with fail
  go_region_with ((go_at_call 15; refine (read_any p.cb p.win p.ceil p.node p.rd p.l0 p.l1 p.l2 num _ (heap_drew (heap_alloc_old HP.out.clk _))).mono ?_; rintro e w1 ⟨rfl, hg1, hk1⟩; have hX1 := Lib.hid (gb_heap hg1 (heap_drew (heap_alloc_at w (opO kind place node win num s0 s1 s2))) (by omega)); have HG1 := Lib.hid (((Foot.refl (· = p.cb) w).alloc (opO kind place node win num s0 s1 s2)).drew.trans (Foot.ofG hg1)); have HK1 := Lib.hid hk1; clear hg1 hk1))
  all_goals
    have hsz1 : w.heap.size < w1.heap.size := lt_of_heap hX1.out
    have hlb1 : lb < w1.heap.size := by omega
    obtain ⟨x0, x1, x2, x3, x4, x5, x6, x7⟩ := op_cells hX1.out
    have hc1 := foot_cell HG1.out HC.out (fun e => HNL.out.1 e)
    have hd1 := foot_cell HG1.out HDc.out (fun e => HNL.out.1 e)
    have HD1 := Lib.hid (foot_dat (HG1.out.mono (fun _ h => h)) HP.out.dat (fun e => HP.out.apart.1 e.symm) (fun e => HP.out.apart.2.1 e.symm) (fun e => HP.out.apart.2.2.1 e.symm) (fun e => HP.out.apart.2.2.2 e.symm))
    have hrl := (mulb HA.out.2.2.2.2.1 HLEN.out).1
    go_wp2_with fail
    go_region_with ((go_at_call 47; refine (dread_any p.db p.rg p.sg p.lg p.node p.win num p.R p.S p.L _ (foot_dat (F := fun _ => False) ((Foot.refl _ _).drew) HD1.out id id id id) hrl).mono ?_; rintro e w2 ⟨rg', rfl, hr, hF2, hd2⟩; have HR2 := Lib.hid hr; have HF2 := Lib.hid hF2; have HD2 := Lib.hid hd2; clear hr hF2 hd2))
    all_goals
      go_wp2_with fail
      go_ret
      have hR : rg' = p.rg ∨ w.heap.size ≤ rg' := HR2.out.imp id (fun h => Nat.le_trans (Nat.le_of_lt hsz1) h)
      have hF : Foot p.F w w2 := (HG1.out.mono (fun _ h => Or.inl h)).drew.trans (HF2.out.mono (fun _ h => h.elim (fun q => Or.inr (Or.inl q)) (fun q => Or.inr (Or.inr (Or.inl q)))))
      have hK : w2.heap[p.cb]? = some (clkO p.win p.ceil p.node num p.l0 p.l1 p.l2) := foot_heap HF2.out (heap_drew HK1.out) (fun h => h.elim HP.out.apart.1 HP.out.apart.2.1)
      exact told_read HP.out HA.out hlb HN.out.2 hF hK hR hB HD2.out

set_option maxRecDepth 100000 in
set_option maxHeartbeats 8000000 in
theorem tell_reserve (p : PS) (B lb off cnt : Nat) (kind place node win num s0 s1 s2 : Int) (w : World) (hp : p.At B lb w) (ha : p.Agree cnt) (hlb : lb < w.heap.size) (hB : B ≤ w.heap.size)
    (hc : w.cell? ⟨lb, off, none⟩ = some (.pointer (some ⟨p.cb, 0, none⟩))) (hd : w.cell? ⟨lb, off + 1, none⟩ = some (.pointer (some ⟨p.db, 0, none⟩)))
    (hn : 0 ≤ num ∧ num ≤ topW) (hs : 0 ≤ s0 ∧ s0 ≤ topW ∧ 0 ≤ s1 ∧ s1 ≤ topL ∧ 0 ≤ s2) (hlen : (cnt + 2) * 16 ≤ 140737488355328) (hk : (kind == 8) = true) :
    Calls Try.prog 41 #[.pointer (some ⟨lb, off, none⟩), .agg #[.int .i64 kind, .int .i64 place, .int .u32 node, .int .u64 win, .int .u64 num, .int .u64 s0, .int .u32 s1, .int .u32 s2]] w (ToldP p B lb cnt w) := by
  have q3 : (kind == 3) = false := by rw [beq_iff_eq] at hk; rw [hk]; rfl
  have q4 : (kind == 4) = false := by rw [beq_iff_eq] at hk; rw [hk]; rfl
  have q5 : (kind == 5) = false := by rw [beq_iff_eq] at hk; rw [hk]; rfl
  have q6 : (kind == 6) = false := by rw [beq_iff_eq] at hk; rw [hk]; rfl
  have q7 : (kind == 7) = false := by rw [beq_iff_eq] at hk; rw [hk]; rfl
  have HP := Lib.hid hp
  have HA := Lib.hid ha
  have HN := Lib.hid hn
  have HS := Lib.hid hs
  have HLEN := Lib.hid hlen
  have HC := Lib.hid hc
  have HDc := Lib.hid hd
  have hcl : p.cb < w.heap.size := lt_of_heap hp.clk
  have hused := And.intro hlb hB
  have hnl : lb ≠ p.cb ∧ lb ≠ p.db := ⟨fun e => hp.loc (Or.inl e), fun e => hp.loc (Or.inr (Or.inl e))⟩
  have HNL := Lib.hid hnl
  clear hp ha hn hs hlen hnl
  go_enter Try.func41, Try.ntmps41
  go_wp2_with fail
  go_region_with ((go_at_call 42; refine (reserve_any p.cb p.win p.ceil p.node p.rd p.l0 p.l1 p.l2 num _ (heap_drew (heap_alloc_old HP.out.clk _))).mono ?_; rintro e w1 ⟨rfl, hg1, hk1⟩; have hX1 := Lib.hid (gb_heap hg1 (heap_drew (heap_alloc_at w (opO kind place node win num s0 s1 s2))) (by omega)); have HG1 := Lib.hid (((Foot.refl (· = p.cb) w).alloc (opO kind place node win num s0 s1 s2)).drew.trans (Foot.ofG hg1)); have HK1 := Lib.hid hk1; clear hg1 hk1))
  all_goals
    have hsz1 : w.heap.size < w1.heap.size := lt_of_heap hX1.out
    have hlb1 : lb < w1.heap.size := by omega
    obtain ⟨x0, x1, x2, x3, x4, x5, x6, x7⟩ := op_cells hX1.out
    have hc1 := foot_cell HG1.out HC.out (fun e => HNL.out.1 e)
    have hd1 := foot_cell HG1.out HDc.out (fun e => HNL.out.1 e)
    have HD1 := Lib.hid (foot_dat (HG1.out.mono (fun _ h => h)) HP.out.dat (fun e => HP.out.apart.1 e.symm) (fun e => HP.out.apart.2.1 e.symm) (fun e => HP.out.apart.2.2.1 e.symm) (fun e => HP.out.apart.2.2.2 e.symm))
    have hrl := (mulb HA.out.2.2.2.2.2.2.1 HLEN.out).1
    go_wp2_with fail
    go_region_with ((go_at_call 52; refine (dreserve_any p.db p.rg p.sg p.lg p.node p.win num p.R p.S p.L _ (foot_dat (F := fun _ => False) ((Foot.refl _ _).drew) HD1.out id id id id) hrl).mono ?_; rintro e w2 ⟨lg', rfl, hr, hF2, hd2⟩; have HR2 := Lib.hid hr; have HF2 := Lib.hid hF2; have HD2 := Lib.hid hd2; clear hr hF2 hd2))
    all_goals
      go_wp2_with fail
      go_ret
      have hR : lg' = p.lg ∨ w.heap.size ≤ lg' := HR2.out.imp id (fun h => Nat.le_trans (Nat.le_of_lt hsz1) h)
      have hF : Foot p.F w w2 := (HG1.out.mono (fun _ h => Or.inl h)).drew.trans (HF2.out.mono (fun _ h => h.elim (fun q => Or.inr (Or.inl q)) (fun q => Or.inr (Or.inr (Or.inr (Or.inr q))))))
      have hK : w2.heap[p.cb]? = some (clkO p.win (max p.ceil num) p.node p.rd p.l0 p.l1 p.l2) := foot_heap HF2.out (heap_drew HK1.out) (fun h => h.elim HP.out.apart.1 HP.out.apart.2.2.2)
      exact told_reserve HP.out HA.out hlb hF hK hR hB HD2.out

end Go.Proofs.Ytlgkolmlcbfppaa
