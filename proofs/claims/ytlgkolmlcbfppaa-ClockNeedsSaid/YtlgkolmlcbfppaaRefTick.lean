/- The document's clock: Tick: the walk. -/
import Derived.Test.YtlgkolmlcbfppaaRefLast
import Derived.BigQuiet
import Derived.Deep.QuietTactic
namespace Go.Proofs.Ytlgkolmlcbfppaa
open Go.RowKit

theorem dt1 {node rd l0 l1 l2 : Int} (h : rd ≤ l0) (k : (l0 == 18446744073709551615) = true) : TickR node rd l0 l1 l2 0 0 0 11 l0 l1 l2 :=
  Or.inl ⟨rfl, rfl, rfl, rfl, rfl, rfl, rfl, Or.inr ⟨h, Or.inl (by simpa [topW] using k)⟩⟩
theorem dt2 {node rd l0 l1 l2 : Int} (h0 : 0 ≤ l0) (h0' : l0 ≤ topW) (h : rd ≤ l0) (k : (l0 == 18446744073709551615) = false) (q : (l1 == 4294967295) = true) (r : (IntKind.u64.wrap (l0 + 1) == 18446744073709551615) = true) : TickR node rd l0 l1 l2 0 0 0 11 l0 l1 l2 := by
  have hl := lt_topW h0' k
  rw [wrap_u64 _ (by omega) (by omega)] at r
  have : l0 + 1 = topW := by simpa [topW] using r
  exact Or.inl ⟨rfl, rfl, rfl, rfl, rfl, rfl, rfl, Or.inr ⟨h, Or.inr ⟨by omega, by simpa [topL] using q⟩⟩⟩
theorem dt3 {node rd l0 l1 l2 : Int} (h0 : 0 ≤ l0) (h0' : l0 ≤ topW) (h : rd ≤ l0) (k : (l0 == 18446744073709551615) = false) (q : (l1 == 4294967295) = true) (r : (IntKind.u64.wrap (l0 + 1) == 18446744073709551615) = false) :
    TickR node rd l0 l1 l2 (IntKind.u64.wrap (l0 + 1)) 0 node 0 (IntKind.u64.wrap (l0 + 1)) 0 node := by
  have hl := lt_topW h0' k
  rw [wrap_u64 _ (by omega) (by omega)] at r ⊢
  have : l0 + 1 ≠ topW := by simpa [topW] using r
  exact Or.inr ⟨rfl, rfl, by omega, rfl, rfl, rfl, Or.inr (Or.inr ⟨h, by simpa [topL] using q, by omega, rfl, rfl⟩)⟩
theorem dt4 {node rd l0 l1 l2 : Int} (h0' : l0 ≤ topW) (h1 : 0 ≤ l1) (h1' : l1 ≤ topL) (h : rd ≤ l0) (k : (l0 == 18446744073709551615) = false) (q : (l1 == 4294967295) = false) :
    TickR node rd l0 l1 l2 l0 ((l1 + 1) % 4294967296) node 0 l0 ((l1 + 1) % 4294967296) node := by
  have hl := lt_topW h0' k
  have hq : l1 ≠ topL := by simpa [topL] using q
  have e : (l1 + 1) % 4294967296 = l1 + 1 := by unfold topL at *; omega
  rw [e]
  exact Or.inr ⟨rfl, rfl, hl, rfl, rfl, rfl, Or.inr (Or.inl ⟨h, by omega, rfl, rfl⟩)⟩
theorem foot_st3 {F : Nat → Prop} {u w : World} {g : Nat} (h : Foot F u w) (hg : u.heap.size ≤ g) (x y z : Int) :
    Foot F u (((w.setCell ⟨g, 0, none⟩ (.int .u64 x)).setCell ⟨g, 1, none⟩ (.int .u32 y)).setCell ⟨g, 2, none⟩ (.int .u32 z)) :=
  ⟨h.os, h.tape, h.output, by simpa [World.setCell] using h.size, fun i hi h1 => by
    rw [Below.heap_setCell _ _ _ _ (by show i ≠ g; omega), Below.heap_setCell _ _ _ _ (by show i ≠ g; omega), Below.heap_setCell _ _ _ _ (by show i ≠ g; omega)]
    exact h.block i hi h1⟩
theorem dat_st3 {w : World} {g db rg sg lg : Nat} {node win : Int} {R : List Int} {S : List St} {L : List Int} (h : DAt w db rg sg lg node win R S L) (h0 : g ≠ db) (h1 : g ≠ rg ∧ g ≠ sg ∧ g ≠ lg) (x y z : Int) :
    DAt (((w.setCell ⟨g, 0, none⟩ (.int .u64 x)).setCell ⟨g, 1, none⟩ (.int .u32 y)).setCell ⟨g, 2, none⟩ (.int .u32 z)) db rg sg lg node win R S L :=
  foot_dat (F := (· = g)) (Foot.set (F := (· = g)) (Foot.set (F := (· = g)) (Foot.set (F := (· = g)) (Foot.refl _ _) rfl 0 _) rfl 1 _) rfl 2 _) h (fun e => h0 e.symm) (fun e => h1.1 e.symm) (fun e => h1.2.1 e.symm) (fun e => h1.2.2 e.symm)

def DTickP (db rg sg lg : Nat) (node win rd l0 l1 l2 : Int) (R : List Int) (S : List St) (L : List Int) (w : World) (e : Ending) (w' : World) : Prop :=
  ∃ (s0 s1 s2 er n0 n1 n2 : Int) (sg' : Nat) (S' : List St), e = .returned (.tuple #[.agg #[.int .u64 s0, .int .u32 s1, .int .u32 s2], .int .i64 er]) ∧ TickR node rd l0 l1 l2 s0 s1 s2 er n0 n1 n2 ∧
    ((er = 11 ∧ S' = S) ∨ (er = 0 ∧ S' = S ++ [⟨s0, s1, s2⟩])) ∧ (sg' = sg ∨ w.heap.size ≤ sg') ∧ Foot (fun k => k = db ∨ k = sg) w w' ∧ DAt w' db rg sg' lg node win R S' L

set_option maxRecDepth 100000 in
set_option maxHeartbeats 4000000 in
theorem dtick_any (db rg sg lg : Nat) (node win rd l0 l1 l2 : Int) (R : List Int) (S : List St) (L : List Int) (w : World) (hd : DAt w db rg sg lg node win R S L) (hlen : (S.length + 1) * 16 ≤ 140737488355328)
    (hrl : R.length * 8 ≤ 140737488355328) (hr0 : 1 ≤ R.length) (hrd : intAt R (R.length - 1) = rd) (hm : maxTo (stAt S) S.length = ⟨l0, l1, l2⟩) (h0 : 0 ≤ l0) (h0' : l0 ≤ topW) (h1 : 0 ≤ l1) (h1' : l1 ≤ topL) (hrt : rd ≤ topW) :
    Calls Try.prog 48 #[.pointer (some ⟨db, 0, none⟩)] w (DTickP db rg sg lg node win rd l0 l1 l2 R S L w) := by
  obtain ⟨i31, hi, hz, hz1', hz2'⟩ := info_parts Try.info31
  have HD := Lib.hid hd
  have HLEN := Lib.hid hlen
  have HRD := Lib.hid hrd
  have HM := Lib.hid hm
  have hdl := hd.le.2.2.2
  have hrl' := hd.le.1
  clear hd hlen hrd hm
  have hq1 : (1 : Int) ≤ (R.length : Int) := by omega
  have hq2 : (R.length : Int) ≤ 9223372036854775807 := by omega
  go_enter Try.func48, Try.ntmps48
  go_wp2_with fail
  with_reducible refine (dlast_any db rg sg lg node win R S L _ (foot_dat (F := fun _ => False) (Foot.ofBelow ((Below.refl _ _).alloc (Nat.le_refl _) _)) HD.out id id id id) (by have := HLEN.out; omega)).mono ?_
  rintro e w1 ⟨rfl, hb1⟩
  rw [HM.out]
  have hz1 := Lib.hid (below_heap hb1 (heap_alloc_at w (stO 0 0 0)) (by simp))
  have hB1 := Lib.hid (((Below.refl _ _).alloc (Nat.le_refl _) _).trans (hb1.mono (Nat.le_of_lt (by simp))))
  have hsz1 : w.heap.size < w1.heap.size := by have := hb1.size; rw [World.size_alloc] at this; omega
  clear hb1
  have hD1 := Lib.hid (foot_dat (F := fun _ => False) ((Foot.ofBelow hB1.out)) HD.out id id id id)
  obtain ⟨⟨rc, sc, lc, hb, hr, hs, hl⟩, ha, hle⟩ := hD1.out
  have HB := Lib.hid hb
  have HS := Lib.hid hs
  have HA := Lib.hid ha
  have HLE := Lib.hid hle
  obtain ⟨c0, c1, c2, c3, c4⟩ := ref_cells hb
  unfold sl at c2
  have d0 := own_int hr (R.length - 1) (by omega)
  rw [HRD.out] at d0
  have hrl1 : rg < w1.heap.size := hle.1
  have hdl1 : db < w1.heap.size := hle.2.2.2
  clear hb hr hs hl ha hle c1 c3 c4
  obtain ⟨z0, z1, z2⟩ := st_cells hz1.out
  have zf := st_free hz1.out
  go_wp2_with fail
  go_quiet (fail)
  go_wp2_with fail
  · exact end_st2 (p := 2) (u := 3) Try.results48 rfl rfl (heap_alloc_old (st_set3 (heap_drewN (n := nq) (heap_alloc_old hz1.out (stO l0 l1 l2))) 0 0 0) _) rfl ⟨0, 0, 0, 11, l0, l1, l2, sg, S, rfl, dt1 ‹_› ‹_›, Or.inl ⟨rfl, rfl⟩, Or.inl rfl, Foot.ofBelow ((below_st3 (below_drewN (hB1.out.alloc (Nat.le_of_lt hsz1) (stO l0 l1 l2)) nq) (Nat.le_refl _) 0 0 0).alloc (by simp; omega) _), foot_dat (F := fun _ => False) (Foot.ofBelow ((below_st3 (below_drewN (hB1.out.alloc (Nat.le_of_lt hsz1) (stO l0 l1 l2)) nq) (Nat.le_refl _) 0 0 0).alloc (by simp; omega) _)) HD.out id id id id⟩
  · exact end_st2 (p := 2) (u := 3) Try.results48 rfl rfl (heap_alloc_old (st_set3 (heap_drewN (n := nq) (heap_alloc_old hz1.out (stO l0 l1 l2))) 0 0 0) _) rfl ⟨0, 0, 0, 11, l0, l1, l2, sg, S, rfl, dt2 h0 h0' ‹_› ‹_› ‹_› ‹_›, Or.inl ⟨rfl, rfl⟩, Or.inl rfl, Foot.ofBelow ((below_st3 (below_drewN (hB1.out.alloc (Nat.le_of_lt hsz1) (stO l0 l1 l2)) nq) (Nat.le_refl _) 0 0 0).alloc (by simp; omega) _), foot_dat (F := fun _ => False) (Foot.ofBelow ((below_st3 (below_drewN (hB1.out.alloc (Nat.le_of_lt hsz1) (stO l0 l1 l2)) nq) (Nat.le_refl _) 0 0 0).alloc (by simp; omega) _)) HD.out id id id id⟩
  · have hW1 := Lib.hid (heap_alloc_at ((w1.alloc (stO l0 l1 l2)).drewN nq) (stO (IntKind.u64.wrap (l0 + 1)) (0) node))
    have hW2 := Lib.hid (heap_alloc_old (heap_drewN (n := nq) (heap_alloc_old hz1.out (stO l0 l1 l2))) (stO (IntKind.u64.wrap (l0 + 1)) (0) node))
    have hW3 := Lib.hid (below_drewN (hB1.out.alloc (Nat.le_of_lt hsz1) (stO l0 l1 l2)) nq)
    have hW4 := Lib.hid (hW3.out.alloc (show w.heap.size ≤ ((w1.alloc (stO l0 l1 l2)).drewN nq).heap.size by simp; omega) (stO (IntKind.u64.wrap (l0 + 1)) (0) node))
    change Code.wp _ _ _ _ (((w1.alloc (stO l0 l1 l2)).drewN nq).alloc (stO (IntKind.u64.wrap (l0 + 1)) (0) node))
    have hsx : ((w1.alloc (stO l0 l1 l2)).drewN nq).heap.size = w1.heap.size + 1 := by simp
    have hsW : (((w1.alloc (stO l0 l1 l2)).drewN nq).alloc (stO (IntKind.u64.wrap (l0 + 1)) (0) node)).heap.size = w1.heap.size + 1 + 1 := by simp
    rw [hsx] at hW1
    have hsW' := Lib.hid hsW
    clear hW3 c0 c2 d0 z0 z1 z2 zf HB HS HA HLE hz1 hB1 hsx hsW
    generalize (((w1.alloc (stO l0 l1 l2)).drewN nq).alloc (stO (IntKind.u64.wrap (l0 + 1)) (0) node)) = W at *
    have hD2 := Lib.hid (foot_dat (F := fun _ => False) (Foot.ofBelow hW4.out) HD.out id id id id)
    obtain ⟨⟨rc2, sc2, lc2, hb, hr, hs, hl⟩, ha, hle⟩ := hD2.out
    have HB := Lib.hid hb
    have HR := Lib.hid hr
    have HS := Lib.hid hs
    have HL := Lib.hid hl
    have HA := Lib.hid ha
    have HLE := Lib.hid hle
    obtain ⟨c0, c1, c2, c3, c4⟩ := ref_cells hb
    unfold sl at c3
    have hdlW : db < W.heap.size := hle.2.2.2
    have hsW := hsW'.out
    have hw1W : w1.heap.size + 1 < W.heap.size := by omega
    have hwW : w.heap.size < W.heap.size := by omega
    obtain ⟨t0, t1, t2⟩ := st_cells hW1.out
    clear hb hr hs hl ha hle c0 c1 c2 c4 hsW
    go_region_law (first
      | (refine step_append_lies (P := Try.prog) _ rfl (.tmp 58) (.tmp 60) 97 rfl 0 31 i31 (.agg #[.int .u64 0, .int .u32 0, .int .u32 0]) 3 16 Try.underlying97 hi hz hz1' hz2' rfl (by decide) (sl sg S.length sc2) S.length (stCells S) rfl ((HS.out.alloc _).drew) ⟨W.heap.size, 0, none⟩ 1 1 [.int .u64 ((IntKind.u64.wrap (l0 + 1))), .int .u32 ((0)), .int .u32 node] rfl rfl (World.news_of_block (heap_drew (heap_alloc_at W _))) (by simp [Value.oneCell']) (by decide) (by have := HLEN.out; unfold maxLen; omega) HLEN.out (Nat.zero_le _) (W.heap.size + 1) (by simp) ?_; intro g cap w5 hown hgrow hat hlt; have hb1 := Lib.hid (gb_heap hgrow (heap_drew (heap_alloc_old HB.out _)) HA.out.2.1); obtain ⟨c0, c1, c2, c3, c4⟩ := ref_cells hb1.out; have cf := ref_free hb1.out 3; have HO := Lib.hid hown; have HG := Lib.hid hgrow; have HT := Lib.hid hat; clear hown hgrow hat))
    all_goals
      obtain ⟨h1, h2, h3⟩ := close_s (z := ⟨(IntKind.u64.wrap (l0 + 1)), (0), node⟩) (((Below.refl _ _).alloc (Nat.le_refl _) _).drew) HB.out HR.out HL.out HA.out HLE.out HO.out HG.out (HT.out.imp (fun h => by injection h) fun h => by simpa using h) hlt
      have hsg := HLE.out.2.1
      have hq : w.heap.size ≠ db ∧ w1.heap.size + 1 ≠ db ∧ w.heap.size ≠ sg ∧ w1.heap.size + 1 ≠ sg := by have := HD.out.le; omega
      have H1 := Lib.hid (foot_heap h2 hW1.out (fun h => by rcases h with h | h <;> omega))
      have H2 := Lib.hid (foot_heap h2 hW2.out (fun h => by rcases h with h | h <;> omega))
      have hF := Lib.hid (((Foot.ofBelow hW4.out).mono (fun _ h => h)).trans h2)
      have hX := Lib.hid h1
      have hY := Lib.hid h3
      clear h1 h2 h3 c0 c1 c2 c3 c4 cf t0 t1 t2
      generalize w5.setCell ⟨db, 3, none⟩ (.slice (some ⟨g, 0, none⟩) (S.length + 1) cap) = w6 at *
      obtain ⟨t0, t1, t2⟩ := st_cells H1.out
      obtain ⟨z0, z1, z2⟩ := st_cells H2.out
      have zf := st_free H2.out
      go_wp2_with fail
      have hne : ∀ k, k < w.heap.size → k ≠ w.heap.size := fun k h => by omega
      refine end_st2 (p := 2) (u := 3) Try.results48 rfl rfl (st_set3 H2.out ((IntKind.u64.wrap (l0 + 1))) ((0)) node) rfl ⟨(IntKind.u64.wrap (l0 + 1)), (0), node, 0, (IntKind.u64.wrap (l0 + 1)), (0), node, g, S ++ [⟨(IntKind.u64.wrap (l0 + 1)), (0), node⟩], rfl, dt3 h0 h0' ‹_› ‹_› ‹_› ‹_›, Or.inr ⟨rfl, rfl⟩, hX.out.imp id (Nat.le_trans (Nat.le_of_lt hwW)), foot_st3 hF.out (Nat.le_refl _) _ _ _, ?_⟩
      exact dat_st3 hY.out hq.1 (by have := hX.out; have := HD.out.le; omega) _ _ _
  · have hW1 := Lib.hid (heap_alloc_at ((w1.alloc (stO l0 l1 l2)).drewN nq) (stO (l0) ((l1 + 1) % 4294967296) node))
    have hW2 := Lib.hid (heap_alloc_old (heap_drewN (n := nq) (heap_alloc_old hz1.out (stO l0 l1 l2))) (stO (l0) ((l1 + 1) % 4294967296) node))
    have hW3 := Lib.hid (below_drewN (hB1.out.alloc (Nat.le_of_lt hsz1) (stO l0 l1 l2)) nq)
    have hW4 := Lib.hid (hW3.out.alloc (show w.heap.size ≤ ((w1.alloc (stO l0 l1 l2)).drewN nq).heap.size by simp; omega) (stO (l0) ((l1 + 1) % 4294967296) node))
    change Code.wp _ _ _ _ (((w1.alloc (stO l0 l1 l2)).drewN nq).alloc (stO (l0) ((l1 + 1) % 4294967296) node))
    have hsx : ((w1.alloc (stO l0 l1 l2)).drewN nq).heap.size = w1.heap.size + 1 := by simp
    have hsW : (((w1.alloc (stO l0 l1 l2)).drewN nq).alloc (stO (l0) ((l1 + 1) % 4294967296) node)).heap.size = w1.heap.size + 1 + 1 := by simp
    rw [hsx] at hW1
    have hsW' := Lib.hid hsW
    clear hW3 c0 c2 d0 z0 z1 z2 zf HB HS HA HLE hz1 hB1 hsx hsW
    generalize (((w1.alloc (stO l0 l1 l2)).drewN nq).alloc (stO (l0) ((l1 + 1) % 4294967296) node)) = W at *
    have hD2 := Lib.hid (foot_dat (F := fun _ => False) (Foot.ofBelow hW4.out) HD.out id id id id)
    obtain ⟨⟨rc2, sc2, lc2, hb, hr, hs, hl⟩, ha, hle⟩ := hD2.out
    have HB := Lib.hid hb
    have HR := Lib.hid hr
    have HS := Lib.hid hs
    have HL := Lib.hid hl
    have HA := Lib.hid ha
    have HLE := Lib.hid hle
    obtain ⟨c0, c1, c2, c3, c4⟩ := ref_cells hb
    unfold sl at c3
    have hdlW : db < W.heap.size := hle.2.2.2
    have hsW := hsW'.out
    have hw1W : w1.heap.size + 1 < W.heap.size := by omega
    have hwW : w.heap.size < W.heap.size := by omega
    obtain ⟨t0, t1, t2⟩ := st_cells hW1.out
    clear hb hr hs hl ha hle c0 c1 c2 c4 hsW
    go_region_law (first
      | (refine step_append_lies (P := Try.prog) _ rfl (.tmp 58) (.tmp 60) 97 rfl 0 31 i31 (.agg #[.int .u64 0, .int .u32 0, .int .u32 0]) 3 16 Try.underlying97 hi hz hz1' hz2' rfl (by decide) (sl sg S.length sc2) S.length (stCells S) rfl ((HS.out.alloc _).drew) ⟨W.heap.size, 0, none⟩ 1 1 [.int .u64 ((l0)), .int .u32 (((l1 + 1) % 4294967296)), .int .u32 node] rfl rfl (World.news_of_block (heap_drew (heap_alloc_at W _))) (by simp [Value.oneCell']) (by decide) (by have := HLEN.out; unfold maxLen; omega) HLEN.out (Nat.zero_le _) (W.heap.size + 1) (by simp) ?_; intro g cap w5 hown hgrow hat hlt; have hb1 := Lib.hid (gb_heap hgrow (heap_drew (heap_alloc_old HB.out _)) HA.out.2.1); obtain ⟨c0, c1, c2, c3, c4⟩ := ref_cells hb1.out; have cf := ref_free hb1.out 3; have HO := Lib.hid hown; have HG := Lib.hid hgrow; have HT := Lib.hid hat; clear hown hgrow hat))
    all_goals
      obtain ⟨h1, h2, h3⟩ := close_s (z := ⟨(l0), ((l1 + 1) % 4294967296), node⟩) (((Below.refl _ _).alloc (Nat.le_refl _) _).drew) HB.out HR.out HL.out HA.out HLE.out HO.out HG.out (HT.out.imp (fun h => by injection h) fun h => by simpa using h) hlt
      have hsg := HLE.out.2.1
      have hq : w.heap.size ≠ db ∧ w1.heap.size + 1 ≠ db ∧ w.heap.size ≠ sg ∧ w1.heap.size + 1 ≠ sg := by have := HD.out.le; omega
      have H1 := Lib.hid (foot_heap h2 hW1.out (fun h => by rcases h with h | h <;> omega))
      have H2 := Lib.hid (foot_heap h2 hW2.out (fun h => by rcases h with h | h <;> omega))
      have hF := Lib.hid (((Foot.ofBelow hW4.out).mono (fun _ h => h)).trans h2)
      have hX := Lib.hid h1
      have hY := Lib.hid h3
      clear h1 h2 h3 c0 c1 c2 c3 c4 cf t0 t1 t2
      generalize w5.setCell ⟨db, 3, none⟩ (.slice (some ⟨g, 0, none⟩) (S.length + 1) cap) = w6 at *
      obtain ⟨t0, t1, t2⟩ := st_cells H1.out
      obtain ⟨z0, z1, z2⟩ := st_cells H2.out
      have zf := st_free H2.out
      go_wp2_with fail
      have hne : ∀ k, k < w.heap.size → k ≠ w.heap.size := fun k h => by omega
      refine end_st2 (p := 2) (u := 3) Try.results48 rfl rfl (st_set3 H2.out ((l0)) (((l1 + 1) % 4294967296)) node) rfl ⟨(l0), ((l1 + 1) % 4294967296), node, 0, (l0), ((l1 + 1) % 4294967296), node, g, S ++ [⟨(l0), ((l1 + 1) % 4294967296), node⟩], rfl, dt4 h0' h1 h1' ‹_› ‹_› ‹_›, Or.inr ⟨rfl, rfl⟩, hX.out.imp id (Nat.le_trans (Nat.le_of_lt hwW)), foot_st3 hF.out (Nat.le_refl _) _ _ _, ?_⟩
      exact dat_st3 hY.out hq.1 (by have := hX.out; have := HD.out.le; omega) _ _ _
  · exact end_st2 (p := 2) (u := 3) Try.results48 rfl rfl (heap_alloc_old (st_set3 (heap_drewN (n := nq) (heap_alloc_old hz1.out (stO l0 l1 l2))) 0 0 0) _) rfl ⟨0, 0, 0, 11, l0, l1, l2, sg, S, rfl, tk1 ‹_› ‹_›, Or.inl ⟨rfl, rfl⟩, Or.inl rfl, Foot.ofBelow ((below_st3 (below_drewN (hB1.out.alloc (Nat.le_of_lt hsz1) (stO l0 l1 l2)) nq) (Nat.le_refl _) 0 0 0).alloc (by simp; omega) _), foot_dat (F := fun _ => False) (Foot.ofBelow ((below_st3 (below_drewN (hB1.out.alloc (Nat.le_of_lt hsz1) (stO l0 l1 l2)) nq) (Nat.le_refl _) 0 0 0).alloc (by simp; omega) _)) HD.out id id id id⟩
  · have hW1 := Lib.hid (heap_alloc_at ((w1.alloc (stO l0 l1 l2)).drewN nq) (stO (rd) (0) node))
    have hW2 := Lib.hid (heap_alloc_old (heap_drewN (n := nq) (heap_alloc_old hz1.out (stO l0 l1 l2))) (stO (rd) (0) node))
    have hW3 := Lib.hid (below_drewN (hB1.out.alloc (Nat.le_of_lt hsz1) (stO l0 l1 l2)) nq)
    have hW4 := Lib.hid (hW3.out.alloc (show w.heap.size ≤ ((w1.alloc (stO l0 l1 l2)).drewN nq).heap.size by simp; omega) (stO (rd) (0) node))
    change Code.wp _ _ _ _ (((w1.alloc (stO l0 l1 l2)).drewN nq).alloc (stO (rd) (0) node))
    have hsx : ((w1.alloc (stO l0 l1 l2)).drewN nq).heap.size = w1.heap.size + 1 := by simp
    have hsW : (((w1.alloc (stO l0 l1 l2)).drewN nq).alloc (stO (rd) (0) node)).heap.size = w1.heap.size + 1 + 1 := by simp
    rw [hsx] at hW1
    have hsW' := Lib.hid hsW
    clear hW3 c0 c2 d0 z0 z1 z2 zf HB HS HA HLE hz1 hB1 hsx hsW
    generalize (((w1.alloc (stO l0 l1 l2)).drewN nq).alloc (stO (rd) (0) node)) = W at *
    have hD2 := Lib.hid (foot_dat (F := fun _ => False) (Foot.ofBelow hW4.out) HD.out id id id id)
    obtain ⟨⟨rc2, sc2, lc2, hb, hr, hs, hl⟩, ha, hle⟩ := hD2.out
    have HB := Lib.hid hb
    have HR := Lib.hid hr
    have HS := Lib.hid hs
    have HL := Lib.hid hl
    have HA := Lib.hid ha
    have HLE := Lib.hid hle
    obtain ⟨c0, c1, c2, c3, c4⟩ := ref_cells hb
    unfold sl at c3
    have hdlW : db < W.heap.size := hle.2.2.2
    have hsW := hsW'.out
    have hw1W : w1.heap.size + 1 < W.heap.size := by omega
    have hwW : w.heap.size < W.heap.size := by omega
    obtain ⟨t0, t1, t2⟩ := st_cells hW1.out
    clear hb hr hs hl ha hle c0 c1 c2 c4 hsW
    go_region_law (first
      | (refine step_append_lies (P := Try.prog) _ rfl (.tmp 58) (.tmp 60) 97 rfl 0 31 i31 (.agg #[.int .u64 0, .int .u32 0, .int .u32 0]) 3 16 Try.underlying97 hi hz hz1' hz2' rfl (by decide) (sl sg S.length sc2) S.length (stCells S) rfl ((HS.out.alloc _).drew) ⟨W.heap.size, 0, none⟩ 1 1 [.int .u64 ((rd)), .int .u32 ((0)), .int .u32 node] rfl rfl (World.news_of_block (heap_drew (heap_alloc_at W _))) (by simp [Value.oneCell']) (by decide) (by have := HLEN.out; unfold maxLen; omega) HLEN.out (Nat.zero_le _) (W.heap.size + 1) (by simp) ?_; intro g cap w5 hown hgrow hat hlt; have hb1 := Lib.hid (gb_heap hgrow (heap_drew (heap_alloc_old HB.out _)) HA.out.2.1); obtain ⟨c0, c1, c2, c3, c4⟩ := ref_cells hb1.out; have cf := ref_free hb1.out 3; have HO := Lib.hid hown; have HG := Lib.hid hgrow; have HT := Lib.hid hat; clear hown hgrow hat))
    all_goals
      obtain ⟨h1, h2, h3⟩ := close_s (z := ⟨(rd), (0), node⟩) (((Below.refl _ _).alloc (Nat.le_refl _) _).drew) HB.out HR.out HL.out HA.out HLE.out HO.out HG.out (HT.out.imp (fun h => by injection h) fun h => by simpa using h) hlt
      have hsg := HLE.out.2.1
      have hq : w.heap.size ≠ db ∧ w1.heap.size + 1 ≠ db ∧ w.heap.size ≠ sg ∧ w1.heap.size + 1 ≠ sg := by have := HD.out.le; omega
      have H1 := Lib.hid (foot_heap h2 hW1.out (fun h => by rcases h with h | h <;> omega))
      have H2 := Lib.hid (foot_heap h2 hW2.out (fun h => by rcases h with h | h <;> omega))
      have hF := Lib.hid (((Foot.ofBelow hW4.out).mono (fun _ h => h)).trans h2)
      have hX := Lib.hid h1
      have hY := Lib.hid h3
      clear h1 h2 h3 c0 c1 c2 c3 c4 cf t0 t1 t2
      generalize w5.setCell ⟨db, 3, none⟩ (.slice (some ⟨g, 0, none⟩) (S.length + 1) cap) = w6 at *
      obtain ⟨t0, t1, t2⟩ := st_cells H1.out
      obtain ⟨z0, z1, z2⟩ := st_cells H2.out
      have zf := st_free H2.out
      go_wp2_with fail
      have hne : ∀ k, k < w.heap.size → k ≠ w.heap.size := fun k h => by omega
      refine end_st2 (p := 2) (u := 3) Try.results48 rfl rfl (st_set3 H2.out ((rd)) ((0)) node) rfl ⟨(rd), (0), node, 0, (rd), (0), node, g, S ++ [⟨(rd), (0), node⟩], rfl, tk2 hrt ‹_› ‹_›, Or.inr ⟨rfl, rfl⟩, hX.out.imp id (Nat.le_trans (Nat.le_of_lt hwW)), foot_st3 hF.out (Nat.le_refl _) _ _ _, ?_⟩
      exact dat_st3 hY.out hq.1 (by have := hX.out; have := HD.out.le; omega) _ _ _

end Go.Proofs.Ytlgkolmlcbfppaa
