/- The document's clock: New and Reopen: the walks. -/
import Derived.Test.YtlgkolmlcbfppaaRefNeed
namespace Go.Proofs.Ytlgkolmlcbfppaa
open Go.RowKit

theorem gb_heap1 {a w : World} {b : Nat} {o : Obj} (h : a.grownBy w none) (hb : a.heap[b]? = some o) : w.heap[b]? = some o := by
  rw [h.block b (lt_of_heap hb) (by simp)]; exact hb
theorem heap_alloc_eqn {w : World} {g : Nat} (h : g = w.heap.size) (o : Obj) : (w.alloc o).heap[g]? = some o := by subst h; exact heap_alloc_at w o
theorem foot_none {F : Nat → Prop} {w w' : World} (h : w.grownBy w' none) : Foot F w w' := ⟨h.os, h.tape, h.output, h.size, fun k hk _ => h.block k hk (by simp)⟩

def DNewP (node win ceil : Int) (w : World) (e : Ending) (w' : World) : Prop :=
  ∃ db rg sg lg : Nat, w.heap.size ≤ db ∧ w.heap.size ≤ rg ∧ w.heap.size ≤ sg ∧ w.heap.size ≤ lg ∧ e = .returned (.pointer (some ⟨db, 0, none⟩)) ∧ Below w.heap.size w w' ∧ DAt w' db rg sg lg node win [0] [⟨ceil, 0, 0⟩] [ceil]

set_option maxRecDepth 100000 in
set_option maxHeartbeats 4000000 in
theorem dreopen_any (node win ceil : Int) (w : World) : Calls Try.prog 46 #[.int .u32 node, .int .u64 win, .int .u64 ceil] w (DNewP node win ceil w) := by
  obtain ⟨i24, hi, hz, hz1, hz2⟩ := info_parts Try.info24
  obtain ⟨i31, hj, hy, hy1, hy2⟩ := info_parts Try.info31
  have HN := Lib.hid (heap_alloc_at w (refO node win (.slice none 0 0) (.slice none 0 0) (.slice none 0 0)))
  go_enter Try.func46, Try.ntmps46
  go_wp2_with (at_builtin; first
    | (refine wpList_append_lies (P := Try.prog) _ rfl (.tmp 16) (.tmp 17) 101 rfl 0 24 i24 (.int .u64 0) 1 8 Try.underlying101 hi hz hz1 hz2 rfl (by decide) (.slice none 0 0) 0 [] rfl (World.ownsRow_nil _ _ _ _) ⟨w.heap.size + 1, 0, none⟩ 1 1 [.int .u64 0] rfl rfl (World.news_of_block (heap_alloc_eq2 w _ _)) (by simp [Value.oneCell']) (by decide) (by decide) (by decide) (Nat.zero_le _) (w.heap.size + 1 + 1) (by simp) ?_; intro g1 cap1 w1 hown hgrow hat hlt1; have HB1 := Lib.hid (gb_heap1 hgrow (heap_alloc_old HN.out _)); obtain ⟨c0, c1, c2, c3, c4⟩ := ref_cells HB1.out; have cf := ref_free HB1.out; have hbw1 : w.heap.size < w1.heap.size := lt_of_heap HB1.out; have HO1 := Lib.hid hown; have HG1 := Lib.hid hgrow; have HT1 := Lib.hid hat; clear hown hgrow hat)
    | (refine wpList_append_lies (P := Try.prog) _ rfl (.tmp 25) (.tmp 28) 97 rfl 0 31 i31 (.agg #[.int .u64 0, .int .u32 0, .int .u32 0]) 3 16 Try.underlying97 hj hy hy1 hy2 rfl (by decide) (.slice none 0 0) 0 [] rfl (World.ownsRow_nil _ _ _ _) ⟨w1.heap.size, 0, none⟩ 1 1 [.int .u64 ceil, .int .u32 0, .int .u32 0] rfl rfl (World.news_of_block (heap_alloc_eqn (by simp) _)) (by simp [Value.oneCell']) (by decide) (by decide) (by decide) (Nat.zero_le _) (w1.heap.size + 1) (by simp) ?_; clear c0 c1 c2 c3 c4 cf; intro g2 cap2 w2 hown hgrow hat hlt2; have HB2 := Lib.hid (gb_heap1 hgrow (heap_alloc_old (heap_set_same HB1.out 2 _) _)); obtain ⟨c0, c1, c2, c3, c4⟩ := ref_cells (s := .slice none 0 0) (l := .slice none 0 0) HB2.out; have cf := ref_free (s := .slice none 0 0) (l := .slice none 0 0) HB2.out; have hbw2 : w.heap.size < w2.heap.size := lt_of_heap HB2.out; have HO2 := Lib.hid hown; have HG2 := Lib.hid hgrow; have HT2 := Lib.hid hat; clear hown hgrow hat)
    | (refine wpList_append_lies (P := Try.prog) _ rfl (.tmp 36) (.tmp 38) 101 rfl 0 24 i24 (.int .u64 0) 1 8 Try.underlying101 hi hz hz1 hz2 rfl (by decide) (.slice none 0 0) 0 [] rfl (World.ownsRow_nil _ _ _ _) ⟨w2.heap.size, 0, none⟩ 1 1 [.int .u64 ceil] rfl rfl (World.news_of_block (heap_alloc_eqn (by simp) _)) (by simp [Value.oneCell']) (by decide) (by decide) (by decide) (Nat.zero_le _) (w2.heap.size + 1) (by simp) ?_; clear c0 c1 c2 c3 c4 cf; intro g3 cap3 w3 hown hgrow hat hlt3; have HB3 := Lib.hid (gb_heap1 hgrow (heap_alloc_old (heap_set_same HB2.out 3 _) _)); obtain ⟨c0, c1, c2, c3, c4⟩ := ref_cells (l := .slice none 0 0) HB3.out; have cf := ref_free (l := .slice none 0 0) HB3.out; have hbw3 : w.heap.size < w3.heap.size := lt_of_heap HB3.out; have HO3 := Lib.hid hown; have HG3 := Lib.hid hgrow; have HT3 := Lib.hid hat; clear hown hgrow hat))
  go_ret
  have e1 : g1 = w.heap.size + 1 + 1 := HT1.out.resolve_left (by simp [Value.ownBlock])
  have e2 : g2 = w1.heap.size + 1 := HT2.out.resolve_left (by simp [Value.ownBlock])
  have e3 : g3 = w2.heap.size + 1 := HT3.out.resolve_left (by simp [Value.ownBlock])
  have s1 := HG1.out.size
  have s2 := HG2.out.size
  have s3 := HG3.out.size
  simp only [World.size_alloc, World.size_setCell] at s1 s2 s3
  have f1 : Below w.heap.size w w1 := (((Below.refl _ _).alloc (Nat.le_refl _) _).alloc (by simp) _).grown HG1.out (by simp; omega) (fun k h => by cases h)
  have f2 : Below w.heap.size w w2 := ((f1.setCell (Nat.le_refl _) _).alloc (by simp; omega) _).grown HG2.out (by simp; omega) (fun k h => by cases h)
  have f3 : Below w.heap.size w w3 := ((f2.setCell (Nat.le_refl _) _).alloc (by simp; omega) _).grown HG3.out (by simp; omega) (fun k h => by cases h)
  have F12 : Foot (· = w.heap.size) w1 w2 := ((Foot.set (F := (· = w.heap.size)) (Foot.refl _ w1) rfl 2 _).alloc _).trans (foot_none HG2.out)
  have F23 : Foot (· = w.heap.size) w2 w3 := ((Foot.set (F := (· = w.heap.size)) (Foot.refl _ w2) rfl 3 _).alloc _).trans (foot_none HG3.out)
  have F3 : Foot (· = w.heap.size) w3 (w3.setCell ⟨w.heap.size, 4, none⟩ (.slice (some ⟨g3, 0, none⟩) 1 cap3)) := Foot.set (F := (· = w.heap.size)) (Foot.refl _ w3) rfl 4 _
  refine ⟨w.heap.size, g1, g2, g3, Nat.le_refl _, by omega, by omega, by omega, rfl, f3.setCell (Nat.le_refl _) _, ⟨⟨cap1, cap2, cap3, heap_set_same HB3.out 4 _, ?_, ?_, ?_⟩, by omega, by simp; omega⟩⟩
  · exact foot_own F3 (foot_own F23 (foot_own F12 HO1.out (by omega)) (by omega)) (by omega)
  · exact foot_own F3 (foot_own F23 HO2.out (by omega)) (by omega)
  · exact foot_own F3 HO3.out (by omega)

set_option maxRecDepth 100000 in
set_option maxHeartbeats 1000000 in
theorem dnew_any (node win : Int) (w : World) : Calls Try.prog 45 #[.int .u32 node, .int .u64 win] w (DNewP node win 0 w) := by
  go_enter Try.func45, Try.ntmps45
  go_wp2_with fail
  refine (dreopen_any node win 0 w).mono ?_
  rintro e w' ⟨db, rg, sg, lg, h1, h2, h3, h4, rfl, h5, h6⟩
  have H := Lib.hid (show DNewP node win 0 w (.returned (.pointer (some ⟨db, 0, none⟩))) w' from ⟨db, rg, sg, lg, h1, h2, h3, h4, rfl, h5, h6⟩)
  clear h1 h2 h3 h4 h5 h6
  go_wp2_with fail
  go_ret
  exact H.out

end Go.Proofs.Ytlgkolmlcbfppaa
