/- The document's clock in memory: its block and its three rows; Read, Reserve, Observe. -/
import Derived.Test.YtlgkolmlcbfppaaLife
import Derived.Deep.AppendLies
import Derived.Deep.RegionLaw
import Derived.Deep.RegionWith
namespace Go.Proofs.Ytlgkolmlcbfppaa
open Go.RowKit

theorem Try.info24 : (Try.prog.info? 24).map (fun i => (i.zero, i.size, i.bytes)) = some (some (.int .u64 0), 1, 8) := by kernel_rfl
theorem Try.info31 : (Try.prog.info? 31).map (fun i => (i.zero, i.size, i.bytes)) = some (some (.agg #[.int .u64 0, .int .u32 0, .int .u32 0]), 3, 16) := by kernel_rfl

theorem heap_alloc_eq2 (w : World) (x y : Obj) : ((w.alloc x).alloc y).heap[w.heap.size + 1]? = some y := by
  have := heap_alloc_at (w.alloc x) y
  rwa [World.size_alloc] at this
/-- The cells of a row of stamps. -/
def stCells (S : List St) : List Value := S.flatMap fun s => [.int .u64 s.w, .int .u32 s.l, .int .u32 s.n]
def intCells (L : List Int) : List Value := L.map (Value.int .u64)
theorem stCells_length (S : List St) : (stCells S).length = S.length * 3 := by
  induction S with
  | nil => rfl
  | cons a t ih => simp only [stCells, List.flatMap_cons, List.length_append] at ih ⊢; rw [ih]; simp; omega

def sl (g n cap : Nat) : Value := .slice (some ⟨g, 0, none⟩) n cap
def refO (node win : Int) (r s l : Value) : Obj := .cells #[.int .u32 node, .int .u64 win, r, s, l] 103 (0, 0)
theorem ref_cells {w : World} {b : Nat} {node win : Int} {r s l : Value} (h : w.heap[b]? = some (refO node win r s l)) :
    w.cell? ⟨b, 0, none⟩ = some (.int .u32 node) ∧ w.cell? ⟨b, 1, none⟩ = some (.int .u64 win) ∧ w.cell? ⟨b, 2, none⟩ = some r ∧ w.cell? ⟨b, 3, none⟩ = some s ∧ w.cell? ⟨b, 4, none⟩ = some l := by
  simp [World.cell?, h, refO]
theorem ref_free {w : World} {b : Nat} {node win : Int} {r s l : Value} (h : w.heap[b]? = some (refO node win r s l)) (k : Nat) : w.frozen? ⟨b, k, none⟩ = false := by
  simp [World.frozen?, h, refO]

/-- The document's clock in memory: its block, and three rows of its own. -/
structure DAt (w : World) (db rg sg lg : Nat) (node win : Int) (R : List Int) (S : List St) (L : List Int) : Prop where
  blk : ∃ rc sc lc, w.heap[db]? = some (refO node win (sl rg R.length rc) (sl sg S.length sc) (sl lg L.length lc)) ∧
    w.ownsRow 0 24 1 (sl rg R.length rc) R.length (intCells R) ∧ w.ownsRow 0 31 3 (sl sg S.length sc) S.length (stCells S) ∧ w.ownsRow 0 24 1 (sl lg L.length lc) L.length (intCells L)
  apart : db ≠ rg ∧ db ≠ sg ∧ db ≠ lg ∧ rg ≠ sg ∧ rg ≠ lg ∧ sg ≠ lg
  le : rg < w.heap.size ∧ sg < w.heap.size ∧ lg < w.heap.size ∧ db < w.heap.size

/-- Only blocks of F, of what was there, may have turned. -/
structure Foot (F : Nat → Prop) (w w' : World) : Prop where
  os : w'.os = w.os
  tape : w'.tape = w.tape
  output : w'.output = w.output
  size : w.heap.size ≤ w'.heap.size
  block : ∀ k, k < w.heap.size → ¬ F k → w'.heap[k]? = w.heap[k]?
theorem Foot.refl (F : Nat → Prop) (w : World) : Foot F w w := ⟨rfl, rfl, rfl, Nat.le_refl _, fun _ _ _ => rfl⟩
theorem Foot.trans {F : Nat → Prop} {u v w : World} (h : Foot F u v) (k : Foot F v w) : Foot F u w :=
  ⟨k.os.trans h.os, k.tape.trans h.tape, k.output.trans h.output, Nat.le_trans h.size k.size, fun i hi h1 => (k.block i (Nat.lt_of_lt_of_le hi h.size) h1).trans (h.block i hi h1)⟩
theorem Foot.mono {F G : Nat → Prop} {u v : World} (h : Foot F u v) (k : ∀ i, F i → G i) : Foot G u v :=
  ⟨h.os, h.tape, h.output, h.size, fun i hi h1 => h.block i hi fun q => h1 (k i q)⟩
theorem Foot.ofBelow {F : Nat → Prop} {w w' : World} (h : Below w.heap.size w w') : Foot F w w' := ⟨h.os, h.tape, h.output, h.size, fun k hk _ => h.block k hk⟩
theorem Foot.ofG {g : Nat} {w w' : World} (h : w.grownBy w' (some g)) : Foot (· = g) w w' := ⟨h.os, h.tape, h.output, h.size, fun k hk h1 => h.block k hk (by simpa using h1)⟩
theorem Foot.alloc {F : Nat → Prop} {u w : World} (h : Foot F u w) (o : Obj) : Foot F u (w.alloc o) := h.trans (Foot.ofBelow ((Below.refl _ _).alloc (Nat.le_refl _) _))
theorem Foot.drew {F : Nat → Prop} {u w : World} (h : Foot F u w) : Foot F u w.drew := h.trans ⟨rfl, rfl, rfl, Nat.le_refl _, fun _ _ _ => rfl⟩
theorem Foot.drewN {F : Nat → Prop} {u w : World} (h : Foot F u w) (n : Nat) : Foot F u (w.drewN n) := h.trans ⟨rfl, rfl, rfl, Nat.le_refl _, fun _ _ _ => rfl⟩
theorem Foot.set {F : Nat → Prop} {u w : World} (h : Foot F u w) {g : Nat} (hg : F g) (k : Nat) (v : Value) : Foot F u (w.setCell ⟨g, k, none⟩ v) :=
  h.trans ⟨rfl, rfl, rfl, by simp [World.setCell], fun i _ h1 => Below.heap_setCell _ _ _ _ (fun e => h1 (by subst e; exact hg))⟩
theorem foot_heap {F : Nat → Prop} {i : Nat} {w w' : World} {o : Obj} (h : Foot F w w') (hb : w.heap[i]? = some o) (h1 : ¬ F i) : w'.heap[i]? = some o := by
  rw [h.block i (lt_of_heap hb) h1]; exact hb
theorem foot_own {F : Nat → Prop} {w w' : World} {e : TypeId} {size g n cap : Nat} {xs : List Value} (h : Foot F w w') (ho : w.ownsRow 0 e size (sl g n cap) n xs) (h1 : ¬ F g) : w'.ownsRow 0 e size (sl g n cap) n xs := by
  refine ⟨ho.1, ?_⟩
  rcases ho.2 with ⟨hn, _⟩ | ⟨g', cap', cur, hv, hb, hg, rest⟩
  · cases hn
  · unfold sl at hv
    injection hv with hv1 hv2 hv3
    injection hv1 with hv1
    injection hv1 with hv1
    subst hv1
    exact Or.inr ⟨g, cap', cur, by rw [sl, hv3], hb, foot_heap h hg h1, rest⟩

/-- A call that turns nothing of the clock's leaves it as it was. -/
theorem foot_dat {F : Nat → Prop} {w w' : World} {db rg sg lg : Nat} {node win : Int} {R : List Int} {S : List St} {L : List Int} (h : Foot F w w') (hd : DAt w db rg sg lg node win R S L)
    (h0 : ¬ F db) (h1 : ¬ F rg) (h2 : ¬ F sg) (h3 : ¬ F lg) : DAt w' db rg sg lg node win R S L := by
  obtain ⟨⟨rc, sc, lc, hb, hr, hs, hl⟩, ha, hle⟩ := hd
  have := h.size
  exact ⟨⟨rc, sc, lc, foot_heap h hb h0, foot_own h hr h1, foot_own h hs h2, foot_own h hl h3⟩, ha, by omega, by omega, by omega, by omega⟩

def ReadP (db rg sg lg : Nat) (node win : Int) (R : List Int) (S : List St) (L : List Int) (w : World) (e : Ending) (w' : World) : Prop :=
  ∃ rg', e = .returned (.tuple #[]) ∧ (rg' = rg ∨ w.heap.size ≤ rg') ∧ Foot (fun k => k = db ∨ k = rg) w w' ∧ DAt w' db rg' sg lg node win R S L

theorem foot_g {db g : Nat} {w w' : World} {v : Value} (h : w.grownBy w' v.ownBlock) (hv : v.ownBlock = some g) : Foot (fun k => k = db ∨ k = g) w w' :=
  ⟨h.os, h.tape, h.output, h.size, fun k hk h1 => h.block k hk (by rw [hv]; simp; omega)⟩

theorem own_grow {w w1 : World} {e : TypeId} {size g n cap r : Nat} {xs : List Value} (ho : w.ownsRow 0 e size (sl g n cap) n xs) (hg : w.grownBy w1 (some r)) (hne : g ≠ r) : w1.ownsRow 0 e size (sl g n cap) n xs :=
  foot_own (Foot.ofG hg) ho hne
theorem own_below {w w1 : World} {e : TypeId} {size g n cap : Nat} {xs : List Value} (ho : w.ownsRow 0 e size (sl g n cap) n xs) (hg : Below w.heap.size w w1) : w1.ownsRow 0 e size (sl g n cap) n xs :=
  foot_own (F := fun _ => False) (Foot.ofBelow hg) ho id

section
variable {w u w1 : World} {db rg sg lg g cap rc sc lc : Nat} {node win x : Int} {R : List Int} {S : List St} {L : List Int} {z : St}
/-- An append to the readings, stored back. -/
theorem close_r (hu : Below w.heap.size w u) (hb : w.heap[db]? = some (refO node win (sl rg R.length rc) (sl sg S.length sc) (sl lg L.length lc)))
    (hs : w.ownsRow 0 31 3 (sl sg S.length sc) S.length (stCells S)) (hl : w.ownsRow 0 24 1 (sl lg L.length lc) L.length (intCells L))
    (ha : db ≠ rg ∧ db ≠ sg ∧ db ≠ lg ∧ rg ≠ sg ∧ rg ≠ lg ∧ sg ≠ lg) (hle : rg < w.heap.size ∧ sg < w.heap.size ∧ lg < w.heap.size ∧ db < w.heap.size)
    (hown : w1.ownsRow 0 24 1 (.slice (some ⟨g, 0, none⟩) (R.length + 1) cap) (R.length + 1) (intCells R ++ [.int .u64 x])) (hgrow : u.grownBy w1 (some rg)) (hat : rg = g ∨ g = u.heap.size) (hlt : g < w1.heap.size) :
    (g = rg ∨ w.heap.size ≤ g) ∧ Foot (fun k => k = db ∨ k = rg) w (w1.setCell ⟨db, 2, none⟩ (.slice (some ⟨g, 0, none⟩) (R.length + 1) cap)) ∧
      DAt (w1.setCell ⟨db, 2, none⟩ (.slice (some ⟨g, 0, none⟩) (R.length + 1) cap)) db g sg lg node win (R ++ [x]) S L := by
  have hus := hu.size
  have hg1 := hgrow.size
  have hne : g ≠ db ∧ g ≠ sg ∧ g ≠ lg := by omega
  have hF : Foot (· = db) w1 (w1.setCell ⟨db, 2, none⟩ (.slice (some ⟨g, 0, none⟩) (R.length + 1) cap)) := Foot.set (F := (· = db)) (Foot.refl _ _) rfl 2 _
  refine ⟨by omega, ?_, ⟨⟨cap, sc, lc, ?_, ?_, ?_, ?_⟩, by omega, by simp; omega⟩⟩
  · exact Foot.set (F := fun k => k = db ∨ k = rg) ((Foot.ofBelow hu).trans ((Foot.ofG hgrow).mono fun _ h => Or.inr h)) (Or.inl rfl) 2 _
  · have hb1 := gb_heap hgrow (below_heap hu hb hle.2.2.2) ha.1
    rw [List.length_append]
    exact heap_set_same hb1 2 _
  · have e : intCells (R ++ [x]) = intCells R ++ [.int .u64 x] := by simp [intCells]
    rw [e, List.length_append]
    exact foot_own hF hown hne.1
  · exact foot_own hF (own_grow (own_below hs hu) hgrow (by omega)) (by omega)
  · exact foot_own hF (own_grow (own_below hl hu) hgrow (by omega)) (by omega)
/-- An append to the ceilings, stored back. -/
theorem close_l (hu : Below w.heap.size w u) (hb : w.heap[db]? = some (refO node win (sl rg R.length rc) (sl sg S.length sc) (sl lg L.length lc)))
    (hr : w.ownsRow 0 24 1 (sl rg R.length rc) R.length (intCells R)) (hs : w.ownsRow 0 31 3 (sl sg S.length sc) S.length (stCells S))
    (ha : db ≠ rg ∧ db ≠ sg ∧ db ≠ lg ∧ rg ≠ sg ∧ rg ≠ lg ∧ sg ≠ lg) (hle : rg < w.heap.size ∧ sg < w.heap.size ∧ lg < w.heap.size ∧ db < w.heap.size)
    (hown : w1.ownsRow 0 24 1 (.slice (some ⟨g, 0, none⟩) (L.length + 1) cap) (L.length + 1) (intCells L ++ [.int .u64 x])) (hgrow : u.grownBy w1 (some lg)) (hat : lg = g ∨ g = u.heap.size) (hlt : g < w1.heap.size) :
    (g = lg ∨ w.heap.size ≤ g) ∧ Foot (fun k => k = db ∨ k = lg) w (w1.setCell ⟨db, 4, none⟩ (.slice (some ⟨g, 0, none⟩) (L.length + 1) cap)) ∧
      DAt (w1.setCell ⟨db, 4, none⟩ (.slice (some ⟨g, 0, none⟩) (L.length + 1) cap)) db rg sg g node win R S (L ++ [x]) := by
  have hus := hu.size
  have hg1 := hgrow.size
  have hne : g ≠ db ∧ g ≠ sg ∧ g ≠ rg := by omega
  have hF : Foot (· = db) w1 (w1.setCell ⟨db, 4, none⟩ (.slice (some ⟨g, 0, none⟩) (L.length + 1) cap)) := Foot.set (F := (· = db)) (Foot.refl _ _) rfl 4 _
  refine ⟨by omega, ?_, ⟨⟨rc, sc, cap, ?_, ?_, ?_, ?_⟩, by omega, by simp; omega⟩⟩
  · exact Foot.set (F := fun k => k = db ∨ k = lg) ((Foot.ofBelow hu).trans ((Foot.ofG hgrow).mono fun _ h => Or.inr h)) (Or.inl rfl) 4 _
  · have hb1 := gb_heap hgrow (below_heap hu hb hle.2.2.2) ha.2.2.1
    rw [List.length_append]
    exact heap_set_same hb1 4 _
  · exact foot_own hF (own_grow (own_below hr hu) hgrow (by omega)) (by omega)
  · exact foot_own hF (own_grow (own_below hs hu) hgrow (by omega)) (by omega)
  · have e : intCells (L ++ [x]) = intCells L ++ [.int .u64 x] := by simp [intCells]
    rw [e, List.length_append]
    exact foot_own hF hown hne.1
/-- An append to the stamps, stored back. -/
theorem close_s (hu : Below w.heap.size w u) (hb : w.heap[db]? = some (refO node win (sl rg R.length rc) (sl sg S.length sc) (sl lg L.length lc)))
    (hr : w.ownsRow 0 24 1 (sl rg R.length rc) R.length (intCells R)) (hl : w.ownsRow 0 24 1 (sl lg L.length lc) L.length (intCells L))
    (ha : db ≠ rg ∧ db ≠ sg ∧ db ≠ lg ∧ rg ≠ sg ∧ rg ≠ lg ∧ sg ≠ lg) (hle : rg < w.heap.size ∧ sg < w.heap.size ∧ lg < w.heap.size ∧ db < w.heap.size)
    (hown : w1.ownsRow 0 31 3 (.slice (some ⟨g, 0, none⟩) (S.length + 1) cap) (S.length + 1) (stCells S ++ [.int .u64 z.w, .int .u32 z.l, .int .u32 z.n])) (hgrow : u.grownBy w1 (some sg)) (hat : sg = g ∨ g = u.heap.size) (hlt : g < w1.heap.size) :
    (g = sg ∨ w.heap.size ≤ g) ∧ Foot (fun k => k = db ∨ k = sg) w (w1.setCell ⟨db, 3, none⟩ (.slice (some ⟨g, 0, none⟩) (S.length + 1) cap)) ∧
      DAt (w1.setCell ⟨db, 3, none⟩ (.slice (some ⟨g, 0, none⟩) (S.length + 1) cap)) db rg g lg node win R (S ++ [z]) L := by
  have hus := hu.size
  have hg1 := hgrow.size
  have hne : g ≠ db ∧ g ≠ rg ∧ g ≠ lg := by omega
  have hF : Foot (· = db) w1 (w1.setCell ⟨db, 3, none⟩ (.slice (some ⟨g, 0, none⟩) (S.length + 1) cap)) := Foot.set (F := (· = db)) (Foot.refl _ _) rfl 3 _
  refine ⟨by omega, ?_, ⟨⟨rc, cap, lc, ?_, ?_, ?_, ?_⟩, by omega, by simp; omega⟩⟩
  · exact Foot.set (F := fun k => k = db ∨ k = sg) ((Foot.ofBelow hu).trans ((Foot.ofG hgrow).mono fun _ h => Or.inr h)) (Or.inl rfl) 3 _
  · have hb1 := gb_heap hgrow (below_heap hu hb hle.2.2.2) ha.2.1
    rw [List.length_append]
    exact heap_set_same hb1 3 _
  · exact foot_own hF (own_grow (own_below hr hu) hgrow (by omega)) (by omega)
  · have e : stCells (S ++ [z]) = stCells S ++ [.int .u64 z.w, .int .u32 z.l, .int .u32 z.n] := by simp [stCells]
    rw [e, List.length_append]
    exact foot_own hF hown hne.1
  · exact foot_own hF (own_grow (own_below hl hu) hgrow (by omega)) (by omega)
end

set_option maxRecDepth 100000 in
set_option maxHeartbeats 2000000 in
theorem dread_any (db rg sg lg : Nat) (node win x : Int) (R : List Int) (S : List St) (L : List Int) (w : World) (hd : DAt w db rg sg lg node win R S L) (hlen : (R.length + 1) * 8 ≤ 140737488355328) :
    Calls Try.prog 47 #[.pointer (some ⟨db, 0, none⟩), .int .u64 x] w (ReadP db rg sg lg node win (R ++ [x]) S L w) := by
  obtain ⟨i24, hi, hz, hz1, hz2⟩ := info_parts Try.info24
  obtain ⟨⟨rc, sc, lc, hb, hr, hs, hl⟩, ha, hle⟩ := hd
  obtain ⟨c0, c1, c2, c3, c4⟩ := ref_cells hb
  have cf := ref_free hb
  have HB := Lib.hid hb
  have HR := Lib.hid hr
  have HS := Lib.hid hs
  have HL := Lib.hid hl
  have hdl := hle.2.2.2
  have HLEN := Lib.hid hlen
  have HA := Lib.hid ha
  have HLE := Lib.hid hle
  unfold sl at c2
  clear hb hr hs hl hlen ha hle c0 c1 c3 c4 cf
  go_enter Try.func47, Try.ntmps47
  go_wp2_with (at_builtin; refine wpList_append_lies (P := Try.prog) _ rfl (.tmp 8) (.tmp 10) 101 rfl 0 24 i24 (.int .u64 0) 1 8 Try.underlying101 hi hz hz1 hz2 rfl (by decide) (sl rg R.length rc) R.length (intCells R) rfl (HR.out.alloc _) ⟨w.heap.size, 0, none⟩ 1 1 [.int .u64 x] rfl rfl (World.news_of_block (heap_alloc_at w _)) (by simp [Value.oneCell']) (by decide) (by have := HLEN.out; unfold maxLen; omega) HLEN.out (Nat.zero_le _) (w.heap.size + 1) (by simp) ?_; intro g cap w1 hown hgrow hat hlt; have hb1 := Lib.hid (gb_heap hgrow (heap_alloc_old HB.out _) HA.out.1); obtain ⟨c0, c1, c2, c3, c4⟩ := ref_cells hb1.out; have cf := ref_free hb1.out 2; have HO := Lib.hid hown; have HG := Lib.hid hgrow; have HT := Lib.hid hat; clear hown hgrow hat)
  go_end0
  obtain ⟨h1, h2, h3⟩ := close_r ((Below.refl _ _).alloc (Nat.le_refl _) _) HB.out HS.out HL.out HA.out HLE.out HO.out HG.out (HT.out.imp (fun h => by injection h) fun h => by simpa using h) hlt
  exact ⟨g, rfl, h1, h2, h3⟩

def ReserveP (db rg sg lg : Nat) (node win : Int) (R : List Int) (S : List St) (L : List Int) (w : World) (e : Ending) (w' : World) : Prop :=
  ∃ lg', e = .returned (.tuple #[]) ∧ (lg' = lg ∨ w.heap.size ≤ lg') ∧ Foot (fun k => k = db ∨ k = lg) w w' ∧ DAt w' db rg sg lg' node win R S L

set_option maxRecDepth 100000 in
set_option maxHeartbeats 2000000 in
theorem dreserve_any (db rg sg lg : Nat) (node win x : Int) (R : List Int) (S : List St) (L : List Int) (w : World) (hd : DAt w db rg sg lg node win R S L) (hlen : (L.length + 1) * 8 ≤ 140737488355328) :
    Calls Try.prog 52 #[.pointer (some ⟨db, 0, none⟩), .int .u64 x] w (ReserveP db rg sg lg node win R S (L ++ [x]) w) := by
  obtain ⟨i24, hi, hz, hz1, hz2⟩ := info_parts Try.info24
  obtain ⟨⟨rc, sc, lc, hb, hr, hs, hl⟩, ha, hle⟩ := hd
  obtain ⟨c0, c1, c2, c3, c4⟩ := ref_cells hb
  have cf := ref_free hb
  have HB := Lib.hid hb
  have HR := Lib.hid hr
  have HS := Lib.hid hs
  have HL := Lib.hid hl
  have hdl := hle.2.2.2
  have HLEN := Lib.hid hlen
  have HA := Lib.hid ha
  have HLE := Lib.hid hle
  unfold sl at c4
  clear hb hr hs hl hlen ha hle c0 c1 c2 c3 cf
  go_enter Try.func52, Try.ntmps52
  go_wp2_with (at_builtin; refine wpList_append_lies (P := Try.prog) _ rfl (.tmp 8) (.tmp 10) 101 rfl 0 24 i24 (.int .u64 0) 1 8 Try.underlying101 hi hz hz1 hz2 rfl (by decide) (sl lg L.length lc) L.length (intCells L) rfl (HL.out.alloc _) ⟨w.heap.size, 0, none⟩ 1 1 [.int .u64 x] rfl rfl (World.news_of_block (heap_alloc_at w _)) (by simp [Value.oneCell']) (by decide) (by have := HLEN.out; unfold maxLen; omega) HLEN.out (Nat.zero_le _) (w.heap.size + 1) (by simp) ?_; intro g cap w1 hown hgrow hat hlt; have hb1 := Lib.hid (gb_heap hgrow (heap_alloc_old HB.out _) HA.out.2.2.1); obtain ⟨c0, c1, c2, c3, c4⟩ := ref_cells hb1.out; have cf := ref_free hb1.out 4; have HO := Lib.hid hown; have HG := Lib.hid hgrow; have HT := Lib.hid hat; clear hown hgrow hat)
  go_end0
  obtain ⟨h1, h2, h3⟩ := close_l ((Below.refl _ _).alloc (Nat.le_refl _) _) HB.out HR.out HS.out HA.out HLE.out HO.out HG.out (HT.out.imp (fun h => by injection h) fun h => by simpa using h) hlt
  exact ⟨g, rfl, h1, h2, h3⟩

def DObsP (db rg sg lg : Nat) (node win : Int) (R : List Int) (S : List St) (L : List Int) (w : World) (e : Ending) (w' : World) : Prop :=
  ∃ sg', e = .returned (.int .i64 0) ∧ (sg' = sg ∨ w.heap.size ≤ sg') ∧ Foot (fun k => k = db ∨ k = sg) w w' ∧ DAt w' db rg sg' lg node win R S L

set_option maxHeartbeats 400000 in
theorem dobserve_top (db : Nat) (s0 s1 s2 : Int) (w : World) (ht : (s0 == 18446744073709551615) = true) :
    Calls Try.prog 49 #[.pointer (some ⟨db, 0, none⟩), .agg #[.int .u64 s0, .int .u32 s1, .int .u32 s2]] w fun e w' => e = .returned (.int .i64 11) ∧ Below w.heap.size w w' := by
  go_enter Try.func49, Try.ntmps49
  go_wp2
  go_ret
  exact ⟨rfl, (Below.refl _ _).alloc (Nat.le_refl _) _⟩

set_option maxRecDepth 100000 in
set_option maxHeartbeats 4000000 in
theorem dobserve_ok (db rg sg lg : Nat) (node win s0 s1 s2 : Int) (R : List Int) (S : List St) (L : List Int) (w : World) (hd : DAt w db rg sg lg node win R S L) (hlen : (S.length + 1) * 16 ≤ 140737488355328) (ht : (s0 == 18446744073709551615) = false) :
    Calls Try.prog 49 #[.pointer (some ⟨db, 0, none⟩), .agg #[.int .u64 s0, .int .u32 s1, .int .u32 s2]] w (DObsP db rg sg lg node win R (S ++ [⟨s0, s1, s2⟩]) L w) := by
  obtain ⟨i31, hi, hz, hz1, hz2⟩ := info_parts Try.info31
  obtain ⟨⟨rc, sc, lc, hb, hr, hs, hl⟩, ha, hle⟩ := hd
  obtain ⟨c0, c1, c2, c3, c4⟩ := ref_cells hb
  have cf := ref_free hb
  have HB := Lib.hid hb
  have HR := Lib.hid hr
  have HS := Lib.hid hs
  have HL := Lib.hid hl
  have hdl := hle.2.2.2
  have HLEN := Lib.hid hlen
  have HA := Lib.hid ha
  have HLE := Lib.hid hle
  unfold sl at c3
  clear hb hr hs hl hlen ha hle c0 c1 c2 c4 cf
  go_enter Try.func49, Try.ntmps49
  go_wp2_with fail
  go_region_law (first
    | (refine step_append_lies (P := Try.prog) _ rfl (.tmp 12) (.tmp 14) 97 rfl 0 31 i31 (.agg #[.int .u64 0, .int .u32 0, .int .u32 0]) 3 16 Try.underlying97 hi hz hz1 hz2 rfl (by decide) (sl sg S.length sc) S.length (stCells S) rfl (((HS.out.alloc _).alloc _).drew) ⟨w.heap.size + 1, 0, none⟩ 1 1 [.int .u64 s0, .int .u32 s1, .int .u32 s2] rfl rfl (World.news_of_block (heap_drew (heap_alloc_eq2 w _ _))) (by simp [Value.oneCell']) (by decide) (by have := HLEN.out; unfold maxLen; omega) HLEN.out (Nat.zero_le _) (w.heap.size + 1 + 1) (by simp) ?_; intro g cap w1 hown hgrow hat hlt; have hb1 := Lib.hid (gb_heap hgrow (heap_drew (heap_alloc_old (heap_alloc_old HB.out _) _)) HA.out.2.1); obtain ⟨c0, c1, c2, c3, c4⟩ := ref_cells hb1.out; have cf := ref_free hb1.out 3; have HO := Lib.hid hown; have HG := Lib.hid hgrow; have HT := Lib.hid hat; clear hown hgrow hat))
  all_goals
    go_wp2
    go_ret
    obtain ⟨h1, h2, h3⟩ := close_s (z := ⟨s0, s1, s2⟩) ((((Below.refl _ _).alloc (Nat.le_refl _) _).alloc (by simp) _).drew) HB.out HR.out HL.out HA.out HLE.out HO.out HG.out (HT.out.imp (fun h => by injection h) fun h => by simpa using h) hlt
    exact ⟨g, rfl, h1, h2, h3⟩

end Go.Proofs.Ytlgkolmlcbfppaa
