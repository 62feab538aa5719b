/- Plain words and small laws for the walks over the clock's functions: order of stamps, the clock's block, what a call may have turned. -/
import Derived.Test.YtdpgfjdndohcdaaDoorRows
import Derived.WalkKit
import Derived.WalkSpells
import Derived.WalkLawsBesides
import Derived.OneCell
import Derived.Lib.Hide
namespace Go.Proofs.YtdpgfjdndohcdaaDoor
open Go.RowKit

/-- The block of a clock: window, ceiling, node, reading, and the last stamp's three numbers. -/
def clkO (win ceil node rd l0 l1 l2 : Int) : Obj :=
  .cells #[.int .u64 win, .int .u64 ceil, .int .u32 node, .int .u64 rd, .int .u64 l0, .int .u32 l1, .int .u32 l2] 83 (0, 0)

theorem lt_of_heap {w : World} {b : Nat} {o : Obj} (h : w.heap[b]? = some o) : b < w.heap.size := by
  rcases Nat.lt_or_ge b w.heap.size with h' | h'
  · exact h'
  · simp [Array.getElem?_eq_none h'] at h

theorem clk_cells {w : World} {b : Nat} {win ceil node rd l0 l1 l2 : Int} (h : w.heap[b]? = some (clkO win ceil node rd l0 l1 l2)) :
    w.cell? ⟨b, 0, none⟩ = some (.int .u64 win) ∧ w.cell? ⟨b, 1, none⟩ = some (.int .u64 ceil) ∧ w.cell? ⟨b, 2, none⟩ = some (.int .u32 node) ∧
    w.cell? ⟨b, 3, none⟩ = some (.int .u64 rd) ∧ w.cell? ⟨b, 4, none⟩ = some (.int .u64 l0) ∧ w.cell? ⟨b, 5, none⟩ = some (.int .u32 l1) ∧ w.cell? ⟨b, 6, none⟩ = some (.int .u32 l2) := by
  simp [World.cell?, h, clkO]

theorem clk_free {w : World} {b : Nat} {win ceil node rd l0 l1 l2 : Int} (h : w.heap[b]? = some (clkO win ceil node rd l0 l1 l2)) (k : Nat) :
    w.frozen? ⟨b, k, none⟩ = false := by
  simp [World.frozen?, h, clkO]

theorem heap_set_same {w : World} {b : Nat} {c : Array Value} {t : TypeId} {fz : Nat × Nat} (h : w.heap[b]? = some (.cells c t fz)) (k : Nat) (u : Value) :
    (w.setCell ⟨b, k, none⟩ u).heap[b]? = some (.cells (c.setIfInBounds k u) t fz) := by
  have hlt := lt_of_heap h
  have h' : w.heap[b] = .cells c t fz := by simpa [Array.getElem?_eq_getElem hlt] using h
  show (w.heap.modify b _)[b]? = _
  rw [Array.getElem?_eq_getElem (by simpa using hlt), Array.getElem_modify_self, h']
  rfl

theorem heap_set_other {w : World} {b : Nat} {o : Obj} (h : w.heap[b]? = some o) {p : Addr} (hp : b ≠ p.block) (u : Value) :
    (w.setCell p u).heap[b]? = some o := by rw [Below.heap_setCell _ _ _ _ hp]; exact h

theorem heap_alloc_old {w : World} {b : Nat} {o : Obj} (h : w.heap[b]? = some o) (x : Obj) : (w.alloc x).heap[b]? = some o := by
  rw [Below.heap_alloc _ _ _ (lt_of_heap h)]; exact h

theorem heap_alloc_at (w : World) (x : Obj) : (w.alloc x).heap[w.heap.size]? = some x := by
  show (w.heap.push x)[w.heap.size]? = _
  simp

theorem heap_drew {w : World} {b : Nat} {o : Obj} (h : w.heap[b]? = some o) : w.drew.heap[b]? = some o := h

theorem gb_refl (w : World) (r : Option Nat) : w.grownBy w r := ⟨rfl, rfl, rfl, Nat.le_refl _, fun _ _ _ => rfl⟩
theorem gb_trans {a b c : World} {r : Option Nat} (h : a.grownBy b r) (k : b.grownBy c r) : a.grownBy c r :=
  ⟨k.os.trans h.os, k.tape.trans h.tape, k.output.trans h.output, Nat.le_trans h.size k.size, fun i hi hn => (k.block i (Nat.lt_of_lt_of_le hi h.size) hn).trans (h.block i hi hn)⟩
theorem gb_drew {a w : World} {r : Option Nat} (h : a.grownBy w r) : a.grownBy w.drew r := ⟨h.os, h.tape, h.output, h.size, h.block⟩
theorem gb_alloc {a w : World} {r : Option Nat} (h : a.grownBy w r) (o : Obj) : a.grownBy (w.alloc o) r :=
  ⟨h.os, h.tape, h.output, Nat.le_trans h.size (by simp), fun i hi hne => (Below.heap_alloc w o i (Nat.lt_of_lt_of_le hi h.size)).trans (h.block i hi hne)⟩
theorem gb_set {a w : World} {g : Nat} (h : a.grownBy w (some g)) {p : Addr} (hp : p.block = g ∨ a.heap.size ≤ p.block) (u : Value) : a.grownBy (w.setCell p u) (some g) :=
  ⟨h.os, h.tape, h.output, by simpa [World.setCell] using h.size, fun i hi hne => (Below.heap_setCell w p u i (by
    rintro rfl
    rcases hp with hp | hp
    · exact hne (by rw [hp])
    · omega)).trans (h.block i hi hne)⟩
theorem gb_below {a w : World} (h : Below a.heap.size a w) (row : Option Nat) : a.grownBy w row := ⟨h.os, h.tape, h.output, h.size, fun i hi _ => h.block i hi⟩
theorem gb_heap {a w : World} {g b : Nat} {o : Obj} (h : a.grownBy w (some g)) (hb : a.heap[b]? = some o) (hne : b ≠ g) : w.heap[b]? = some o := by
  rw [h.block b (lt_of_heap hb) (by simpa using hne)]; exact hb
theorem below_heap {a w : World} {B b : Nat} {o : Obj} (h : Below B a w) (hb : a.heap[b]? = some o) (hne : b < B) : w.heap[b]? = some o := by
  rw [h.block b hne]; exact hb
theorem below_gb {a b c : World} {B g : Nat} (h : Below B a b) (k : b.grownBy c (some g)) (hB : B ≤ g) (hb : B ≤ b.heap.size) : Below B a c :=
  h.grown k hb (fun j e => by injection e with e; omega)

/-- a comes before b, as bits. -/
def ltB (a0 a1 a2 b0 b1 b2 : Int) : Bool :=
  if a0 ≠ b0 then decide (a0 < b0) else if a1 ≠ b1 then decide (a1 < b1) else decide (a2 < b2)

theorem ltB_1 {a0 a1 a2 b0 b1 b2 : Int} (h : (a0 != b0) = true) : ltB a0 a1 a2 b0 b1 b2 = decide (a0 < b0) := by
  unfold ltB; rw [if_pos (by simpa using h)]
theorem ltB_2 {a0 a1 a2 b0 b1 b2 : Int} (h : (a0 != b0) = false) (k : (a1 != b1) = true) : ltB a0 a1 a2 b0 b1 b2 = decide (a1 < b1) := by
  unfold ltB; rw [if_neg (by simpa using h), if_pos (by simpa using k)]
theorem ltB_3 {a0 a1 a2 b0 b1 b2 : Int} (h : (a0 != b0) = false) (k : (a1 != b1) = false) : ltB a0 a1 a2 b0 b1 b2 = decide (a2 < b2) := by
  unfold ltB; rw [if_neg (by simpa using h), if_neg (by simpa using k)]

theorem ret_bool {a b : Bool} (h : a = b) : Ending.returned (.bool a) = .returned (.bool b) := by rw [h]
theorem ret_int {k : IntKind} {a b : Int} (h : a = b) : Ending.returned (.int k a) = .returned (.int k b) := by rw [h]

structure St where
  w : Int
  l : Int
  n : Int

def St.lt (a b : St) : Bool := ltB a.w a.l a.n b.w b.l b.n
/-- The greatest of the first k of a row of stamps. -/
def maxTo (f : Nat → St) : Nat → St
  | 0 => ⟨0, 0, 0⟩
  | k + 1 => if (maxTo f k).lt (f k) = true then f k else maxTo f k

def stO (a b c : Int) : Obj := .cells #[.int .u64 a, .int .u32 b, .int .u32 c] 25 (0, 0)
theorem st_cells {w : World} {b : Nat} {x y z : Int} (h : w.heap[b]? = some (stO x y z)) :
    w.cell? ⟨b, 0, none⟩ = some (.int .u64 x) ∧ w.cell? ⟨b, 1, none⟩ = some (.int .u32 y) ∧ w.cell? ⟨b, 2, none⟩ = some (.int .u32 z) := by
  simp [World.cell?, h, stO]
theorem st_free {w : World} {b : Nat} {x y z : Int} (h : w.heap[b]? = some (stO x y z)) (k : Nat) : w.frozen? ⟨b, k, none⟩ = false := by
  simp [World.frozen?, h, stO]

theorem st_set3 {w : World} {b : Nat} {x y z : Int} (h : w.heap[b]? = some (stO x y z)) (x' y' z' : Int) :
    (((w.setCell ⟨b, 0, none⟩ (.int .u64 x')).setCell ⟨b, 1, none⟩ (.int .u32 y')).setCell ⟨b, 2, none⟩ (.int .u32 z')).heap[b]? = some (stO x' y' z') :=
  heap_set_same (heap_set_same (heap_set_same h 0 _) 1 _) 2 _
theorem maxTo_yes {f : Nat → St} {k : Nat} (h : ltB (maxTo f k).w (maxTo f k).l (maxTo f k).n (f k).w (f k).l (f k).n = true) : maxTo f (k + 1) = f k := by
  exact if_pos h
theorem maxTo_no {f : Nat → St} {k : Nat} (h : ¬ ltB (maxTo f k).w (maxTo f k).l (maxTo f k).n (f k).w (f k).l (f k).n = true) : maxTo f (k + 1) = maxTo f k := by
  exact if_neg h

theorem load_st {w : World} {b : Nat} {x y z : Int} (h : w.heap[b]? = some (stO x y z)) :
    (loadVar 25 ⟨b, 0, none⟩).run Tryd.prog w = .ok (.agg #[.int .u64 x, .int .u32 y, .int .u32 z]) w := by
  obtain ⟨h0, h1, h2⟩ := st_cells h
  go_simp
theorem end_st {fn : Func} {p b : Nat} {a : Act} {w : World} {x y z : Int} {R : Ending → World → Prop} (hr : fn.results = #[.cell p 25]) (hp : a.tmps.getD p undef = .pointer (some ⟨b, 0, none⟩))
    (h : w.heap[b]? = some (stO x y z)) (hd : a.defers = []) (hR : R (.returned (.agg #[.int .u64 x, .int .u32 y, .int .u32 z])) w) : bodyPost Tryd.prog fn R .ret a w := by
  refine bodyPost_ret (v := .agg #[.int .u64 x, .int .u32 y, .int .u32 z]) ?_ hd hR
  have hl := load_st h
  rw [Array.getD_eq_getD_getElem?] at hp
  simp only [results, hr]
  simp [asAddr, hl, hp]
theorem end_st2 {fn : Func} {p u b : Nat} {a : Act} {w : World} {x y z : Int} {v : Value} {R : Ending → World → Prop} (hr : fn.results = #[.cell p 25, .tmp u]) (hp : a.tmps.getD p undef = .pointer (some ⟨b, 0, none⟩)) (hu : a.tmps.getD u undef = v)
    (h : w.heap[b]? = some (stO x y z)) (hd : a.defers = []) (hR : R (.returned (.tuple #[.agg #[.int .u64 x, .int .u32 y, .int .u32 z], v])) w) : bodyPost Tryd.prog fn R .ret a w := by
  refine bodyPost_ret (v := .tuple #[.agg #[.int .u64 x, .int .u32 y, .int .u32 z], v]) ?_ hd hR
  have hl := load_st h
  subst hu
  rw [Array.getD_eq_getD_getElem?] at hp
  simp only [results, hr]
  simp [asAddr, hl, hp]

theorem bne_swap {a b : Int} {x : Bool} (h : (a != b) = x) : (b != a) = x := by
  rw [← h, bne_comm]
theorem gtB_1 {a0 a1 a2 b0 b1 b2 : Int} (h : (a0 != b0) = true) : ltB b0 b1 b2 a0 a1 a2 = decide (b0 < a0) := ltB_1 (bne_swap h)
theorem gtB_2 {a0 a1 a2 b0 b1 b2 : Int} (h : (a0 != b0) = false) (k : (a1 != b1) = true) : ltB b0 b1 b2 a0 a1 a2 = decide (b1 < a1) := ltB_2 (bne_swap h) (bne_swap k)
theorem gtB_3 {a0 a1 a2 b0 b1 b2 : Int} (h : (a0 != b0) = false) (k : (a1 != b1) = false) : ltB b0 b1 b2 a0 a1 a2 = decide (b2 < a2) := ltB_3 (bne_swap h) (bne_swap k)

/-- The greatest wall, the greatest logical number. -/
def topW : Int := 18446744073709551615
def topL : Int := 4294967295

def NextR (s0 s1 node r0 r1 r2 er : Int) : Prop :=
  (er = 11 ∧ r0 = 0 ∧ r1 = 0 ∧ r2 = 0 ∧ (s0 = topW ∨ (s0 = topW - 1 ∧ s1 = topL))) ∨
  (er = 0 ∧ r2 = node ∧ s0 < topW ∧ ((s1 < topL ∧ r0 = s0 ∧ r1 = s1 + 1) ∨ (s1 = topL ∧ s0 < topW - 1 ∧ r0 = s0 + 1 ∧ r1 = 0)))

def NextP (s0 s1 node : Int) (w : World) (e : Ending) (w' : World) : Prop :=
  ∃ r0 r1 r2 er : Int, e = .returned (.tuple #[.agg #[.int .u64 r0, .int .u32 r1, .int .u32 r2], .int .i64 er]) ∧ NextR s0 s1 node r0 r1 r2 er ∧ Below w.heap.size w w'

theorem wrap_u64 (n : Int) (h0 : 0 ≤ n) (h1 : n ≤ topW) : IntKind.u64.wrap n = n := by
  rw [IntKind.wrap_u64]; unfold topW at h1; omega
theorem wrap_u64_le (n : Int) : 0 ≤ IntKind.u64.wrap n ∧ IntKind.u64.wrap n ≤ topW := by
  rw [IntKind.wrap_u64]; unfold topW; omega
theorem nx1 {s0 s1 node : Int} (h : (s0 == 18446744073709551615) = true) : NextR s0 s1 node 0 0 0 11 := by
  left; refine ⟨rfl, rfl, rfl, rfl, Or.inl ?_⟩
  simpa [topW] using h
theorem lt_topW {s0 : Int} (h0 : s0 ≤ topW) (h : (s0 == 18446744073709551615) = false) : s0 < topW := by
  have : s0 ≠ topW := by simpa [topW] using h
  omega
theorem nx2 {s0 s1 node : Int} (h0 : s0 ≤ topW) (h : (s0 == 18446744073709551615) = false) (k : s1 < 4294967295) : NextR s0 s1 node s0 (s1 + 1) node 0 := by
  right; exact ⟨rfl, rfl, lt_topW h0 h, Or.inl ⟨k, rfl, rfl⟩⟩
theorem nx3 {s0 s1 node : Int} (h0 : 0 ≤ s0) (h0' : s0 ≤ topW) (h1 : s1 ≤ topL) (h : (s0 == 18446744073709551615) = false) (k : 4294967295 ≤ s1)
    (q : (IntKind.u64.wrap (s0 + 1) == 18446744073709551615) = true) : NextR s0 s1 node 0 0 0 11 := by
  have hl := lt_topW h0' h
  rw [wrap_u64 _ (by omega) (by omega)] at q
  have : s0 + 1 = topW := by simpa [topW] using q
  left; exact ⟨rfl, rfl, rfl, rfl, Or.inr ⟨by omega, by unfold topL at *; omega⟩⟩
theorem nx4 {s0 s1 node : Int} (h0 : 0 ≤ s0) (h0' : s0 ≤ topW) (h1 : s1 ≤ topL) (h : (s0 == 18446744073709551615) = false) (k : 4294967295 ≤ s1)
    (q : (IntKind.u64.wrap (s0 + 1) == 18446744073709551615) = false) : NextR s0 s1 node (IntKind.u64.wrap (s0 + 1)) 0 node 0 := by
  have hl := lt_topW h0' h
  rw [wrap_u64 _ (by omega) (by omega)] at q ⊢
  have : s0 + 1 ≠ topW := by simpa [topW] using q
  right; exact ⟨rfl, rfl, hl, Or.inr ⟨by unfold topL at *; omega, by omega, rfl, rfl⟩⟩

end Go.Proofs.YtdpgfjdndohcdaaDoor
