/- Arguments opened to cells: a stamp, a pair, a spot, two texts, a list; the tables that the program laid, met. -/
import Derived.Test.YtdpgfjdndohcdaaDoorPlain
import Derived.Test.YtdpgfjdndohcdaaDoorCards
import Derived.Test.YtdpgfjdndohcdaaDoorTie
import Derived.WalkKit
import Derived.ProofKit
import Derived.OpenShut
import Derived.Deep.DeepHandedRow
import Derived.Deep.Slices
import Derived.Lib.SmallJoins
namespace Go.Proofs.YtdpgfjdndohcdaaDoor
open Go.ChangeShapes Go.WideShapes Go.ChangeAt Go.RowKit Go.Deep

theorem Tryd.own : ownKnob Tryd.prog.godebug = none := by kernel_rfl
theorem Tryd.laidOut : laidOutB Tryd.prog = true := by kernel_rfl
theorem Tryd.cells3 : Tryd.prog.cellsOf 3 = 1 := by kernel_rfl
theorem Tryd.cells5 : Tryd.prog.cellsOf 5 = 1 := by kernel_rfl
theorem Tryd.cells9 : Tryd.prog.cellsOf 9 = 1 := by kernel_rfl
theorem Tryd.cells22 : Tryd.prog.cellsOf 22 = 1 := by kernel_rfl
theorem Tryd.cells23 : Tryd.prog.cellsOf 23 = 1 := by kernel_rfl
theorem Tryd.cells25 : Tryd.prog.cellsOf 25 = 3 := by kernel_rfl
theorem Tryd.cells27 : Tryd.prog.cellsOf 27 = 5 := by kernel_rfl
theorem Tryd.cells40 : Tryd.prog.cellsOf 40 = 2 := by kernel_rfl
theorem Tryd.cells45 : Tryd.prog.cellsOf 45 = 6 := by kernel_rfl
theorem Tryd.cells55 : Tryd.prog.cellsOf 55 = 16 := by kernel_rfl
theorem Tryd.cells77 : Tryd.prog.cellsOf 77 = 16 := by kernel_rfl
theorem gDigType : (Tryd.prog.globals[0]?).map (·.type) = some 55 := by kernel_rfl
theorem gTabType : (Tryd.prog.globals[1]?).map (·.type) = some 77 := by kernel_rfl

/-- What every row of this seat lists: the two tables. -/
theorem laid_of {W : World} (h : laidMetH Tryd.prog Rows.tokenApartRow.laid W) : Laid W := by
  have t1 : Lib.TabIs Tryd.prog W "tidemark/wire.table" .u32 crcL0 :=
    Lib.tabIs_of_head gTab gTabType Tryd.underlying77 Tryd.underlying23 Tryd.cells23 Tryd.cells77 h
  have h2 : laidMet Tryd.prog [("tidemark/token.digits", Rows.laid_tidemark_token_digits)] W := by
    obtain ⟨ps, ⟨g, t, cs, fuel, p, q, _, _, _, _, hq, rfl⟩, hn, hc⟩ := (h : laidMet Tryd.prog [("tidemark/wire.table", Rows.laid_tidemark_wire_table), ("tidemark/token.digits", Rows.laid_tidemark_token_digits)] W)
    exact ⟨q, hq, (List.nodup_append.1 hn).2.1, fun b off hm => hc b off (List.mem_append_right _ hm)⟩
  have t2 : Lib.TabIs Tryd.prog W "tidemark/token.digits" .u8 [48, 49, 50, 51, 52, 53, 54, 55, 56, 57, 97, 98, 99, 100, 101, 102] :=
    Lib.tabIs_of_head gDig gDigType Tryd.underlying55 Tryd.underlying5 Tryd.cells5 Tryd.cells55 h2
  refine ⟨fun i hi => ?_, fun i hi => t1.cell gTab i hi⟩
  rw [t2.cell gDig i hi]
  have e : ∀ i : Fin 16, ([48, 49, 50, 51, 52, 53, 54, 55, 56, 57, 97, 98, 99, 100, 101, 102] : List Int).getD i.val 0 = ((dg i.val).toNat : Int) := by decide
  rw [e ⟨i, hi⟩]

section
variable {H : Type} {enc : TypeId × Value → H} {w : World} {base : Nat} {spare : Nat → Bool} {held : Bool}

theorem wf_n64 {n : Int} (h : (Lit.int .u64 n).wf = true) : ∃ m : Nat, n = m ∧ m < 18446744073709551616 := by
  have := bounds_u64 h
  exact ⟨n.toNat, by omega, by omega⟩
theorem wf_n32 {n : Int} (h : (Lit.int .u32 n).wf = true) : ∃ m : Nat, n = m ∧ m < 4294967296 := by
  have := bounds_u32 h
  exact ⟨n.toNat, by omega, by omega⟩
theorem wf_n8 {n : Int} (h : (Lit.int .u8 n).wf = true) : ∃ m : Nat, n = m ∧ m < 256 := by
  have := bounds_u8 h
  exact ⟨n.toNat, by omega, by omega⟩

set_option maxRecDepth 100000 in
theorem open_stamp {fuel : Nat} {cs : List Value} {x : DataW H × List MemPlace} (h : DataW.trod enc Tryd.prog w base spare held fuel 25 cs = some x) :
    ∃ a b c : Nat, cs = [.int .u64 a, .int .u32 b, .int .u32 c] ∧ a < 18446744073709551616 ∧ b < 4294967296 ∧ c < 4294967296 := by
  obtain ⟨xs, n, _, _, hl, hxl, hf⟩ := DataW.trod_struct Tryd.underlying25 h
  rw [Tryd.cells25] at hl
  match cs, hl with
  | [c0, c1, c2], _ =>
    match xs, hxl with
    | [x0, x1, x2], _ =>
      have h0 := hf 0 ⟨ "Wall", 22, 0, false, "", "", 0⟩ rfl
      have h1 := hf 1 ⟨ "Logical", 23, 1, false, "", "", 8⟩ rfl
      have h2 := hf 2 ⟨ "Node", 23, 2, false, "", "", 12⟩ rfl
      simp only [Tryd.cells22, Tryd.cells23] at h0 h1 h2
      obtain ⟨a, e0, _, w0⟩ := DataW.trod_int Tryd.underlying22 h0
      obtain ⟨b, e1, _, w1⟩ := DataW.trod_int Tryd.underlying23 h1
      obtain ⟨c, e2, _, w2⟩ := DataW.trod_int Tryd.underlying23 h2
      obtain ⟨a, rfl, ha⟩ := wf_n64 w0
      obtain ⟨b, rfl, hb⟩ := wf_n32 w1
      obtain ⟨c, rfl, hc⟩ := wf_n32 w2
      simp at e0 e1 e2
      subst e0 e1 e2
      exact ⟨a, b, c, rfl, ha, hb, hc⟩
set_option maxRecDepth 100000 in
theorem open_pair {fuel : Nat} {cs : List Value} {x : DataW H × List MemPlace} (h : DataW.trod enc Tryd.prog w base spare held fuel 45 cs = some x) :
    ∃ a b c a' b' c' : Nat, cs = [.int .u64 a, .int .u32 b, .int .u32 c, .int .u64 a', .int .u32 b', .int .u32 c'] ∧ a < 18446744073709551616 ∧ b < 4294967296 ∧ c < 4294967296 ∧ a' < 18446744073709551616 ∧ b' < 4294967296 ∧ c' < 4294967296 := by
  obtain ⟨xs, n, _, _, hl, hxl, hf⟩ := DataW.trod_struct Tryd.underlying45 h
  rw [Tryd.cells45] at hl
  match cs, hl with
  | [c0, c1, c2, c3, c4, c5], _ =>
    match xs, hxl with
    | [x0, x1], _ =>
      have h0 := hf 0 ⟨ "A", 25, 0, false, "", "", 0⟩ rfl
      have h1 := hf 1 ⟨ "B", 25, 3, false, "", "", 16⟩ rfl
      simp only [Tryd.cells25] at h0 h1
      obtain ⟨a, b, c, e0, g0, g1, g2⟩ := open_stamp h0
      obtain ⟨a', b', c', e1, g3, g4, g5⟩ := open_stamp h1
      simp at e0 e1
      obtain ⟨rfl, rfl, rfl⟩ := e0
      obtain ⟨rfl, rfl, rfl⟩ := e1
      exact ⟨a, b, c, a', b', c', rfl, g0, g1, g2, g3, g4, g5⟩
set_option maxRecDepth 100000 in
theorem open_spot {fuel : Nat} {cs : List Value} {x : DataW H × List MemPlace} (h : DataW.trod enc Tryd.prog w base spare held fuel 27 cs = some x) :
    ∃ (a b c : Nat) (at_ : Int) (to : Nat), cs = [.int .u64 a, .int .u32 b, .int .u32 c, .int .i64 at_, .int .u8 to] ∧ a < 18446744073709551616 ∧ b < 4294967296 ∧ c < 4294967296 ∧ to < 256 := by
  obtain ⟨xs, n, _, _, hl, hxl, hf⟩ := DataW.trod_struct Tryd.underlying27 h
  rw [Tryd.cells27] at hl
  match cs, hl with
  | [c0, c1, c2, c3, c4], _ =>
    match xs, hxl with
    | [x0, x1, x2], _ =>
      have h0 := hf 0 ⟨ "S", 25, 0, false, "", "", 0⟩ rfl
      have h1 := hf 1 ⟨ "At", 3, 3, false, "", "", 16⟩ rfl
      have h2 := hf 2 ⟨ "To", 5, 4, false, "", "", 24⟩ rfl
      simp only [Tryd.cells25, Tryd.cells3, Tryd.cells5] at h0 h1 h2
      obtain ⟨a, b, c, e0, g0, g1, g2⟩ := open_stamp h0
      obtain ⟨p, e1, _, _⟩ := DataW.trod_int Tryd.underlying3 h1
      obtain ⟨q, e2, _, w2⟩ := DataW.trod_int Tryd.underlying5 h2
      obtain ⟨q, rfl, hq⟩ := wf_n8 w2
      simp at e0 e1 e2
      obtain ⟨rfl, rfl, rfl⟩ := e0
      subst e1 e2
      exact ⟨a, b, c, p, q, rfl, g0, g1, g2, hq⟩
end
theorem agg_of {v : Value} {l : List Value} (hk : ∃ cs, v = .agg cs) (h : v.cells.toList = l) : v = .agg l.toArray := by
  obtain ⟨cs, rfl⟩ := hk
  rw [← h]
  rfl
/-- What the two initialisers lay. -/
def fillDig : Obj → Obj
  | .cells _ t frozen => .cells #[.int .u8 48, .int .u8 49, .int .u8 50, .int .u8 51, .int .u8 52, .int .u8 53, .int .u8 54, .int .u8 55, .int .u8 56, .int .u8 57, .int .u8 97, .int .u8 98, .int .u8 99, .int .u8 100, .int .u8 101, .int .u8 102] t frozen
  | o => o
def fillTab : Obj → Obj
  | .cells _ t frozen => .cells #[.int .u32 0, .int .u32 498536548, .int .u32 997073096, .int .u32 651767980, .int .u32 1994146192, .int .u32 1802195444, .int .u32 1303535960, .int .u32 1342533948, .int .u32 3988292384, .int .u32 4027552580, .int .u32 3604390888, .int .u32 3412177804, .int .u32 2607071920, .int .u32 2262029012, .int .u32 2685067896, .int .u32 3183342108] t frozen
  | o => o
/-- A world for the witness: the settled one, the two tables holding what their initialisers lay. -/
noncomputable def laidWorld (os : Os) : World :=
  { World.holding Tryd.prog os ⟨#[], #[], []⟩ with heap := ((World.holding Tryd.prog os ⟨#[], #[], []⟩).heap.modify 0 fillDig).modify 1 fillTab }
end Go.Proofs.YtdpgfjdndohcdaaDoor
