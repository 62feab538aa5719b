/- The script of ClockPlays, opened to cells. -/
import Derived.Test.YtlgkolmlcbfppaaPlaysLaw
import Derived.Test.YtlgkolmlcbfppaaOpen
import Derived.SizedLaws
namespace Go.Proofs.Ytlgkolmlcbfppaa
open Go.ChangeShapes Go.WideShapes Go.ChangeAt Go.RowKit Go.Deep

theorem Try.cells93 : Try.prog.cellsOf 93 = 8 := by kernel_rfl
theorem Try.bytes93 : Try.prog.bytesOf 93 = 56 := by kernel_rfl

section
variable {H : Type} {enc : TypeId × Value → H} {w : World} {base : Nat} {spare : Nat → Bool} {held : Bool}

set_option maxRecDepth 100000 in
theorem open_op {fuel : Nat} {cs : List Value} {x : DataW H × List MemPlace} (h : DataW.trod enc Try.prog w base spare held fuel 93 cs = some x) :
    ∃ f : OpR, cs = [.int .i64 f.kind, .int .i64 f.place, .int .u32 f.node, .int .u64 f.win, .int .u64 f.num, .int .u64 f.s0, .int .u32 f.s1, .int .u32 f.s2] ∧
      0 ≤ f.node ∧ 0 ≤ f.win ∧ f.win ≤ topW ∧ (0 ≤ f.num ∧ f.num ≤ topW) ∧ (0 ≤ f.s0 ∧ f.s0 ≤ topW ∧ 0 ≤ f.s1 ∧ f.s1 ≤ topL ∧ 0 ≤ f.s2) := by
  obtain ⟨xs, n, _, _, hl, hxl, hf⟩ := DataW.trod_struct Try.underlying93 h
  rw [Try.cells93] at hl
  match cs, hl with
  | [c0, c1, c2, c3, c4, c5, c6, c7], _ =>
    match xs, hxl with
    | [x0, x1, x2, x3, x4, x5], _ =>
      have h0 := hf 0 ⟨ "Kind", 3, 0, false, "", "", 0⟩ rfl
      have h1 := hf 1 ⟨ "Place", 3, 1, false, "", "", 8⟩ rfl
      have h2 := hf 2 ⟨ "Node", 23, 2, false, "", "", 16⟩ rfl
      have h3 := hf 3 ⟨ "Window", 24, 3, false, "", "", 24⟩ rfl
      have h4 := hf 4 ⟨ "Number", 24, 4, false, "", "", 32⟩ rfl
      have h5 := hf 5 ⟨ "S", 31, 5, false, "", "", 40⟩ rfl
      simp only [Try.cells24, Try.cells3, Try.cells23, Try.cells31] at h0 h1 h2 h3 h4 h5
      obtain ⟨a, e0, _, w0⟩ := DataW.trod_int Try.underlying3 h0
      obtain ⟨b, e1, _, w1⟩ := DataW.trod_int Try.underlying3 h1
      obtain ⟨c, e2, _, w2⟩ := DataW.trod_int Try.underlying23 h2
      obtain ⟨d, e3, _, w3⟩ := DataW.trod_int Try.underlying24 h3
      obtain ⟨e, e4, _, w4⟩ := DataW.trod_int Try.underlying24 h4
      obtain ⟨s0, s1, s2, e5, g0, g0', g1, g1', g2, _⟩ := open_stamp h5
      simp at e0 e1 e2 e3 e4 e5
      obtain ⟨rfl, rfl, rfl⟩ := e5
      subst e0 e1 e2 e3 e4
      exact ⟨⟨a, b, c, d, e, s0, s1, s2⟩, rfl, (wf_u32 w2).1, (wf_u64 w3).1, (wf_u64 w3).2, wf_u64 w4, g0, g0', g1, g1', g2⟩

theorem open_ops {fuel : Nat} {v : Value} {x : DataW H × List MemPlace} (h : DataW.trod enc Try.prog w base spare held fuel 50 [v] = some x) :
    ∃ (q : Option Addr) (n cap : Nat) (f : Nat → OpR), v = .slice q n cap ∧ OpsAt w q n f ∧ (n = 0 ∨ ∃ es sp, x.1 = .slice es sp ∧ es.length = n) := by
  rcases open_slice Try.underlying50 h with ⟨h0, _⟩ | ⟨a, len, cap, m, n, D, Pl, hcs, hb, hl, hm, hmm, hx, hi⟩
  · simp at h0
    exact ⟨none, 0, 0, fun _ => ⟨0, 0, 0, 0, 0, 0, 0, 0⟩, h0, fun k hk => by omega, Or.inl rfl⟩
  · have hle : len ≤ m := by rw [hmm]; split <;> omega
    have hex : ∀ i, ∃ f : OpR, i < len → (∀ j, j < 8 → w.cell? (a.add (i * 8 + j)) = [Value.int .i64 f.kind, .int .i64 f.place, .int .u32 f.node, .int .u64 f.win, .int .u64 f.num, .int .u64 f.s0, .int .u32 f.s1, .int .u32 f.s2][j]?) ∧
        0 ≤ f.node ∧ 0 ≤ f.win ∧ f.win ≤ topW ∧ (0 ≤ f.num ∧ f.num ≤ topW) ∧ (0 ≤ f.s0 ∧ f.s0 ≤ topW ∧ 0 ≤ f.s1 ∧ f.s1 ≤ topL ∧ 0 ≤ f.s2) := by
      intro i
      by_cases hlt : i < len
      · obtain ⟨cs', hc, ht⟩ := hi i (by omega)
        rw [Try.cells93] at hc
        obtain ⟨f, rfl, hb⟩ := open_op ht
        obtain ⟨_, _, hat⟩ := World.cells?_some hc
        exact ⟨f, fun _ => ⟨fun j hj => by rw [← hat j hj, ← Go.Deep.add_add], hb⟩⟩
      · exact ⟨⟨0, 0, 0, 0, 0, 0, 0, 0⟩, fun q => absurd q hlt⟩
    obtain ⟨g, hg⟩ := Classical.axiomOfChoice hex
    simp at hcs
    refine ⟨some a, len, cap, g, hcs, fun k hk => ?_, Or.inr ⟨_, _, by rw [hx], by simp⟩⟩
    obtain ⟨hc, hbd⟩ := hg k hk
    obtain ⟨b, off, spot⟩ := a
    have hspot : spot = none := World.cell?_spot (a := ⟨b, off, spot⟩) ((hg 0 (by omega)).1 0 (by omega))
    subst hspot
    simp only [add_plain] at hc
    have c0 := hc 0 (by omega)
    have c1 := hc 1 (by omega)
    have c2 := hc 2 (by omega)
    have c3 := hc 3 (by omega)
    have c4 := hc 4 (by omega)
    have c5 := hc 5 (by omega)
    have c6 := hc 6 (by omega)
    have c7 := hc 7 (by omega)
    simp only [← Nat.add_assoc, Nat.add_zero] at c0 c1 c2 c3 c4 c5 c6 c7
    refine ⟨b, off, rfl, ?_, c0, c1, c2, c3, c4, c5, c6, c7, hbd⟩
    rcases Nat.lt_or_ge b w.heap.size with h' | h'
    · exact h'
    · simp [World.cell?, Array.getElem?_eq_none h'] at c0
end

set_option maxRecDepth 100000 in
set_option maxHeartbeats 1000000 in
theorem clockPlays_any (q : Option Addr) (n cap : Nat) (f : Nat → OpR) (w : World) (hst : OpsAt w q n f) (hn : (n + 2) * 16 ≤ 140737488355328) :
    Calls Try.prog 7 #[.slice q n cap] w fun e w' => e = .returned (.bool true) ∧ Below w.heap.size w w' := by
  have HST := Lib.hid hst
  have HN := Lib.hid hn
  clear hst hn
  go_enter Try.func7, Try.ntmps7
  go_wp2_with fail
  refine (plays_any q n cap f 0 w HST.out HN.out).mono ?_
  rintro e w1 ⟨rfl, hb1⟩
  have HB1 := Lib.hid hb1
  clear hb1
  go_wp2_with fail
  go_ret
  exact ⟨rfl, HB1.out⟩

set_option maxRecDepth 100000 in
set_option maxHeartbeats 1000000 in
theorem clockTicks_any (q : Option Addr) (n cap : Nat) (f : Nat → OpR) (w : World) (hst : OpsAt w q n f) (hn : (n + 2) * 16 ≤ 140737488355328) :
    Calls Try.prog 8 #[.slice q n cap] w fun e w' => e = .returned (.bool true) ∧ Below w.heap.size w w' := by
  have HST := Lib.hid hst
  have HN := Lib.hid hn
  clear hst hn
  go_enter Try.func8, Try.ntmps8
  go_wp2_with fail
  refine (plays_any q n cap f 4 w HST.out HN.out).mono ?_
  rintro e w1 ⟨rfl, hb1⟩
  have HB1 := Lib.hid hb1
  clear hb1
  go_wp2_with fail
  go_ret
  exact ⟨rfl, HB1.out⟩

set_option maxRecDepth 100000 in
set_option maxHeartbeats 1000000 in
theorem clockNeeds_any (q : Option Addr) (n cap : Nat) (f : Nat → OpR) (w : World) (hst : OpsAt w q n f) (hn : (n + 2) * 16 ≤ 140737488355328) :
    Calls Try.prog 9 #[.slice q n cap] w fun e w' => e = .returned (.bool true) ∧ Below w.heap.size w w' := by
  have HST := Lib.hid hst
  have HN := Lib.hid hn
  clear hst hn
  go_enter Try.func9, Try.ntmps9
  go_wp2_with fail
  refine (plays_any q n cap f 7 w HST.out HN.out).mono ?_
  rintro e w1 ⟨rfl, hb1⟩
  have HB1 := Lib.hid hb1
  clear hb1
  go_wp2_with fail
  go_ret
  exact ⟨rfl, HB1.out⟩

end Go.Proofs.Ytlgkolmlcbfppaa
