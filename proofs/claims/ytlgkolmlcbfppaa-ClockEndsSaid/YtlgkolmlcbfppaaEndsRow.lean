/- For every End, tidemarklaw2.ClockEnds answers true and leaves its argument as it was: no condition beyond the row's own. -/
import Derived.Test.YtlgkolmlcbfppaaEndsLaw
import Derived.Test.YtlgkolmlcbfppaaOpen
namespace Go.Proofs.Ytlgkolmlcbfppaa
open Go.ChangeShapes Go.WideShapes Go.ChangeAt Go.RowKit

theorem Try.cells44 : Try.prog.cellsOf 44 = 6 := by kernel_rfl

set_option maxRecDepth 100000 in
theorem open_end {H : Type} {enc : TypeId × Value → H} {w : World} {base : Nat} {spare : Nat → Bool} {held : Bool} {r : Reach} {b0 : Nat} {v : Value} {d : DataW H} {p : List MemPlace}
    (hv : Value.okWide Try.prog w r b0 44 v) (h : DataW.Trod enc Try.prog w base spare held 44 v d p) :
    ∃ s0 s1 s2 node win rd : Int, v = .agg #[.int .u64 s0, .int .u32 s1, .int .u32 s2, .int .u32 node, .int .u64 win, .int .u64 rd] ∧ s0 ≤ topW ∧ rd ≤ topW := by
  obtain ⟨cs, rfl, hsz⟩ := okWide_struct Try.underlying44 hv
  rw [Try.cells44] at hsz
  obtain ⟨l⟩ := cs
  obtain ⟨fuel, hf0⟩ := h
  obtain ⟨xs, n, _, _, hl, hxl, hf⟩ := DataW.trod_struct Try.underlying44 hf0
  match l, hsz with
  | [c0, c1, c2, c3, c4, c5], _ =>
    match xs, hxl with
    | [x0, x1, x2, x3], _ =>
      have h0 := hf 0 ⟨ "S", 31, 0, false, "", "", 0⟩ rfl
      have h1 := hf 1 ⟨ "Node", 23, 3, false, "", "", 16⟩ rfl
      have h2 := hf 2 ⟨ "Window", 24, 4, false, "", "", 24⟩ rfl
      have h3 := hf 3 ⟨ "Reading", 24, 5, false, "", "", 32⟩ rfl
      simp only [Try.cells24, Try.cells23, Try.cells31] at h0 h1 h2 h3
      obtain ⟨s0, s1, s2, e0, _, g0', _⟩ := open_stamp h0
      obtain ⟨node, e1, _, _⟩ := DataW.trod_int Try.underlying23 h1
      obtain ⟨win, e2, _, _⟩ := DataW.trod_int Try.underlying24 h2
      obtain ⟨rd, e3, _, w3⟩ := DataW.trod_int Try.underlying24 h3
      simp [Value.cells] at e0 e1 e2 e3
      obtain ⟨rfl, rfl, rfl⟩ := e0
      subst e1 e2 e3
      exact ⟨s0, s1, s2, node, win, rd, rfl, g0', (wf_u64 w3).2⟩

set_option maxRecDepth 100000 in
theorem clockEnds_lifted (os : Os) (started : os.Started) (H : Type) (enc : TypeId × Value → H) :
    ReturnsInHanded {} Try.checked os 6 .any (Rows.clockEndsSpec.pre6 enc Try.prog Try.f6 Rows.clockEndsRow.domain false) (Rows.clockEndsSpec.post enc Try.prog Try.f6 false true false false) := by
  refine returnsInHanded_of_change (C := Try.checked) Try.own started (by kernel_rfl) Try.func6
    (ChangeSpec.witness6 (enc := enc) (C := Try.checked) false ⟨#[], #[.agg #[.int .u64 0, .int .u32 0, .int .u32 0, .int .u32 0, .int .u64 0, .int .u64 0]], []⟩ 8 (by kernel_rfl) (by kernel_rfl) (by kernel_rfl) (by kernel_rfl)) ?_
  intro W base args ds gs before hval0 hW hcnd _
  have hval : ∀ (j : Nat) t v, Try.f6.params[j]? = some t → args[j]? = some v → Value.okWide Try.prog W .any base t v := hval0
  have hW' := hW
  obtain ⟨p, q, hA0, hV, rfl, hfz, hnd⟩ := hW
  have hA : DataW.TrodAll enc Try.prog W 0 (fun _ => true) true Try.f6.params.toList args.toList ds p := hA0
  rw [Try.params6] at hA hval
  obtain ⟨v0, d0, rfl, rfl, h0⟩ := trodAll_one hA
  obtain ⟨rfl, rfl⟩ := trodVars_none hV
  have k0 := h0
  have lt0 : ∀ x ∈ p, x.block < W.heap.size := by obtain ⟨m, hm⟩ := k0; exact DataW.trod_lt m _ _ _ hm
  obtain ⟨s0, s1, s2, node, win, rd, rfl, g0, g1⟩ := open_end (hval 0 44 v0 rfl rfl) h0
  clear hA0 hval0
  refine (clockEnds_any s0 s1 s2 node win rd W g0 g1).mono fun e W' ⟨he, bel⟩ => ?_
  subst he
  exact ⟨_, rfl, _, _, _, [], _, [], hW', trodAll_mk1 (shut_bool Try.underlying4 _), (trodAll_mk1 (Below.trod Try.laidOut (by kernel_rfl) (of_decide_eq_true (by kernel_rfl)) k0 bel lt0)), rfl, bel.frame _, fun h => by cases h⟩

theorem clockEnds_holds : Rows.ClockEndsSaid :=
  OpenClaim.holds_of_wide 6 Try.f6 rfl rfl rfl rfl rfl rfl rfl ⟨rfl, rfl, rfl, rfl, rfl⟩ rfl rfl rfl rfl rfl (by kernel_rfl) Try.func6 (by kernel_rfl)
    (of_decide_eq_true (by kernel_rfl)) (by unfold Func.isWrapper; first | (rw [if_pos (by decide +kernel)]; kernel_rfl) | (rw [if_neg (by decide +kernel)]; exact ⟨rfl, rfl⟩))
    (fun os started H enc _ => clockEnds_lifted os started H enc)

end Go.Proofs.Ytlgkolmlcbfppaa
