/- For any list of stamps, tidemarklaw4.TokenLater answers true and leaves its argument as it was: no condition beyond the row's own. -/
import Derived.Test.YtdpgfjdndohcdaaDoorOpen
import Derived.Test.YtdpgfjdndohcdaaDoorLater
import Derived.SizedLaws
namespace Go.Proofs.YtdpgfjdndohcdaaDoor.tokenLater
open Go.ChangeShapes Go.WideShapes Go.ChangeAt Go.RowKit Go.Deep

theorem Tryd.bytes25 : Tryd.prog.bytesOf 25 = 16 := by kernel_rfl
theorem open_list {H : Type} {enc : TypeId × Value → H} {w : World} {base : Nat} {spare : Nat → Bool} {held : Bool} {fuel : Nat} {v : Value} {x : DataW H × List MemPlace} (h : DataW.trod enc Tryd.prog w base spare held fuel 34 [v] = some x) :
    ∃ (q : Option Addr) (n cap : Nat) (f : Nat → Tri), v = .slice q n cap ∧ ListAt w q n f ∧ (n = 0 ∨ ∃ es sp, x.1 = .slice es sp ∧ es.length = n) := by
  rcases open_slice Tryd.underlying34 h with ⟨h0, _⟩ | ⟨a, len, cap, m, n, D, Pl, hcs, hb, hl, hm, hmm, hx, hi⟩
  · simp at h0
    exact ⟨none, 0, 0, fun _ => ⟨0, 0, 0⟩, h0, fun k hk => by omega, Or.inl rfl⟩
  · have hle : len ≤ m := by rw [hmm]; split <;> omega
    have hex : ∀ i, ∃ f : Tri, i < len → (∀ j, j < 3 → w.cell? (a.add (i * 3 + j)) = [Value.int .u64 f.x, .int .u32 f.y, .int .u32 f.z][j]?) ∧ f.fits := by
      intro i
      by_cases hlt : i < len
      · obtain ⟨cs', hc, ht⟩ := hi i (by omega)
        rw [Tryd.cells25] at hc
        obtain ⟨s0, s1, s2, rfl, hb⟩ := open_stamp ht
        obtain ⟨_, _, hat⟩ := World.cells?_some hc
        exact ⟨⟨s0, s1, s2⟩, fun _ => ⟨fun j hj => by rw [← hat j hj, ← Go.Deep.add_add], hb⟩⟩
      · exact ⟨⟨0, 0, 0⟩, fun q => absurd q hlt⟩
    obtain ⟨g, hg⟩ := Classical.axiomOfChoice hex
    simp at hcs
    refine ⟨some a, len, cap, g, hcs, fun k hk => ?_, Or.inr ⟨_, _, by rw [hx], by simp⟩⟩
    obtain ⟨hc, hbd⟩ := hg k hk
    obtain ⟨b, off, spot⟩ := a
    have hspot : spot = none := World.cell?_spot (a := ⟨b, off, spot⟩) ((hg 0 (by omega)).1 0 (by omega))
    subst hspot
    simp only [add_nones] at hc
    have c0 := hc 0 (by omega)
    have c1 := hc 1 (by omega)
    have c2 := hc 2 (by omega)
    simp only [← Nat.add_assoc, Nat.add_zero] at c0 c1 c2
    refine ⟨b, off, rfl, ?_, c0, c1, c2, hbd⟩
    rcases Nat.lt_or_ge b w.heap.size with h' | h'
    · exact h'
    · simp [World.cell?, Array.getElem?_eq_none h'] at c0

set_option maxRecDepth 100000 in
theorem contract (H : Type) (enc : TypeId × Value → H) (W : World) (base : Nat) (args : Array Value) (ds gs : List (DataW H)) (before : List MemPlace)
    (hval : ∀ (j : Nat) t v, Tryd.f4.params[j]? = some t → args[j]? = some v → Value.okWide Tryd.prog W .any base t v)
    (hW : DataW.Whole enc Tryd.prog Tryd.f4.params.toList Rows.tokenLaterSpec.vars false W args.toList ds gs before) (hsz0 : (DataW.weightsEach Tryd.prog (Tryd.f4.params.toList ++ Rows.tokenLaterSpec.plain.varTypes Tryd.prog) (ds ++ gs)).all (· ≤ reachBytes) = true) (hL : laidMetH Tryd.prog Rows.tokenLaterRow.laid W) :
    Calls Tryd.prog 4 args W fun e W' => ∃ v, e = .returned v ∧ Rows.tokenLaterSpec.post enc Tryd.prog Tryd.f4 false true false false W args v W' := by
  have hsz := hsz0
  have hW' := hW
  obtain ⟨p, q, hA0, hV, rfl, hfz, hnd⟩ := hW
  have hA : DataW.TrodAll enc Tryd.prog W 0 (fun _ => true) true Tryd.f4.params.toList args.toList ds p := hA0
  rw [Tryd.params4] at hA hval hsz
  obtain ⟨v0, d0, rfl, rfl, h0⟩ := trodAll_one hA
  obtain ⟨rfl, rfl⟩ := trodVars_none hV
  have k0 := h0
  have lt0 : ∀ x ∈ p, x.block < W.heap.size := by obtain ⟨m, hm⟩ := k0; exact DataW.trod_lt m _ _ _ hm
  obtain ⟨q, n, cap, hv⟩ := okWide_slice Tryd.underlying34 (hval 0 34 v0 rfl rfl)
  subst hv
  obtain ⟨fuel, hf⟩ := h0
  obtain ⟨q', n', cap', f, hv, hst, hd⟩ := open_list (v := .slice q n cap) hf
  injection hv with e1 e2 e3
  subst e1 e2 e3
  have hn : (n + 2) * 16 ≤ 140737488355328 := by
    rcases hd with rfl | ⟨es, sp, hd, hes⟩
    · omega
    · simp only at hd
      subst hd
      have := sized_slice hsz (j := 0) (t := 34) (e := 25) rfl rfl Tryd.underlying34
      rw [Tryd.bytes25] at this
      simp only [reachBytes] at this
      omega
  clear hA0 hsz0 hsz
  refine (later_walk q n cap f W (laid_of hL) hst hn).mono fun e W' ⟨he, bel⟩ => ?_
  subst he
  exact ⟨_, rfl, _, _, _, [], _, [], hW', trodAll_mk1 (shut_bool Tryd.underlying4 _), (trodAll_mk1 (Below.trod Tryd.laidOut (by kernel_rfl) (of_decide_eq_true (by kernel_rfl)) k0 bel lt0)), rfl, bel.frame _, fun h => by cases h⟩

theorem laid_met (os : Os) : laidMet Tryd.prog Rows.tokenLaterRow.laid ((laidWorld os).forCall (fun _ _ => 0) ⟨#[], #[.slice none 0 0], []⟩).memory :=
  laidMet_of_run' 8 (by kernel_rfl) (by kernel_rfl)
theorem reads (os : Os) {H : Type} (enc : TypeId × Value → H) : ∃ d places, DataW.whole enc Tryd.prog ((laidWorld os).forCall (fun _ _ => 0) ⟨#[], #[.slice none 0 0], []⟩).memory Tryd.f4.params.toList Rows.tokenLaterSpec.vars false #[(.slice none 0 0 : Value)].toList 8 = some ([d], [], places) :=
  ⟨.nil, [], by kernel_rfl⟩

set_option maxRecDepth 100000 in
theorem lifted (os : Os) (started : os.Started) (H : Type) (enc : TypeId × Value → H) (F : Stop.Interp) :
    ReturnsInHanded {} Tryd.checked os 4 .any ((OpenSpec.ofChange Rows.tokenLaterSpec).preRow enc Tryd.prog Tryd.f4 Rows.tokenLaterRow.domain false Rows.tokenLaterRow.laid) (((OpenSpec.ofChange Rows.tokenLaterSpec).at F).post enc Tryd.prog Tryd.f4 false true false false) := by
  obtain ⟨d, places, hx⟩ := reads os enc
  refine returnsInHanded_of_row (C := Tryd.checked) (s := OpenSpec.ofChange Rows.tokenLaterSpec) Tryd.own started (by kernel_rfl) Tryd.func4
    (witness_row_at (enc := enc) (C := Tryd.checked) false (laidWorld os) #[.slice none 0 0] rfl (by kernel_rfl) (by kernel_rfl) (by kernel_rfl)
      (OpenSpec.preRow_of_cond 8 hx (by kernel_rfl) (fun k hk => by cases hk) (by kernel_rfl) (laid_met os))) ?_
  intro W base args ds gs before hval hW _ _ hsz hL _ _
  exact contract H enc W base args ds gs before hval hW hsz hL

theorem said : Rows.TokenLaterSaid :=
  OpenClaim.holds_of_cond 4 Tryd.f4 rfl rfl rfl rfl rfl rfl rfl ⟨rfl, rfl, rfl, rfl, rfl⟩ rfl rfl rfl rfl rfl (by kernel_rfl) Tryd.func4 (by kernel_rfl)
    (of_decide_eq_true (by kernel_rfl)) (by unfold Func.isWrapper; first | (rw [if_pos (by decide +kernel)]; kernel_rfl) | (rw [if_neg (by decide +kernel)]; exact ⟨rfl, rfl⟩))
    (fun os started H enc _ F => by rw [OpenClaim.pre_eq_preRow]; exact lifted os started H enc F)

theorem plain (f : FuncId) (fn : Func) (hf : Tryd.pinned.checked.prog.funcNamed "tidemark/tidemarklaw4.TokenLater" = some f) (hfn : Tryd.pinned.checked.prog.funcs[f]? = some fn) :
    false = Tryd.pinned.checked.prog.looks [] ∧ ∀ (j : Nat) t, fn.params[j]? = some t → Tryd.pinned.checked.prog.wantsStandIn t = false := by
  obtain rfl : f = 4 := Option.some.inj ((show Tryd.prog.funcNamed "tidemark/tidemarklaw4.TokenLater" = some 4 by kernel_rfl).symm.trans hf) |>.symm
  obtain rfl : fn = Tryd.f4 := (Option.some.inj (Tryd.func4.symm.trans hfn)).symm
  refine ⟨by kernel_rfl, fun j t ht => ?_⟩
  rw [Tryd.params4] at ht
  obtain rfl : t = 34 := by simpa using Array.mem_of_getElem? ht
  exact (show Tryd.prog.wantsStandIn 34 = false by kernel_rfl)

theorem card : Rows.TokenLaterCardSaid :=
  Claim7.holds_tied_plain_at .later [] _ _ _ _ said (fun _ h => by cases h) (by kernel_rfl) (fun _ h => by cases h) tokenLater_row_tie rfl ⟨rfl, rfl⟩ (by kernel_rfl) rfl plain (by kernel_rfl)
end Go.Proofs.YtdpgfjdndohcdaaDoor.tokenLater
