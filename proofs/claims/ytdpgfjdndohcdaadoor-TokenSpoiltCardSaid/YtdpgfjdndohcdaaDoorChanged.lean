/- The plain law of a spoilt token: with one digit changed it is none. -/
import Derived.Test.YtdpgfjdndohcdaaDoorPlain
namespace Go.Proofs.YtdpgfjdndohcdaaDoor

theorem sh_lt {x : Nat} (h : x < 4294967296) : sh x < 4294967296 := by
  unfold sh
  refine xor_lt32 (by omega) ?_
  rcases Nat.mod_two_eq_zero_or_one x with e | e <;> rw [e] <;> decide
theorem shN_inj : ∀ (j : Nat) {x y : Nat}, x < 4294967296 → y < 4294967296 → shN j x = shN j y → x = y
  | 0, _, _, _, _, h => h
  | j + 1, x, y, hx, hy, h => by
    rw [← shN_add j 1 x, ← shN_add j 1 y] at h
    exact sh_inj hx hy (shN_inj j (sh_lt hx) (sh_lt hy) h)
theorem xor_cancel {a b c : Nat} (h : a ^^^ b = a ^^^ c) : b = c := by
  have : a ^^^ (a ^^^ b) = a ^^^ (a ^^^ c) := by rw [h]
  rw [← Nat.xor_assoc, ← Nat.xor_assoc, Nat.xor_self, Nat.zero_xor, Nat.zero_xor] at this
  exact this
theorem crcStep_inj {c b c' b' : Nat} (hc : c < 4294967296) (hb : b < 256) (hc' : c' < 4294967296) (hb' : b' < 256) (h : crcStep c b = crcStep c' b') : c ^^^ b = c' ^^^ b' := by
  unfold crcStep at h
  rw [nib_sh, nib_sh, nib_sh, nib_sh, shN_add, shN_add] at h
  exact shN_inj 8 (xor_lt32 hc (by omega)) (xor_lt32 hc' (by omega)) h
theorem crcL_inj : ∀ (l : List UInt8) {c c' : Nat}, c < 4294967296 → c' < 4294967296 → crcL c l = crcL c' l → c = c'
  | [], _, _, _, _, h => h
  | b :: l, c, c', hc, hc', h => by
    have hb := b.toNat_lt
    have h1 := crcL_inj l (crcStep_lt hc hb) (crcStep_lt hc' hb) h
    have h2 := crcStep_inj hc hb hc' hb h1
    rw [Nat.xor_comm c, Nat.xor_comm c'] at h2
    exact xor_cancel h2
theorem crcL_set : ∀ (l : List UInt8) (k : Nat) (x : UInt8) {c : Nat}, c < 4294967296 → crcL c (l.set k x) = crcL c l → l.set k x = l
  | [], _, _, _, _, _ => rfl
  | b :: l, 0, x, c, hc, h => by
    have h1 := crcL_inj l (crcStep_lt hc x.toNat_lt) (crcStep_lt hc b.toNat_lt) h
    have h2 := xor_cancel (crcStep_inj hc x.toNat_lt hc b.toNat_lt h1)
    rw [List.set_cons_zero, UInt8.toNat_inj.1 h2]
  | b :: l, k + 1, x, c, hc, h => by
    rw [List.set_cons_succ, crcL_set l k x (crcStep_lt hc b.toNat_lt) h]
theorem sumL_inj {l m : List UInt8} (h : sumL l = sumL m) : crcL 4294967295 l = crcL 4294967295 m := by
  have hl := crcN_lt l
  have hm := crcN_lt m
  unfold sumL at h
  simp only [List.cons.injEq, and_true] at h
  obtain ⟨h1, h2, h3, h4⟩ := h
  have e : ∀ a b : Nat, UInt8.ofNat a = UInt8.ofNat b → a % 256 = b % 256 := fun a b h => by
    have := congrArg UInt8.toNat h
    simpa using this
  have h1 := e _ _ h1
  have h2 := e _ _ h2
  have h3 := e _ _ h3
  have h4 := e _ _ h4
  have hn : crcN l = crcN m := by omega
  unfold crcN at hn
  rw [Nat.xor_comm, Nat.xor_comm (crcL 4294967295 m)] at hn
  exact xor_cancel hn
theorem dg_inj {a b : Nat} (ha : a < 16) (hb : b < 16) (h : dg a = dg b) : a = b := by
  have h1 := val_dg a ha
  rw [h, val_dg b hb] at h1
  exact (Option.some.inj h1).symm
theorem hexL_set : ∀ (b a : List UInt8) (i : Nat) (u : UInt8), i < 2 * b.length → hexL a = (hexL b).set i u → ∃ x, a = b.set (i / 2) x
  | [], _, i, _, hi, _ => by simp at hi
  | y :: b, [], i, u, _, h => by
    have := congrArg List.length h
    rw [List.length_set, hexL_length, hexL_length] at this
    simp at this
  | y :: b, x :: a, 0, u, _, h => by
    simp only [hexL, List.set_cons_zero, List.cons.injEq] at h
    exact ⟨x, by rw [hexL_inj h.2.2]; rfl⟩
  | y :: b, x :: a, 1, u, _, h => by
    simp only [hexL, List.set_cons_succ, List.set_cons_zero, List.cons.injEq] at h
    exact ⟨x, by rw [hexL_inj h.2.2]; rfl⟩
  | y :: b, x :: a, i + 2, u, hi, h => by
    simp only [hexL, List.set_cons_succ, List.cons.injEq] at h
    have hx := x.toNat_lt
    have hy := y.toNat_lt
    have h1 := dg_inj (by omega) (by omega) h.1
    have h2 := dg_inj (by omega) (by omega) h.2.1
    have e : x = y := UInt8.toNat_inj.1 (by omega)
    obtain ⟨z, hz⟩ := hexL_set b a i u (by simp at hi; omega) h.2.2
    exact ⟨z, by rw [e, hz, show (i + 2) / 2 = i / 2 + 1 by omega]; rfl⟩

/-- With one digit changed a token is none. -/
theorem decL_set (l : List UInt8) (hl : l.length = 16) (i : Nat) (hi : i < 40) (u : UInt8) (hu : (hexL (l ++ sumL l)).getD i 0 ≠ u) : decL ((hexL (l ++ sumL l)).set i u) = none := by
  cases hd : decL ((hexL (l ++ sumL l)).set i u) with
  | none => rfl
  | some m =>
    obtain ⟨hm, h⟩ := decL_some hd
    have hb : (l ++ sumL l).length = 20 := by rw [List.length_append, hl, sumL_length]
    obtain ⟨x, hx⟩ := hexL_set (l ++ sumL l) (m ++ sumL m) i u (by omega) h.symm
    have hml : m = l := by
      have ht := congrArg (List.take 16) hx
      rw [List.take_set] at ht
      have e1 : (m ++ sumL m).take 16 = m := by rw [← hm]; simp
      have e2 : (l ++ sumL l).take 16 = l := by rw [← hl]; simp
      rw [e1, e2] at ht
      rcases Nat.lt_or_ge (i / 2) 16 with hk | hk
      · have hdr := congrArg (List.drop 16) hx
        have e3 : (m ++ sumL m).drop 16 = sumL m := by rw [← hm]; simp
        have e4 : (l ++ sumL l).drop 16 = sumL l := by rw [← hl]; simp
        rw [List.drop_set, if_pos (by omega), e3, e4] at hdr
        have hs := sumL_inj hdr
        rw [ht] at hs ⊢
        exact crcL_set l (i / 2) x (by decide) hs
      · rw [ht, List.set_eq_of_length_le (by omega)]
    rw [hml] at h
    exfalso
    apply hu
    rw [← h, List.getD_eq_getElem?_getD, List.getElem?_set_self (by rw [hexL_length, hb]; omega)]
    rfl
end Go.Proofs.YtdpgfjdndohcdaaDoor
