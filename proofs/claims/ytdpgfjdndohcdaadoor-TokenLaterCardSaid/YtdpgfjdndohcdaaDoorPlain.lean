/- The plain law of tokens: digits there and back, bytes there and back, what a token is. -/
import Derived.Test.YtdpgfjdndohcdaaDoorDec
import Derived.Test.YtdpgfjdndohcdaaDoorLaw
namespace Go.Proofs.YtdpgfjdndohcdaaDoor

theorem dg_low : ∀ i : Fin 10, dg i.val = UInt8.ofNat (i.val + 48) := by decide
theorem dg_high : ∀ i : Fin 6, dg (i.val + 10) = UInt8.ofNat (i.val + 97) := by decide
theorem val_digit {c : UInt8} {v : Nat} (h : val (c.toNat : Int) = some v) : v < 16 ∧ dg v = c := by
  unfold val at h
  split at h
  · have hv := Option.some.inj h
    have h1 := dg_low ⟨v, by omega⟩
    refine ⟨by omega, h1.trans ?_⟩
    rw [show v + 48 = c.toNat by omega]
    simp
  · split at h
    · have hv := Option.some.inj h
      have h1 := dg_high ⟨v - 10, by omega⟩
      simp only [show v - 10 + 10 = v by omega] at h1
      refine ⟨by omega, h1.trans ?_⟩
      rw [show v - 10 + 97 = c.toNat by omega]
      simp
    · cases h

theorem unhexL_hexL : ∀ l : List UInt8, unhexL (hexL l) = some l
  | [] => rfl
  | b :: l => by
    have hb := b.toNat_lt
    rw [hexL, unhexL, val_dg _ (by omega), val_dg _ (by omega), unhexL_hexL l]
    simp only [Option.some.injEq, List.cons.injEq, and_true]
    rw [show b.toNat / 16 * 16 + b.toNat % 16 = b.toNat by omega]
    simp
theorem hexL_unhexL : ∀ s l : List UInt8, unhexL s = some l → hexL l = s
  | [], l, h => by
    rw [unhexL] at h
    obtain rfl : [] = l := by simpa using h
    rfl
  | [a], l, h => by simp [unhexL] at h
  | a :: b :: s, l, h => by
    rw [unhexL] at h
    split at h
    · rename_i x y r h1 h2 h3
      obtain rfl := Option.some.inj h
      obtain ⟨hx, ha⟩ := val_digit h1
      obtain ⟨hy, hb⟩ := val_digit h2
      have e : (UInt8.ofNat (x * 16 + y)).toNat = x * 16 + y := by simp; omega
      rw [hexL, e, hexL_unhexL s _ h3, show (x * 16 + y) / 16 = x by omega, show (x * 16 + y) % 16 = y by omega, ha, hb]
    · cases h
theorem hexL_inj {l m : List UInt8} (h : hexL l = hexL m) : l = m := by
  have := unhexL_hexL l
  rw [h, unhexL_hexL] at this
  exact (Option.some.inj this).symm

/-- A text is taken just if it is the digits of 16 bytes and of their sum. -/
theorem decL_hexL (l : List UInt8) (h : l.length = 16) : decL (hexL (l ++ sumL l)) = some l := by
  have h1 : (hexL (l ++ sumL l)).length = 40 := by rw [hexL_length, List.length_append, h, sumL_length]
  unfold decL
  rw [if_pos h1, unhexL_hexL]
  simp [← h]
theorem decL_some {s l : List UInt8} (h : decL s = some l) : l.length = 16 ∧ s = hexL (l ++ sumL l) := by
  unfold decL at h
  split at h
  · rename_i h40
    split at h
    · rename_i t ht
      split at h
      · rename_i hs
        obtain rfl := Option.some.inj h
        have hl := unhexL_length _ _ ht
        refine ⟨by rw [List.length_take]; omega, ?_⟩
        rw [hs, List.take_append_drop]
        exact (hexL_unhexL _ _ ht).symm
      · cases h
    · cases h
  · cases h

/-- Numbers from their bytes. -/
theorem liftN_of (f : Nat → Nat) (a : Nat) : ∀ (k v : Nat), (∀ j, j < k → f (a + j) = v / 256 ^ (k - 1 - j) % 256) → liftN f a k = v % 256 ^ k
  | 0, v, _ => by simp [liftN, Nat.mod_one]
  | k + 1, v, h => by
    have ih := liftN_of f a k (v / 256) (fun j hj => by
      rw [h j (by omega), Nat.div_div_eq_div_mul]
      congr 2
      rw [Nat.mul_comm, ← Nat.pow_succ]
      congr 1
      omega)
    have hl := h k (by omega)
    rw [show k + 1 - 1 - k = 0 by omega, Nat.pow_zero, Nat.div_one] at hl
    rw [liftN, ih, hl, Nat.pow_succ, Nat.mul_comm (256 ^ k) 256, Nat.mod_mul, Nat.mul_comm (v / 256 % 256 ^ k) 256]
    omega
/-- Bytes of a number that they spell. -/
theorem liftN_at (f : Nat → Nat) (hf : ∀ j, f j < 256) (a : Nat) : ∀ (k j : Nat), j < k → liftN f a k / 256 ^ (k - 1 - j) % 256 = f (a + j)
  | k + 1, j, h => by
    by_cases hj : j = k
    · subst hj
      have := hf (a + j)
      rw [show j + 1 - 1 - j = 0 by omega, Nat.pow_zero, Nat.div_one, liftN]
      omega
    · have ih := liftN_at f hf a k j (by omega)
      have e : k + 1 - 1 - j = (k - 1 - j) + 1 := by omega
      have hb := hf (a + k)
      rw [e, Nat.pow_succ, Nat.mul_comm (256 ^ (k - 1 - j)) 256, ← Nat.div_div_eq_div_mul, liftN, show (liftN f a k * 256 + f (a + k)) / 256 = liftN f a k by omega, ih]

theorem packF0 (x y z j : Nat) (h : j < 8) : packF x y z j = x / 256 ^ (7 - j) % 256 := by
  unfold packF layF
  rw [if_neg (by omega), if_neg (by omega), if_pos (by omega)]
theorem packF8 (x y z j : Nat) (h : j < 4) : packF x y z (8 + j) = y / 256 ^ (3 - j) % 256 := by
  unfold packF layF
  rw [if_neg (by omega), if_pos (by omega)]
  congr 3
  omega
theorem packF12 (x y z j : Nat) (h : j < 4) : packF x y z (12 + j) = z / 256 ^ (3 - j) % 256 := by
  unfold packF layF
  rw [if_pos (by omega)]
  congr 3
  omega
theorem bF_packL (x y z j : Nat) (h : j < 16) : bF ⟨(packL x y z).toArray⟩ j = packF x y z j := by
  have := packF_lt x y z j
  simp [bF, packL, h]
  omega
/-- A stamp's bytes spell it. -/
theorem stV_packL (x y z : Nat) (hx : x < 18446744073709551616) (hy : y < 4294967296) (hz : z < 4294967296) : stV ⟨(packL x y z).toArray⟩ = .agg #[.int .u64 x, .int .u32 y, .int .u32 z] := by
  unfold stV
  rw [liftN_of _ 0 8 x (fun j hj => by rw [Nat.zero_add, bF_packL _ _ _ _ (by omega), packF0 _ _ _ _ hj]), liftN_of _ 8 4 y (fun j hj => by rw [bF_packL _ _ _ _ (by omega), packF8 _ _ _ _ hj]),
    liftN_of _ 12 4 z (fun j hj => by rw [bF_packL _ _ _ _ (by omega), packF12 _ _ _ _ hj])]
  rw [Nat.mod_eq_of_lt hx, Nat.mod_eq_of_lt hy, Nat.mod_eq_of_lt hz]
/-- The numbers of 16 bytes. -/
def nX (l : List UInt8) : Nat := liftN (bF ⟨l.toArray⟩) 0 8
def nY (l : List UInt8) : Nat := liftN (bF ⟨l.toArray⟩) 8 4
def nZ (l : List UInt8) : Nat := liftN (bF ⟨l.toArray⟩) 12 4
theorem nX_lt (l : List UInt8) : nX l < 18446744073709551616 := liftN_lt _ (bF_lt _) 0 8
theorem nY_lt (l : List UInt8) : nY l < 4294967296 := liftN_lt _ (bF_lt _) 8 4
theorem nZ_lt (l : List UInt8) : nZ l < 4294967296 := liftN_lt _ (bF_lt _) 12 4
theorem packL_of (l : List UInt8) (h : l.length = 16) : packL (nX l) (nY l) (nZ l) = l := by
  apply List.ext_getElem
  · simp [packL, h]
  · intro j h1 h2
    have hj : j < 16 := by simpa [packL] using h1
    have hb : bF ⟨l.toArray⟩ j = l[j].toNat := by simp [bF, h2]
    have hp : packF (nX l) (nY l) (nZ l) j = bF ⟨l.toArray⟩ j := by
      rcases Nat.lt_or_ge j 8 with h8 | h8
      · rw [packF0 _ _ _ _ h8]
        have := liftN_at _ (bF_lt ⟨l.toArray⟩) 0 8 j h8
        rwa [Nat.zero_add] at this
      · rcases Nat.lt_or_ge j 12 with h12 | h12
        · obtain ⟨i, rfl⟩ : ∃ i, j = 8 + i := ⟨j - 8, by omega⟩
          rw [packF8 _ _ _ _ (by omega)]
          exact liftN_at _ (bF_lt ⟨l.toArray⟩) 8 4 i (by omega)
        · obtain ⟨i, rfl⟩ : ∃ i, j = 12 + i := ⟨j - 12, by omega⟩
          rw [packF12 _ _ _ _ (by omega)]
          exact liftN_at _ (bF_lt ⟨l.toArray⟩) 12 4 i (by omega)
    simp [packL, hp, hb]
theorem decV_some (l : List UInt8) : decV (some l) = .tuple #[.agg #[.int .u64 (nX l), .int .u32 (nY l), .int .u32 (nZ l)], .int .i64 0] := rfl

/-- A token is taken, and gives its stamp back. -/
theorem dec_enc (x y z : Nat) (hx : x < 18446744073709551616) (hy : y < 4294967296) (hz : z < 4294967296) :
    decV (decL (encS x y z).data.toList) = .tuple #[.agg #[.int .u64 x, .int .u32 y, .int .u32 z], .int .i64 0] := by
  have e : (encS x y z).data.toList = hexL (packL x y z ++ sumL (packL x y z)) := rfl
  rw [e, decL_hexL _ (packL_length x y z)]
  show Value.tuple #[stV ⟨(packL x y z).toArray⟩, .int .i64 0] = _
  rw [stV_packL x y z hx hy hz]
theorem encS_size (x y z : Nat) : (encS x y z).size = 40 := by rw [encS, mk_size, hexL_length, rawL_length]
theorem enc_inj {x y z x' y' z' : Nat} (hx : x < 18446744073709551616) (hy : y < 4294967296) (hz : z < 4294967296) (hx' : x' < 18446744073709551616) (hy' : y' < 4294967296) (hz' : z' < 4294967296)
    (h : encS x y z = encS x' y' z') : x = x' ∧ y = y' ∧ z = z' := by
  have h1 := dec_enc x y z hx hy hz
  rw [h, dec_enc x' y' z' hx' hy' hz'] at h1
  simp at h1
  omega
end Go.Proofs.YtdpgfjdndohcdaaDoor
