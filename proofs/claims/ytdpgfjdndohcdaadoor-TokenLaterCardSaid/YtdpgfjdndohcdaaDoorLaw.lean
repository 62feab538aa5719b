/- The plain law of the sum: four bits by a table are four divisions; the two sums are one; a division loses nothing. -/
import Derived.Test.YtdpgfjdndohcdaaDoorRefCrc
namespace Go.Proofs.YtdpgfjdndohcdaaDoor

theorem xor_par (a b : Nat) : (a ^^^ b) % 2 = (a + b) % 2 := by
  have h := Nat.testBit_xor a b 0
  simp only [Nat.testBit_zero] at h
  rcases Nat.mod_two_eq_zero_or_one a with ha | ha <;> rcases Nat.mod_two_eq_zero_or_one b with hb | hb <;> rcases Nat.mod_two_eq_zero_or_one (a ^^^ b) with hc | hc <;> simp [ha, hb, hc] at h <;> omega
theorem xor_zero_iff {x y : Nat} (h : x ^^^ y = 0) : x = y := by
  have : x ^^^ (x ^^^ y) = x := by rw [h, Nat.xor_zero]
  rw [← Nat.xor_assoc, Nat.xor_self, Nat.zero_xor] at this
  exact this.symm

/-- One division. -/
def sh (x : Nat) : Nat := (x / 2) ^^^ ((x % 2) * 3988292384)
theorem sh_xor (a b : Nat) : sh (a ^^^ b) = sh a ^^^ sh b := by
  unfold sh
  rw [Nat.xor_div_two]
  have h : (a ^^^ b) % 2 * 3988292384 = (a % 2 * 3988292384) ^^^ (b % 2 * 3988292384) := by
    rw [xor_par]
    rcases Nat.mod_two_eq_zero_or_one a with ha | ha <;> rcases Nat.mod_two_eq_zero_or_one b with hb | hb <;> simp [ha, hb, Nat.add_mod]
  rw [h]
  ac_rfl
theorem bit1_sh (r u : Nat) : bit1 r u ^^^ (u / 2) = sh (r ^^^ u) := by
  have h : bit1 r u = (r / 2) ^^^ ((r + u) % 2 * 3988292384) := by
    unfold bit1
    rcases Nat.mod_two_eq_zero_or_one (r + u) with h | h <;> simp [h]
  unfold sh
  rw [h, Nat.xor_div_two, xor_par]
  ac_rfl
def shN : Nat → Nat → Nat
  | 0, x => x
  | j + 1, x => sh (shN j x)
theorem bitJ_sh (r v : Nat) : ∀ j, bitJ r v j ^^^ (v / 2 ^ j) = shN j (r ^^^ v)
  | 0 => by simp [bitJ, shN]
  | j + 1 => by
    rw [bitJ, shN, ← bitJ_sh r v j, ← bit1_sh, Nat.div_div_eq_div_mul, ← Nat.pow_succ]
theorem shN_xor (a b : Nat) : ∀ j, shN j (a ^^^ b) = shN j a ^^^ shN j b
  | 0 => rfl
  | j + 1 => by rw [shN, shN_xor a b j, sh_xor]; rfl
theorem xor_low : ∀ (k y b : Nat), b < 2 ^ k → (2 ^ k * y) ^^^ b = 2 ^ k * y + b
  | 0, y, b, h => by
    obtain rfl : b = 0 := by simpa using h
    simp
  | k + 1, y, b, h => by
    have ih := xor_low k y (b / 2) (by rw [Nat.pow_succ] at h; omega)
    have e1 : 2 ^ (k + 1) * y = 2 * (2 ^ k * y) := by rw [Nat.pow_succ]; ac_rfl
    have h1 : ((2 ^ (k + 1) * y) ^^^ b) / 2 = 2 ^ k * y + b / 2 := by
      rw [Nat.xor_div_two, e1, Nat.mul_div_cancel_left _ (by decide), ih]
    have h2 : ((2 ^ (k + 1) * y) ^^^ b) % 2 = b % 2 := by
      rw [xor_par, e1]; omega
    rw [e1] at h1 h2 ⊢
    omega
theorem sh_even (m : Nat) : sh (2 * m) = m := by simp [sh]
theorem nib_sh (x : Nat) : nib x = shN 4 x := by
  have e : x = (2 ^ 4 * (x / 16)) ^^^ (x % 16) := by rw [xor_low 4 _ _ (Nat.mod_lt _ (by decide))]; omega
  have e1 : shN 4 (2 ^ 4 * (x / 16)) = x / 16 := by
    simp only [shN]
    rw [show 2 ^ 4 * (x / 16) = 2 * (2 * (2 * (2 * (x / 16)))) by omega, sh_even, sh_even, sh_even, sh_even]
  have e2 : ∀ i : Fin 16, shN 4 i.val = tb i.val := by decide
  have e3 := e2 ⟨x % 16, Nat.mod_lt _ (by decide)⟩
  conv => rhs; rw [e, shN_xor, e1]
  rw [e3, nib, Nat.xor_comm]
theorem shN_add (i j x : Nat) : shN i (shN j x) = shN (i + j) x := by
  induction i with
  | zero => simp [shN]
  | succ i ih => rw [shN, ih, Nat.succ_add]; rfl
theorem crcStep_ref (c b : Nat) (hb : b < 256) : bitJ c b 8 = crcStep c b := by
  have h := bitJ_sh c b 8
  rw [show b / 2 ^ 8 = 0 by omega, Nat.xor_zero] at h
  rw [h, crcStep, nib_sh, nib_sh, shN_add]
theorem refL_crcL (c : Nat) (l : List UInt8) : refL c l = crcL c l := by
  induction l generalizing c with
  | nil => rfl
  | cons b l ih =>
    show refL (bitJ c b.toNat 8) l = crcL (crcStep c b.toNat) l
    rw [crcStep_ref _ _ b.toNat_lt, ih]

/-- A division loses nothing. -/
theorem sh_inj {x y : Nat} (hx : x < 4294967296) (hy : y < 4294967296) (h : sh x = sh y) : x = y := by
  have key : ∀ a b : Nat, a < 2147483648 → b < 2147483648 → a ^^^ b = 3988292384 → False := by
    intro a b ha hb e
    have := Nat.xor_lt_two_pow (n := 31) ha hb
    omega
  have h1 : (x / 2 ^^^ y / 2) = (x % 2 * 3988292384) ^^^ (y % 2 * 3988292384) := by
    unfold sh at h
    have h2 : (x / 2 ^^^ (x % 2 * 3988292384)) ^^^ (y / 2 ^^^ (y % 2 * 3988292384)) = 0 := by rw [h]; exact Nat.xor_self _
    have h3 : (x / 2 ^^^ y / 2) ^^^ ((x % 2 * 3988292384) ^^^ (y % 2 * 3988292384)) = 0 := by rw [← h2]; ac_rfl
    exact xor_zero_iff h3
  rcases Nat.mod_two_eq_zero_or_one x with ha | ha <;> rcases Nat.mod_two_eq_zero_or_one y with hb | hb <;> simp only [ha, hb, Nat.zero_mul, Nat.one_mul, Nat.xor_zero, Nat.zero_xor, Nat.xor_self] at h1
  · have := xor_zero_iff h1; omega
  · exact (key _ _ (by omega) (by omega) h1).elim
  · exact (key _ _ (by omega) (by omega) h1).elim
  · have := xor_zero_iff h1; omega
end Go.Proofs.YtdpgfjdndohcdaaDoor
