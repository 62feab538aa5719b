/- The plain law of joining tokens one by one: they are the token of the greatest stamp. -/
import Derived.Test.YtdpgfjdndohcdaaDoorRefJoin
namespace Go.Proofs.YtdpgfjdndohcdaaDoor

/-- A stamp in numbers. -/
structure Tri where
  x : Nat
  y : Nat
  z : Nat
def Tri.fits (t : Tri) : Prop := t.x < 18446744073709551616 ∧ t.y < 4294967296 ∧ t.z < 4294967296
def Tri.st (t : Tri) : St := ⟨t.x, t.y, t.z⟩
def Tri.lt (t u : Tri) : Bool := ltB t.x t.y t.z u.x u.y u.z
def Tri.enc (t : Tri) : ByteArray := encS t.x t.y t.z
/-- The greatest of the first k. -/
def mxN (f : Nat → Tri) : Nat → Tri
  | 0 => ⟨0, 0, 0⟩
  | k + 1 => if (mxN f k).lt (f k) = true then f k else mxN f k
theorem mxN_succ (f : Nat → Tri) (k : Nat) : mxN f (k + 1) = if (mxN f k).lt (f k) = true then f k else mxN f k := rfl
theorem mxN_fits {f : Nat → Tri} : ∀ k, (∀ j, j < k → (f j).fits) → (mxN f k).fits
  | 0, _ => show (⟨0, 0, 0⟩ : Tri).fits from ⟨by decide, by decide, by decide⟩
  | k + 1, h => by
    have ih := mxN_fits k fun j hj => h j (by omega)
    have hk := h k (by omega)
    unfold mxN
    split
    · exact hk
    · exact ih
theorem maxTo_mxN (f : Nat → Tri) : ∀ k, maxTo (fun j => (f j).st) k = (mxN f k).st
  | 0 => rfl
  | k + 1 => by
    unfold maxTo mxN
    rw [maxTo_mxN f k]
    have e : St.lt (mxN f k).st (f k).st = (mxN f k).lt (f k) := rfl
    rw [e]
    split <;> rfl
theorem tri_eq {t u : Tri} (h1 : t.lt u = false) (h2 : u.lt t = false) : t = u := by
  obtain ⟨a, b, c⟩ := t
  obtain ⟨a', b', c'⟩ := u
  unfold Tri.lt at h1 h2
  simp only at h1 h2
  rcases Int.lt_trichotomy (a : Int) a' with h | h | h
  · rw [ltB_lt h] at h1; cases h1
  · obtain rfl : a = a' := by omega
    rcases Int.lt_trichotomy (b : Int) b' with h | h | h
    · rw [ltB_elt h] at h1; cases h1
    · obtain rfl : b = b' := by omega
      rw [ltB_ee] at h1 h2
      simp at h1 h2
      obtain rfl : c = c' := by omega
      rfl
    · rw [ltB_elt h] at h2; cases h2
  · rw [ltB_lt h] at h2; cases h2
theorem zero_lt {t : Tri} : t.lt ⟨0, 0, 0⟩ = false := by
  obtain ⟨a, b, c⟩ := t
  unfold Tri.lt
  simp only
  rcases Int.lt_trichotomy (a : Int) ((0 : Nat) : Int) with h | h | h
  · omega
  · obtain rfl : a = 0 := by omega
    rcases Int.lt_trichotomy (b : Int) ((0 : Nat) : Int) with h | h | h
    · omega
    · obtain rfl : b = 0 := by omega
      rw [ltB_ee]
      simp
    · exact ltB_egt h
  · exact ltB_gt h
theorem mxN_one (f : Nat → Tri) : mxN f 1 = f 0 := by
  show (if (⟨0, 0, 0⟩ : Tri).lt (f 0) = true then f 0 else ⟨0, 0, 0⟩) = f 0
  split
  · rfl
  · rename_i h
    exact tri_eq (by simpa using h) zero_lt

theorem nil_empty : (ByteArray.mk #[]).toList.isEmpty = true := by rw [Go.ByteArray.toList_eq]; rfl
/-- What is joined of the first k. -/
def allT (f : Nat → Tri) (k : Nat) : ByteArray := if k = 0 then ⟨#[]⟩ else (mxN f k).enc
theorem enc_dec {t : Tri} : decL t.enc.data.toList = some (packL t.x t.y t.z) := by
  show decL (hexL (packL t.x t.y t.z ++ sumL (packL t.x t.y t.z))) = _
  exact decL_hexL _ (packL_length _ _ _)
theorem enc_full {t : Tri} : t.enc.toList.isEmpty = false := by
  have h : t.enc.size = 40 := encS_size _ _ _
  have hl : t.enc.data.toList.length = 40 := by simpa using h
  rw [Go.ByteArray.toList_eq]
  cases e : t.enc.data.toList with
  | nil => rw [e] at hl; simp at hl
  | cons a l => rfl
theorem enc_nums {t : Tri} (h : t.fits) : sX t.enc = t.x ∧ sY t.enc = t.y ∧ sZ t.enc = t.z := by
  have h1 := dec_enc t.x t.y t.z h.1 h.2.1 h.2.2
  have h2 := decV_is t.enc
  have e : decV (decL t.enc.data.toList) = .tuple #[.agg #[.int .u64 t.x, .int .u32 t.y, .int .u32 t.z], .int .i64 0] := h1
  rw [h2] at e
  simp at e
  omega
theorem join_enc {t u : Tri} (ht : t.fits) (hu : u.fits) : joinV t.enc u.enc = if u.lt t = true then .tuple #[.string t.enc, .int .i64 0] else .tuple #[.string u.enc, .int .i64 0] := by
  obtain ⟨a1, a2, a3⟩ := enc_nums ht
  obtain ⟨b1, b2, b3⟩ := enc_nums hu
  rw [join_good (bad_good enc_dec) (bad_good enc_dec), enc_full, enc_full, a1, a2, a3, b1, b2, b3]
  cases h : u.lt t with
  | true => unfold Tri.lt at h; rw [h]; rfl
  | false => unfold Tri.lt at h; rw [h]; rfl
theorem join_same {t : Tri} (ht : t.fits) : joinV t.enc t.enc = .tuple #[.string t.enc, .int .i64 0] := by
  rw [join_enc ht ht]
  split <;> rfl
theorem lt_asymT {t u : Tri} (h : t.lt u = true) : u.lt t = false := lt_asym h
theorem join_there {f : Nat → Tri} {k : Nat} (h : ∀ j, j < k + 1 → (f j).fits) : joinV (allT f k) (f k).enc = .tuple #[.string (allT f (k + 1)), .int .i64 0] := by
  have hk := h k (by omega)
  unfold allT
  rw [if_neg (Nat.succ_ne_zero k)]
  by_cases h0 : k = 0
  · subst h0
    rw [if_pos rfl, mxN_one, join_good (bad_empty nil_empty) (bad_good enc_dec), enc_full, nil_empty]
    rfl
  · rw [if_neg h0]
    have hm := mxN_fits k fun j hj => h j (by omega)
    rw [join_enc hm hk]
    rw [mxN_succ]
    cases h1 : (mxN f k).lt (f k) with
    | true => rw [lt_asymT h1]; rfl
    | false =>
      cases h2 : (f k).lt (mxN f k) with
      | true => rfl
      | false => rw [tri_eq h1 h2]; rfl
theorem join_back {f : Nat → Tri} {k : Nat} (h : ∀ j, j < k + 1 → (f j).fits) : joinV (f k).enc (allT f k) = .tuple #[.string (allT f (k + 1)), .int .i64 0] := by
  have hk := h k (by omega)
  unfold allT
  rw [if_neg (Nat.succ_ne_zero k)]
  by_cases h0 : k = 0
  · subst h0
    rw [if_pos rfl, mxN_one, join_good (bad_good enc_dec) (bad_empty nil_empty), nil_empty]
    rfl
  · rw [if_neg h0]
    have hm := mxN_fits k fun j hj => h j (by omega)
    rw [join_enc hk hm]
    rw [mxN_succ]
    cases h1 : (mxN f k).lt (f k) with
    | true => rfl
    | false => rfl
end Go.Proofs.YtdpgfjdndohcdaaDoor
