/-
  PtoS: what the packages rtt and pto compute, in plain Lean (no program in sight).
-/
namespace Go.Proofs.Ytebogbhjgdihpaa.Pto

abbrev M : Int := 9007199254740991

def tm (n : Int) : Int := max 0 (min n 9007199254740991)
theorem tm_lo (n : Int) : 0 ≤ tm n := by unfold tm; omega
theorem tm_hi (n : Int) : tm n ≤ 9007199254740991 := by unfold tm; omega

/-- A new measure; one that was sampled. -/
def ckN (a b c d : Int) : Prop := a = 0 ∧ b = 0 ∧ 1000000 ≤ c ∧ c ≤ 60000000000 ∧ d = c / 2
def ckO (a b c d e : Int) : Prop := 0 ≤ e ∧ e ≤ 9007199254740991 ∧ 0 ≤ a ∧ a ≤ 9007199254740991 ∧ 0 ≤ b ∧ b ≤ 9007199254740991 ∧ 0 ≤ c ∧ c ≤ 9007199254740991 ∧ 0 ≤ d ∧ d ≤ 9007199254740991 ∧ b ≤ a ∧ b ≤ c
instance (a b c d : Int) : Decidable (ckN a b c d) := by unfold ckN; infer_instance
instance (a b c d e : Int) : Decidable (ckO a b c d e) := by unfold ckO; infer_instance
def ckP (a b c d e : Int) : Prop := (e = -1 ∧ ckN a b c d) ∨ (e ≠ -1 ∧ ckO a b c d e)
instance (a b c d e : Int) : Decidable (ckP a b c d e) := by unfold ckP; infer_instance
def ckF (a b c d e : Int) : Int := if ckP a b c d e then 0 else 2
theorem ckF_yes {a b c d e : Int} (h : ckP a b c d e) : ckF a b c d e = 0 := if_pos h
theorem ckF_no {a b c d e : Int} (h : ¬ ckP a b c d e) : ckF a b c d e = 2 := if_neg h

/-- The base; how long nothing may come through. -/
def baseF (a b c d e s x : Int) : Int := if ckP a b c d e ∧ 0 ≤ s ∧ s < 3 then tm (c + max (4 * d) 1000000 + (if s = 2 then tm x else 0)) else 0
def perF (a b c d e x : Int) : Int := tm (3 * baseF a b c d e 2 x)
def dueF (l x : Int) : Int := if 0 ≤ l ∧ l ≤ 9007199254740991 then tm (l + tm x) else -1
def bkF (b c m : Int) : Int := min (tm b * 2 ^ (min c m).toNat) 9007199254740991
def brF (i n : Int) : Int := i % n

theorem ck_bounds {a b c d e : Int} (h : ckP a b c d e) : 0 ≤ a ∧ a ≤ 9007199254740991 ∧ 0 ≤ b ∧ b ≤ 9007199254740991 ∧ 0 ≤ c ∧ c ≤ 9007199254740991 ∧ 0 ≤ d ∧ d ≤ 9007199254740991 ∧ b ≤ c := by
  unfold ckP ckN ckO at h
  omega
theorem baseF_lo (a b c d e s x : Int) : 0 ≤ baseF a b c d e s x ∧ baseF a b c d e s x ≤ 9007199254740991 := by
  unfold baseF
  split
  · exact ⟨tm_lo _, tm_hi _⟩
  · omega

/-! doubling -/
theorem pow_pos' (k : Nat) : (1 : Int) ≤ 2 ^ k := by
  induction k with
  | zero => simp
  | succ k ih => rw [Int.pow_succ]; omega
theorem pow_le' {j k : Nat} (h : j ≤ k) : (2 : Int) ^ j ≤ 2 ^ k := by
  induction h with
  | refl => exact Int.le_refl _
  | step _ ih =>
    rw [Int.pow_succ]
    have := pow_pos' j
    omega
theorem bk_zero (b : Int) (h0 : 0 ≤ b) (h1 : b ≤ 9007199254740991) : min (b * 2 ^ 0) 9007199254740991 = b := by simp; omega
theorem bk_nil (k : Nat) : min ((0 : Int) * 2 ^ k) 9007199254740991 = 0 := by rw [Int.zero_mul]; decide
theorem bk_full {b : Int} {k : Nat} (hk : 1 ≤ k) (hb : 4503599627370495 < b) : min (b * 2 ^ k) 9007199254740991 = 9007199254740991 := by
  obtain ⟨j, rfl⟩ : ∃ j, k = j + 1 := ⟨k - 1, by omega⟩
  rw [Int.pow_succ]
  have h1 := pow_pos' j
  have h2 : 1 * b ≤ 2 ^ j * b := Int.mul_le_mul_of_nonneg_right h1 (by omega)
  have h3 : b * (2 ^ j * 2) = 2 * (2 ^ j * b) := by rw [← Int.mul_assoc, Int.mul_comm b, Int.mul_comm _ 2]
  rw [h3]
  omega
theorem bk_step {b : Int} {k : Nat} (h0 : 0 ≤ b) : min (min (2 * b) 9007199254740991 * 2 ^ k) 9007199254740991 = min (b * 2 ^ (k + 1)) 9007199254740991 := by
  rw [Int.pow_succ]
  have h1 := pow_pos' k
  by_cases h : 2 * b ≤ 9007199254740991
  · rw [Int.min_eq_left h]
    congr 1
    rw [Int.mul_comm 2 b, Int.mul_assoc, Int.mul_comm 2]
  · rw [Int.min_eq_right (a := 2 * b) (by omega)]
    have h2 : 1 * b ≤ 2 ^ k * b := Int.mul_le_mul_of_nonneg_right h1 h0
    have h3 : b * (2 ^ k * 2) = 2 * (2 ^ k * b) := by rw [← Int.mul_assoc, Int.mul_comm b, Int.mul_comm _ 2]
    rw [h3]
    omega
theorem bk_many {b : Int} {k : Nat} (h0 : 0 ≤ b) (hk : 60 ≤ k) : min (b * 2 ^ k) 9007199254740991 = min (b * 2 ^ 60) 9007199254740991 := by
  by_cases hb : b = 0
  · subst hb; simp
  · have h1 : (2 : Int) ^ 60 ≤ 2 ^ k := pow_le' hk
    have h2 : (2 : Int) ^ 60 = 1152921504606846976 := by decide
    have h3 : 1 * (2 : Int) ^ k ≤ b * 2 ^ k := Int.mul_le_mul_of_nonneg_right (by omega) (by omega)
    rw [h2] at h1 ⊢
    omega

/-- What is left to double. -/
def left (b : Int) (k : Int) : Int := min (b * 2 ^ k.toNat) 9007199254740991
theorem left_end {b k : Int} (hk : k ≤ 0) (h0 : 0 ≤ b) (h1 : b ≤ 9007199254740991) : left b k = b := by
  unfold left
  rw [show k.toNat = 0 by omega]
  exact bk_zero b h0 h1
theorem left_nil (k : Int) : left 0 k = 0 := bk_nil _
theorem left_full {b k : Int} (hk : 0 < k) (hb : 4503599627370495 < b) : left b k = 9007199254740991 := bk_full (by omega) hb
theorem left_step {b k : Int} (h0 : 0 ≤ b) (hk : 0 < k) : left (min (2 * b) 9007199254740991) (k - 1) = left b k := by
  unfold left
  rw [bk_step h0, show (k - 1).toNat + 1 = k.toNat by omega]
theorem left_many {b k : Int} (h0 : 0 ≤ b) : left b (min k 60) = left b k := by
  by_cases hk : k ≤ 60
  · rw [Int.min_eq_left hk]
  · rw [Int.min_eq_right (by omega)]
    unfold left
    rw [show (60 : Int).toNat = 60 from rfl]
    exact (bk_many h0 (by omega)).symm
theorem left_max (b k : Int) : left b (max 0 k) = left b k := by
  unfold left
  rw [show (max 0 k).toNat = k.toNat by omega]
theorem left_lo {b k : Int} (h0 : 0 ≤ b) : 0 ≤ left b k := by
  unfold left
  have := pow_pos' k.toNat
  have : 0 ≤ b * 2 ^ k.toNat := Int.mul_nonneg h0 (by omega)
  omega
theorem left_hi (b k : Int) : left b k ≤ 9007199254740991 := by
  unfold left
  omega
theorem bkF_left (b c m : Int) : bkF b c m = left (tm b) (min c m) := rfl

end Go.Proofs.Ytebogbhjgdihpaa.Pto
