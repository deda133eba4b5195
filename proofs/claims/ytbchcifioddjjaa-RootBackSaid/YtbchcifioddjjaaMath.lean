/-
  Plain mathematics of whole roots and of numbers in two words of 64 bits; no program in sight.
-/
import Derived.Test.YtbchcifioddjjaaProg
namespace Go.Proofs.Ytbchcifioddjjaa

/-- Halving: the greatest number for which something is right. -/
def greatest (right : Nat → Bool) : Nat → Nat → Nat → Nat
  | 0, low, _ => low
  | k + 1, low, high => if low = high then low else if right (high - (high - low) / 2) then greatest right k (high - (high - low) / 2) high else greatest right k low (high - (high - low) / 2 - 1)

theorem greatest_eq (right : Nat → Bool) (r : Nat) (h : ∀ n, right n = decide (n ≤ r)) : ∀ (k low high : Nat), low ≤ r → r ≤ high → high - low < 2 ^ k → greatest right k low high = r := by
  intro k
  induction k with
  | zero => intro low high h1 h2 h3; simp only [Nat.pow_zero] at h3; unfold greatest; omega
  | succ k ih =>
    intro low high h1 h2 h3
    unfold greatest
    by_cases e : low = high
    · rw [if_pos e]; omega
    · rw [if_neg e]
      have hp : 2 ^ (k + 1) = 2 ^ k + 2 ^ k := by rw [Nat.pow_succ]; omega
      rw [hp] at h3
      by_cases hr : high - (high - low) / 2 ≤ r
      · rw [if_pos (by rw [h]; exact decide_eq_true hr)]
        exact ih _ _ hr h2 (by omega)
      · rw [if_neg (by rw [h, decide_eq_true_iff]; exact hr)]
        exact ih _ _ h1 (by omega) (by omega)

theorem cube_mono {a b : Nat} (h : a ≤ b) : a * a * a ≤ b * b * b := Nat.mul_le_mul (Nat.mul_le_mul h h) h
theorem sq_mono {a b : Nat} (h : a ≤ b) : a * a ≤ b * b := Nat.mul_le_mul h h
theorem cube_lt {a b : Nat} (h : a < b) : a * a * a < b * b * b := Nat.lt_of_lt_of_le (by
  have h1 : a * a * a ≤ a * a * b := Nat.mul_le_mul_left _ (Nat.le_of_lt h)
  have h2 : (a + 1) * (a + 1) * b ≤ b * b * b := Nat.mul_le_mul_right _ (sq_mono h)
  have h3 : a * a * b < (a + 1) * (a + 1) * b := Nat.mul_lt_mul_of_pos_right (by
    have : (a + 1) * (a + 1) = a * a + 2 * a + 1 := by rw [Nat.add_mul, Nat.mul_add]; omega
    omega) (by omega)
  exact Nat.lt_of_le_of_lt h1 (Nat.lt_of_lt_of_le h3 h2)) (Nat.le_refl _)
theorem sq_lt {a b : Nat} (h : a < b) : a * a < b * b := Nat.mul_self_lt_mul_self h

theorem ex_cbrt (N : Nat) : ∃ r, r * r * r ≤ N ∧ N < (r + 1) * (r + 1) * (r + 1) := by
  induction N with
  | zero => exact ⟨0, by simp, by simp⟩
  | succ N ih =>
    obtain ⟨r, h1, h2⟩ := ih
    by_cases h : (r + 1) * (r + 1) * (r + 1) ≤ N + 1
    · refine ⟨r + 1, h, ?_⟩
      have := cube_lt (show r + 1 < r + 1 + 1 by omega)
      omega
    · exact ⟨r, by omega, by omega⟩
theorem ex_sqrt (N : Nat) : ∃ r, r * r ≤ N ∧ N < (r + 1) * (r + 1) := by
  induction N with
  | zero => exact ⟨0, by simp, by simp⟩
  | succ N ih =>
    obtain ⟨r, h1, h2⟩ := ih
    by_cases h : (r + 1) * (r + 1) ≤ N + 1
    · refine ⟨r + 1, h, ?_⟩
      have := sq_lt (show r + 1 < r + 1 + 1 by omega)
      omega
    · exact ⟨r, by omega, by omega⟩
def thirdR (x : Nat) (n : Nat) : Bool := decide (n * n * n ≤ x)
def halfR (x : Nat) (n : Nat) : Bool := decide (n * n ≤ x)
/-- the whole cube root, the whole square root, of a number of 128 bits. -/
def croot (N : Nat) : Nat := greatest (thirdR N) 43 0 (2 ^ 43 - 1)
def sroot (N : Nat) : Nat := greatest (halfR N) 64 0 (2 ^ 64 - 1)
theorem third_eq {N r m : Nat} (h1 : r * r * r ≤ N) (h2 : N < (r + 1) * (r + 1) * (r + 1)) (hm : r < 2 ^ m) : greatest (thirdR N) m 0 (2 ^ m - 1) = r := by
  refine greatest_eq _ r (fun n => ?_) m 0 (2 ^ m - 1) (Nat.zero_le _) (by omega) (by omega)
  unfold thirdR
  rw [Bool.eq_iff_iff]
  simp only [decide_eq_true_eq]
  constructor
  · intro h
    apply Nat.le_of_not_lt
    intro hlt
    have := cube_mono (show r + 1 ≤ n by omega)
    omega
  · intro h
    have := cube_mono h
    omega
theorem half_eq {N r m : Nat} (h1 : r * r ≤ N) (h2 : N < (r + 1) * (r + 1)) (hm : r < 2 ^ m) : greatest (halfR N) m 0 (2 ^ m - 1) = r := by
  refine greatest_eq _ r (fun n => ?_) m 0 (2 ^ m - 1) (Nat.zero_le _) (by omega) (by omega)
  unfold halfR
  rw [Bool.eq_iff_iff]
  simp only [decide_eq_true_eq]
  constructor
  · intro h
    apply Nat.le_of_not_lt
    intro hlt
    have := sq_mono (show r + 1 ≤ n by omega)
    omega
  · intro h
    have := sq_mono h
    omega
theorem cbrt_lt {N r m : Nat} (h1 : r * r * r ≤ N) (h : N < 2 ^ (3 * m)) : r < 2 ^ m := by
  apply Nat.lt_of_not_le
  intro hle
  have := cube_mono hle
  have e : 2 ^ m * 2 ^ m * 2 ^ m = 2 ^ (3 * m) := by rw [← Nat.pow_add, ← Nat.pow_add]; congr 1; omega
  omega
theorem sqrt_lt {N r m : Nat} (h1 : r * r ≤ N) (h : N < 2 ^ (2 * m)) : r < 2 ^ m := by
  apply Nat.lt_of_not_le
  intro hle
  have := sq_mono hle
  have e : 2 ^ m * 2 ^ m = 2 ^ (2 * m) := by rw [← Nat.pow_add]; congr 1; omega
  omega
/-- a root is this one, whatever the bits that are looked at are, if they are enough. -/
theorem third_croot {N m : Nat} (hN : N < 2 ^ 128) (h : N < 2 ^ (3 * m)) : greatest (thirdR N) m 0 (2 ^ m - 1) = croot N := by
  obtain ⟨r, h1, h2⟩ := ex_cbrt N
  rw [third_eq h1 h2 (cbrt_lt h1 h)]
  exact (third_eq h1 h2 (cbrt_lt h1 (Nat.lt_of_lt_of_le hN (Nat.pow_le_pow_right (by decide) (by decide))))).symm
theorem half_sroot {N m : Nat} (hN : N < 2 ^ 128) (h : N < 2 ^ (2 * m)) : greatest (halfR N) m 0 (2 ^ m - 1) = sroot N := by
  obtain ⟨r, h1, h2⟩ := ex_sqrt N
  rw [half_eq h1 h2 (sqrt_lt h1 h)]
  exact (half_eq h1 h2 (sqrt_lt h1 (Nat.lt_of_lt_of_le hN (Nat.pow_le_pow_right (by decide) (by decide))))).symm
theorem croot_eq {N r : Nat} (hN : N < 2 ^ 128) (h1 : r * r * r ≤ N) (h2 : N < (r + 1) * (r + 1) * (r + 1)) : croot N = r :=
  third_eq h1 h2 (cbrt_lt h1 (Nat.lt_of_lt_of_le hN (Nat.pow_le_pow_right (by decide) (by decide))))
theorem sroot_eq {N r : Nat} (hN : N < 2 ^ 128) (h1 : r * r ≤ N) (h2 : N < (r + 1) * (r + 1)) : sroot N = r :=
  half_eq h1 h2 (sqrt_lt h1 (Nat.lt_of_lt_of_le hN (Nat.pow_le_pow_right (by decide) (by decide))))
end Go.Proofs.Ytbchcifioddjjaa
