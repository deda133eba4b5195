/-
  Contracts of package big: a number with its sign, for every input.
-/
import Derived.Test.YtbchcifioddjjaaBig2
namespace Go.Proofs.Ytbchcifioddjjaa
open Go.RowKit

/-- 2^128. -/
def Bg.top : Int := 340282366920938463463374607431768211456
theorem mul_bd {x y : Int} (hx : Word x) (hy : Word y) : 0 ≤ x * y ∧ x * y ≤ 18446744073709551615 * 18446744073709551615 := by
  obtain ⟨a1, a2⟩ := hx
  obtain ⟨b1, b2⟩ := hy
  refine ⟨Int.mul_nonneg a1 b1, ?_⟩
  exact Int.le_trans (Int.mul_le_mul_of_nonneg_right (c := y) (show x ≤ 18446744073709551615 by omega) b1) (Int.mul_le_mul_of_nonneg_left (show y ≤ 18446744073709551615 by omega) (by decide))
theorem word_hi_mul {x y : Int} (hx : Word x) (hy : Word y) : Word (Bg.hi (x * y)) := by
  have := mul_bd hx hy
  unfold Word Bg.hi; omega
theorem scale_eq (hi lo n : Int) : Bg.num hi lo * n = (Bg.hi (hi * n) * 18446744073709551616 + Bg.lo (hi * n)) * 18446744073709551616 + Bg.hi (lo * n) * 18446744073709551616 + Bg.lo (lo * n) := by
  have e1 : Bg.num hi lo * n = (hi * n) * 18446744073709551616 + lo * n := by
    unfold Bg.num; rw [Int.add_mul, Int.mul_assoc, Int.mul_comm 18446744073709551616 n, ← Int.mul_assoc]
  rw [e1]
  unfold Bg.hi Bg.lo
  omega
/-- what of the words says that the product is too great. -/
theorem scale_over {hi lo n : Int} (h1 : Word hi) (h2 : Word lo) (h3 : Word n) : Bg.top ≤ Bg.num hi lo * n ↔ 0 < Bg.hi (hi * n) ∨ 0 < Bg.hi (Bg.lo (hi * n) + Bg.hi (lo * n)) := by
  rw [scale_eq]
  have a := word_hi_mul h1 h3
  have b := word_lo (hi * n)
  have c := word_hi_mul h2 h3
  have d := word_lo (lo * n)
  generalize Bg.hi (hi * n) = A at *
  generalize Bg.lo (hi * n) = B at *
  generalize Bg.hi (lo * n) = C at *
  generalize Bg.lo (lo * n) = D at *
  unfold Word at *
  unfold Bg.hi Bg.top
  omega
theorem scale_num {hi lo n : Int} (h1 : Word hi) (h2 : Word lo) (h3 : Word n) (h : Bg.num hi lo * n < Bg.top) :
    Bg.num (Bg.lo (Bg.lo (hi * n) + Bg.hi (lo * n))) (Bg.lo (lo * n)) = Bg.num hi lo * n := by
  have h' : ¬ Bg.top ≤ Bg.num hi lo * n := by omega
  rw [scale_over h1 h2 h3] at h'
  rw [scale_eq]
  have a := word_hi_mul h1 h3
  have b := word_lo (hi * n)
  have c := word_hi_mul h2 h3
  have d := word_lo (lo * n)
  generalize Bg.hi (hi * n) = A at *
  generalize Bg.lo (hi * n) = B at *
  generalize Bg.hi (lo * n) = C at *
  generalize Bg.lo (lo * n) = D at *
  unfold Word at *
  unfold Bg.hi at h'
  unfold Bg.num Bg.lo
  omega
set_option maxHeartbeats 800000 in
theorem c_Scale_ok (neg : Bool) (hi lo n : Int) (h1 : Word hi) (h2 : Word lo) (h3 : Word n) (h : Bg.num hi lo * n < Bg.top) (w : World) :
    Calls Try.prog 11 #[.agg #[.bool neg, .int .u64 hi, .int .u64 lo], .int .u64 n] w fun e w' => e = .returned (.tuple #[Bg.val (if neg then -(Bg.num hi lo * n) else Bg.num hi lo * n), .int .i64 0]) ∧ Below w.heap.size w w' := by
  have h' : ¬ Bg.top ≤ Bg.num hi lo * n := by omega
  rw [scale_over h1 h2 h3, not_or] at h'
  obtain ⟨g1, g2⟩ := h'
  rw [← scale_num h1 h2 h3 h, ← val_of (word_lo _) (word_lo _)]
  clear h
  have k1 := word_lo (hi * n)
  have k2 := word_hi_mul h2 h3
  go_enter Try.func11, Try.ntmps11
  go_wp2_with (first
    | simp only [r_Add64_0 _ _ k1 k2]
    | (go_at_call 23; refine (c_Mul64 _ _ (by assumption) (by assumption) _).mono ?_; rintro e w' ⟨rfl, rfl⟩)
    | (go_at_call 15; refine (c_with _ _ _ _).mono ?_; rintro e w1 ⟨rfl, rfl⟩))
  exact bodyPost_ret (v := .tuple #[.agg #[.bool (Bg.sg neg (Bg.lo (Bg.lo (hi * n) + Bg.hi (lo * n))) (Bg.lo (lo * n))), .int .u64 (Bg.lo (Bg.lo (hi * n) + Bg.hi (lo * n))), .int .u64 (Bg.lo (lo * n))], .int .i64 0]) (by simp [results, Try.results11, go_sem]) rfl ⟨rfl, by ((repeat' (with_reducible first | exact Below.refl _ _ | apply Below.drew | apply Below.setCell | apply Below.alloc | assumption | refine Below.trans ?_ (Below.mono (by assumption) ?_))) <;> (first | (simp; done) | (simp; omega) | omega))⟩
def Bg.zero : Value := .agg #[.bool false, .int .u64 0, .int .u64 0]
set_option maxHeartbeats 800000 in
theorem c_Scale_over (neg : Bool) (hi lo n : Int) (h1 : Word hi) (h2 : Word lo) (h3 : Word n) (h : Bg.top ≤ Bg.num hi lo * n) (w : World) :
    Calls Try.prog 11 #[.agg #[.bool neg, .int .u64 hi, .int .u64 lo], .int .u64 n] w fun e w' => e = .returned (.tuple #[Bg.zero, .int .i64 10]) ∧ Below w.heap.size w w' := by
  rw [scale_over h1 h2 h3] at h
  have k1 := word_lo (hi * n)
  have k2 := word_hi_mul h2 h3
  by_cases g1 : 0 < Bg.hi (hi * n)
  · clear h
    go_enter Try.func11, Try.ntmps11
    go_wp2_with (first
      | simp only [r_Add64_0 _ _ k1 k2]
      | (go_at_call 23; refine (c_Mul64 _ _ (by assumption) (by assumption) _).mono ?_; rintro e w' ⟨rfl, rfl⟩))
    exact bodyPost_ret (v := .tuple #[Bg.zero, .int .i64 10]) (by simp [results, Try.results11, go_sem, Bg.zero]) rfl ⟨rfl, by ((repeat' (with_reducible first | exact Below.refl _ _ | apply Below.drew | apply Below.setCell | apply Below.alloc | assumption | refine Below.trans ?_ (Below.mono (by assumption) ?_))) <;> (first | (simp; done) | (simp; omega) | omega))⟩
  · have g2 : 0 < Bg.hi (Bg.lo (hi * n) + Bg.hi (lo * n)) := by omega
    clear h
    go_enter Try.func11, Try.ntmps11
    go_wp2_with (first
      | simp only [r_Add64_0 _ _ k1 k2]
      | (go_at_call 23; refine (c_Mul64 _ _ (by assumption) (by assumption) _).mono ?_; rintro e w' ⟨rfl, rfl⟩))
    exact bodyPost_ret (v := .tuple #[Bg.zero, .int .i64 10]) (by simp [results, Try.results11, go_sem, Bg.zero]) rfl ⟨rfl, by ((repeat' (with_reducible first | exact Below.refl _ _ | apply Below.drew | apply Below.setCell | apply Below.alloc | assumption | refine Below.trans ?_ (Below.mono (by assumption) ?_))) <;> (first | (simp; done) | (simp; omega) | omega))⟩

end Go.Proofs.Ytbchcifioddjjaa
