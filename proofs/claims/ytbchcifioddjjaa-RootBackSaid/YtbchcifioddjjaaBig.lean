/-
  Contracts of the small functions of package big (signs, copies, whole numbers), each for every input and every world.
-/
import Derived.Test.YtbchcifioddjjaaShelf
import Derived.WalkKit
import Derived.WalkSpells
import Derived.WalkLawsBesides
import Derived.Deep.RegionHeld3
import Derived.Deep.QuietTactic
import Derived.BigQuiet
import Derived.Laws.StructEq
import Derived.Lib.Hide
namespace Go.Proofs.Ytbchcifioddjjaa
open Go.RowKit

/-- 'big.of' keeps the two words. -/
theorem c_of (b : Bool) (hi lo : Int) (w : World) :
    Calls Try.prog 12 #[.agg #[.bool b, .int .u64 hi, .int .u64 lo]] w fun e w' => e = .returned (.agg #[.int .u64 hi, .int .u64 lo]) ∧
      (w.alloc (.cells #[.bool b, .int .u64 hi, .int .u64 lo] 25)).alloc (.cells #[.int .u64 hi, .int .u64 lo] 36) = w' := by
  go_enter Try.func12, Try.ntmps12
  go_wp2
  exact bodyPost_ret (v := .agg #[.int .u64 hi, .int .u64 lo]) (by simp [results, Try.results12, go_sem]) rfl ⟨rfl, by simp [World.setCell_alloc_new]⟩

/-! '==' between two structs of this package. -/
theorem guard_size : Try.prog.eqGuardType Try.prog.depth 36 = false := by kernel_rfl
theorem eq_size (a b c d : Int) (w : World) : (Op.equalIn 10000 36 (.agg #[.int .u64 a, .int .u64 b]) (.agg #[.int .u64 c, .int .u64 d])).run Try.prog w = .ok (a == c && b == d) w := by
  have hS : Try.prog.underlying 36 = some (.struct (Try.prog.fieldsOf 36)) := by kernel_rfl
  have hp : Try.prog.stoodInHeld 36 = false := by kernel_rfl
  have u := Try.underlying22
  rw [show (10000 : Nat) = 9999 + 1 from rfl, run_equalIn_agg w 9999 36 _ _ hS hp]
  simp only [Program.fieldsOf, Try.underlying36]
  go_simp
  by_cases h1 : a = c <;> by_cases h2 : b = d <;> simp [h1, h2]
theorem guard_big : Try.prog.eqGuardType Try.prog.depth 25 = false := by kernel_rfl
theorem eq_big (x y : Bool) (a b c d : Int) (w : World) : (Op.equalIn 10000 25 (.agg #[.bool x, .int .u64 a, .int .u64 b]) (.agg #[.bool y, .int .u64 c, .int .u64 d])).run Try.prog w = .ok (x == y && (a == c && b == d)) w := by
  have hS : Try.prog.underlying 25 = some (.struct (Try.prog.fieldsOf 25)) := by kernel_rfl
  have hp : Try.prog.stoodInHeld 25 = false := by kernel_rfl
  have u := Try.underlying22
  have ub := Try.underlying4
  rw [show (10000 : Nat) = 9999 + 1 from rfl, run_equalIn_agg w 9999 25 _ _ hS hp]
  simp only [Program.fieldsOf, Try.underlying25]
  go_simp
  cases x <;> cases y <;> by_cases h1 : a = c <;> by_cases h2 : b = d <;> simp [h1, h2]

/-- the sign of a size: none of 0. -/
def Bg.sg (neg : Bool) (hi lo : Int) : Bool := neg && !(hi == 0 && lo == 0)

set_option maxHeartbeats 400000 in
/-- 'with' lays a sign on a size. -/
theorem c_with (neg : Bool) (hi lo : Int) (w : World) :
    Calls Try.prog 15 #[.agg #[.int .u64 hi, .int .u64 lo], .bool neg] w fun e w' => e = .returned (.agg #[.bool (Bg.sg neg hi lo), .int .u64 hi, .int .u64 lo]) ∧
      ((w.alloc (.cells #[.int .u64 hi, .int .u64 lo] 36)).alloc (.cells #[.bool (Bg.sg neg hi lo), .int .u64 hi, .int .u64 lo] 25)).drew = w' := by
  have g := guard_size
  have q := fun a b c d w => eq_size a b c d w
  cases neg
  all_goals
    go_enter Try.func15, Try.ntmps15
    go_wp2
    go_region
    all_goals go_wp2
  all_goals first
    | exact bodyPost_ret (v := .agg #[.bool (Bg.sg false hi lo), .int .u64 hi, .int .u64 lo]) (by simp [results, Try.results15, go_sem, Bg.sg]) rfl ⟨rfl, by simp [World.setCell_alloc_new, Bg.sg]⟩
    | exact bodyPost_ret (v := .agg #[.bool (Bg.sg true hi lo), .int .u64 hi, .int .u64 lo]) (by simp [results, Try.results15, go_sem, Bg.sg]) rfl ⟨rfl, by simp [World.setCell_alloc_new, Bg.sg]⟩

/-! which is greater. -/
def Bg.cmp3 (a b : Int) : Int := if a < b then -1 else if b < a then 1 else 0
theorem c_isNaN (x : Int) (w : World) : Calls Try.prog 28 #[.int .u64 x] w fun e w' => e = .returned (.bool false) ∧ w = w' := by
  go_enter Try.func28, Try.ntmps28
  go_wp2
  go_ret
  exact ⟨by simp, rfl⟩
theorem c_Compare (x y : Int) (w : World) : Calls Try.prog 25 #[.int .u64 x, .int .u64 y] w fun e w' => e = .returned (.int .i64 (Bg.cmp3 x y)) ∧ w = w' := by
  unfold Bg.cmp3
  by_cases h1 : x < y
  · rw [if_pos h1]
    go_enter Try.func25, Try.ntmps25
    go_wp2_with (go_at_call 28; refine (c_isNaN _ _).mono ?_; rintro e w' ⟨rfl, rfl⟩)
    go_ret
    exact ⟨rfl, rfl⟩
  · rw [if_neg h1]
    by_cases h2 : y < x
    · rw [if_pos h2]
      go_enter Try.func25, Try.ntmps25
      go_wp2_with (go_at_call 28; refine (c_isNaN _ _).mono ?_; rintro e w' ⟨rfl, rfl⟩)
      go_ret
      exact ⟨rfl, rfl⟩
    · rw [if_neg h2]
      go_enter Try.func25, Try.ntmps25
      go_wp2_with (go_at_call 28; refine (c_isNaN _ _).mono ?_; rintro e w' ⟨rfl, rfl⟩)
      go_ret
      exact ⟨rfl, rfl⟩
def Bg.or2 (x y : Int) : Int := if x = 0 then y else x
theorem c_Or (x y : Int) (b : Nat) (w : World) (h0 : w.cell? ⟨b, 0, none⟩ = some (.int .i64 x)) (h1 : w.cell? ⟨b, 1, none⟩ = some (.int .i64 y)) :
    Calls Try.prog 24 #[.slice (some ⟨b, 0, none⟩) 2 2] w fun e w' => e = .returned (.int .i64 (Bg.or2 x y)) ∧ w = w' := by
  unfold Bg.or2
  by_cases hx : x = 0
  · rw [if_pos hx]
    have ex : (x != 0) = false := by simp [hx]
    have Hx := Lib.hid hx
    clear hx
    by_cases hy : y = 0
    · have ey : (y != 0) = false := by simp [hy]
      have Hy := Lib.hid hy
      clear hy
      go_enter Try.func24, Try.ntmps24
      go_wp2
      go_loop [8] (fun i => ∃ k : Nat, k ≤ 2 ∧ i = .int .i64 k) (fun i => 2 - (intOf i).toNat)
      case atStart => exact ⟨0, by omega, rfl⟩
      case round =>
        obtain ⟨k, hk, rfl⟩ := hrel
        obtain rfl | rfl | rfl : k = 0 ∨ k = 1 ∨ k = 2 := by omega
        · go_wp2
          go_round
          case rel => exact ⟨1, by omega, by go_num⟩
          case measure => simp [intOf]
        · go_wp2
          go_round
          case rel => exact ⟨2, by omega, by go_num⟩
          case measure => simp [intOf]
        · go_wp2
          go_ret
          exact ⟨by simp [Hy.out], rfl⟩
    · have ey : (y != 0) = true := by simp [hy]
      go_enter Try.func24, Try.ntmps24
      go_wp2
      go_loop [8] (fun i => ∃ k : Nat, k ≤ 1 ∧ i = .int .i64 k) (fun i => 2 - (intOf i).toNat)
      case atStart => exact ⟨0, by omega, rfl⟩
      case round =>
        obtain ⟨k, hk, rfl⟩ := hrel
        obtain rfl | rfl : k = 0 ∨ k = 1 := by omega
        · go_wp2
          go_round
          case rel => exact ⟨1, by omega, by go_num⟩
          case measure => simp [intOf]
        · go_wp2
          go_ret
          exact ⟨rfl, rfl⟩
  · rw [if_neg hx]
    have ex : (x != 0) = true := by simp [hx]
    go_enter Try.func24, Try.ntmps24
    go_wp2
    go_loop [8] (fun i => i = .int .i64 0) (fun i => 2 - (intOf i).toNat)
    case atStart => rfl
    case round =>
      obtain rfl := hrel
      go_wp2
      go_ret
      exact ⟨rfl, rfl⟩
theorem or2_cmp3 {a b c d : Int} (_hb : Word b) (_hd : Word d) : Bg.or2 (Bg.cmp3 a c) (Bg.cmp3 b d) = Bg.cmp3 (Bg.num a b) (Bg.num c d) := by
  unfold Bg.or2 Bg.cmp3 Bg.num
  obtain ⟨_, _⟩ := _hb
  obtain ⟨_, _⟩ := _hd
  (repeat' split) <;> omega

end Go.Proofs.Ytbchcifioddjjaa
