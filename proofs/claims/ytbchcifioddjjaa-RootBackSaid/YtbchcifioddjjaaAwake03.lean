/-
  The contract of sawtoothlaw03.awake: it returns true from every world, and changes nothing that was there.
-/
import Derived.Test.YtbchcifioddjjaaRoot2
namespace Go.Proofs.Ytbchcifioddjjaa
open Go.RowKit Go.Shelf

/-- 'Third' of a number whose root is known. -/
theorem t_Third (neg : Bool) (hi lo r : Int) (h1 : Word hi) (h2 : Word lo) (h0 : 0 ≤ r) (h3 : r * r * r ≤ Bg.num hi lo) (h4 : Bg.num hi lo < (r + 1) * (r + 1) * (r + 1)) (w : World) :
    Calls Try.prog 9 #[.agg #[.bool neg, .int .u64 hi, .int .u64 lo]] w fun e w' => e = .returned (.int .u64 r) ∧ Below w.heap.size w w' := by
  have e : (croot (Bg.num hi lo).toNat : Int) = r := by
    obtain ⟨k, rfl⟩ := Int.eq_ofNat_of_zero_le h0
    have := num_bd h1 h2
    have hc := croot_eq (N := (Bg.num hi lo).toNat) (r := k) (num_lt h1 h2) (by
      have e : ((k * k * k : Nat) : Int) = (k : Int) * k * k := by rw [Int.natCast_mul, Int.natCast_mul]
      omega) (by
      have e : (((k + 1) * (k + 1) * (k + 1) : Nat) : Int) = ((k : Int) + 1) * (k + 1) * (k + 1) := by rw [Int.natCast_mul, Int.natCast_mul]; rfl
      omega)
    rw [hc]
  have := c_Third neg hi lo h1 h2 w
  rw [e] at this
  exact this
theorem t_Half (neg : Bool) (hi lo r : Int) (h1 : Word hi) (h2 : Word lo) (h0 : 0 ≤ r) (h3 : r * r ≤ Bg.num hi lo) (h4 : Bg.num hi lo < (r + 1) * (r + 1)) (w : World) :
    Calls Try.prog 10 #[.agg #[.bool neg, .int .u64 hi, .int .u64 lo]] w fun e w' => e = .returned (.int .u64 r) ∧ Below w.heap.size w w' := by
  have e : (sroot (Bg.num hi lo).toNat : Int) = r := by
    obtain ⟨k, rfl⟩ := Int.eq_ofNat_of_zero_le h0
    have := num_bd h1 h2
    have hc := sroot_eq (N := (Bg.num hi lo).toNat) (r := k) (num_lt h1 h2) (by
      have e : ((k * k : Nat) : Int) = (k : Int) * k := by rw [Int.natCast_mul]
      omega) (by
      have e : (((k + 1) * (k + 1) : Nat) : Int) = ((k : Int) + 1) * (k + 1) := by rw [Int.natCast_mul]; rfl
      omega)
    rw [hc]
  have := c_Half neg hi lo h1 h2 w
  rw [e] at this
  exact this
theorem t_Of (n : Int) (neg : Bool) (m : Int) (h0 : -9223372036854775808 ≤ n) (h1 : n ≤ 9223372036854775807) (hn : decide (n < 0) = neg) (hm : (n.natAbs : Int) = m) (h2 : Word m) (w : World) :
    Calls Try.prog 7 #[.int .i64 n] w fun e w' => e = .returned (.agg #[.bool neg, .int .u64 0, .int .u64 m]) ∧ Below w.heap.size w w' := by
  have := c_Of n h0 h1 w
  unfold Bg.val at this
  rw [hn, hm] at this
  have e1 : Bg.hi m = 0 := by unfold Bg.hi; obtain ⟨_, _⟩ := h2; omega
  have e2 : Bg.lo m = m := by unfold Bg.lo; obtain ⟨_, _⟩ := h2; omega
  rw [e1, e2] at this
  exact this
theorem w_of {n : Int} (h : 0 ≤ n) (h' : n ≤ 18446744073709551615) : Word n := ⟨h, by omega⟩
set_option maxHeartbeats 3200000 in
set_option maxRecDepth 100000 in
theorem c_awake03 (w : World) : Calls Try.prog 4 #[] w fun e w' => e = .returned (.bool true) ∧ Below w.heap.size w w' := by
  have g := guard_big
  have q := eq_big
  have hC1 : ∀ W, Calls Try.prog 5 #[.int .u64 4398046511104] W fun e w' => e = .returned (.tuple #[.agg #[.bool false, .int .u64 4611686018427387904, .int .u64 0], .int .i64 0]) ∧ Below W.heap.size W w' := by
    intro W
    have := c_Cube_ok 4398046511104 (w_of (by decide) (by decide)) (by unfold Bg.top; decide) W
    have e1 : Bg.hi (4398046511104 * 4398046511104 * 4398046511104) = 4611686018427387904 := by unfold Bg.hi; decide
    have e2 : Bg.lo (4398046511104 * 4398046511104 * 4398046511104) = 0 := by unfold Bg.lo; decide
    rw [e1, e2] at this
    exact this
  have hC2 : ∀ W, Calls Try.prog 5 #[.int .u64 6981463658332] W fun e w' => e = .returned (.tuple #[.agg #[.bool false, .int .u64 0, .int .u64 0], .int .i64 10]) ∧ Below W.heap.size W w' :=
    fun W => c_Cube_over 6981463658332 (w_of (by decide) (by decide)) (by unfold Bg.top; decide) W
  have hS : ∀ W, Calls Try.prog 8 #[.int .u64 9223372036854775808] W fun e w' => e = .returned (.agg #[.bool false, .int .u64 4611686018427387904, .int .u64 0]) ∧ Below W.heap.size W w' := by
    intro W
    have := c_Square 9223372036854775808 (w_of (by decide) (by decide)) W
    have e1 : Bg.hi (9223372036854775808 * 9223372036854775808) = 4611686018427387904 := by unfold Bg.hi; decide
    have e2 : Bg.lo (9223372036854775808 * 9223372036854775808) = 0 := by unfold Bg.lo; decide
    rw [e1, e2] at this
    exact this
  have HC1 := Lib.hid hC1
  have HC2 := Lib.hid hC2
  have HS := Lib.hid hS
  clear hC1 hC2 hS
  go_enter Try.func4, Try.ntmps4
  go_wp2_with fail
  refine (HC1.out _).mono ?_
  rintro e w1 ⟨rfl, hb1⟩
  have hs1 := hb1.size
  try simp only [World.size_alloc] at hs1
  go_wp2_with fail
  refine (HC2.out _).mono ?_
  rintro e w2 ⟨rfl, hb2⟩
  have a0 := cell_later (a := ⟨w1.heap.size, 0, none⟩) (v := .bool false) hb2 (by simp [go_sem])
  have a1 := cell_later (a := ⟨w1.heap.size, 1, none⟩) (v := .int .u64 4611686018427387904) hb2 (by simp [go_sem])
  have a2 := cell_later (a := ⟨w1.heap.size, 2, none⟩) (v := .int .u64 0) hb2 (by simp [go_sem])
  have hs2 := hb2.size
  try simp only [World.size_alloc] at hs2
  have hz2 := low (World.block_lt_of_cell? _ _ a0)
  simp only at hz2
  go_wp2_with fail
  refine (t_Of 26 false 26 (by decide) (by decide) (by decide) (by decide) (w_of (by decide) (by decide)) _).mono ?_
  rintro e w3 ⟨rfl, hb3⟩
  have c0 := cell_later (a := ⟨w2.heap.size + 1, 0, none⟩) (v := .bool true) hb3 (by simp [go_sem])
  have c1 := cell_later (a := ⟨w2.heap.size + 1, 1, none⟩) (v := .int .u64 18446744073709551615) hb3 (by simp [go_sem])
  have c2 := cell_later (a := ⟨w2.heap.size + 1, 2, none⟩) (v := .int .u64 18446744073709551615) hb3 (by simp [go_sem])
  have hs3 := hb3.size
  try simp only [World.size_alloc] at hs3
  clear a0 a1 a2 hz2
  go_wp2_with fail
  refine (t_Third false 0 26 2 (w_of (by decide) (by decide)) (w_of (by decide) (by decide)) (by decide) (by unfold Bg.num; decide) (by unfold Bg.num; decide) _).mono ?_
  rintro e w4 ⟨rfl, hb4⟩
  have hs4 := hb4.size
  try simp only [World.size_alloc] at hs4
  replace c0 := cell_later hb4 c0
  replace c1 := cell_later hb4 c1
  replace c2 := cell_later hb4 c2
  go_wp2_with fail
  refine (t_Of (-27) true 27 (by decide) (by decide) (by decide) (by decide) (w_of (by decide) (by decide)) _).mono ?_
  rintro e w5 ⟨rfl, hb5⟩
  have hs5 := hb5.size
  try simp only [World.size_alloc] at hs5
  replace c0 := cell_later hb5 c0
  replace c1 := cell_later hb5 c1
  replace c2 := cell_later hb5 c2
  go_wp2_with fail
  refine (t_Third true 0 27 3 (w_of (by decide) (by decide)) (w_of (by decide) (by decide)) (by decide) (by unfold Bg.num; decide) (by unfold Bg.num; decide) _).mono ?_
  rintro e w6 ⟨rfl, hb6⟩
  have hs6 := hb6.size
  try simp only [World.size_alloc] at hs6
  replace c0 := cell_later hb6 c0
  replace c1 := cell_later hb6 c1
  replace c2 := cell_later hb6 c2
  go_wp2_with fail
  refine (t_Third true 18446744073709551615 18446744073709551615 6981463658331 (w_of (by decide) (by decide)) (w_of (by decide) (by decide)) (by decide) (by unfold Bg.num; decide) (by unfold Bg.num; decide) _).mono ?_
  rintro e w7 ⟨rfl, hb7⟩
  have hs7 := hb7.size
  try simp only [World.size_alloc] at hs7
  replace c0 := cell_later hb7 c0
  replace c1 := cell_later hb7 c1
  replace c2 := cell_later hb7 c2
  go_wp2_with fail
  refine (t_Third false 0 0 0 (w_of (by decide) (by decide)) (w_of (by decide) (by decide)) (by decide) (by unfold Bg.num; decide) (by unfold Bg.num; decide) _).mono ?_
  rintro e w8 ⟨rfl, hb8⟩
  have hs8 := hb8.size
  try simp only [World.size_alloc] at hs8
  replace c0 := cell_later hb8 c0
  replace c1 := cell_later hb8 c1
  replace c2 := cell_later hb8 c2
  go_wp2_with fail
  refine (t_Of (8) false 8 (by decide) (by decide) (by decide) (by decide) (w_of (by decide) (by decide)) _).mono ?_
  rintro e w9 ⟨rfl, hb9⟩
  have hs9 := hb9.size
  try simp only [World.size_alloc] at hs9
  replace c0 := cell_later hb9 c0
  replace c1 := cell_later hb9 c1
  replace c2 := cell_later hb9 c2
  go_wp2_with fail
  refine (t_Half false 0 8 2 (w_of (by decide) (by decide)) (w_of (by decide) (by decide)) (by decide) (by unfold Bg.num; decide) (by unfold Bg.num; decide) _).mono ?_
  rintro e w10 ⟨rfl, hb10⟩
  have hs10 := hb10.size
  try simp only [World.size_alloc] at hs10
  replace c0 := cell_later hb10 c0
  replace c1 := cell_later hb10 c1
  replace c2 := cell_later hb10 c2
  go_wp2_with fail
  refine (t_Of (9) false 9 (by decide) (by decide) (by decide) (by decide) (w_of (by decide) (by decide)) _).mono ?_
  rintro e w11 ⟨rfl, hb11⟩
  have hs11 := hb11.size
  try simp only [World.size_alloc] at hs11
  replace c0 := cell_later hb11 c0
  replace c1 := cell_later hb11 c1
  replace c2 := cell_later hb11 c2
  go_wp2_with fail
  refine (t_Half false 0 9 3 (w_of (by decide) (by decide)) (w_of (by decide) (by decide)) (by decide) (by unfold Bg.num; decide) (by unfold Bg.num; decide) _).mono ?_
  rintro e w12 ⟨rfl, hb12⟩
  have hs12 := hb12.size
  try simp only [World.size_alloc] at hs12
  replace c0 := cell_later hb12 c0
  replace c1 := cell_later hb12 c1
  replace c2 := cell_later hb12 c2
  go_wp2_with fail
  refine (t_Half true 18446744073709551615 18446744073709551615 18446744073709551615 (w_of (by decide) (by decide)) (w_of (by decide) (by decide)) (by decide) (by unfold Bg.num; decide) (by unfold Bg.num; decide) _).mono ?_
  rintro e w13 ⟨rfl, hb13⟩
  have hs13 := hb13.size
  try simp only [World.size_alloc] at hs13
  replace c0 := cell_later hb13 c0
  replace c1 := cell_later hb13 c1
  replace c2 := cell_later hb13 c2
  go_wp2_with fail
  refine (HS.out _).mono ?_
  rintro e w14 ⟨rfl, hb14⟩
  have hs14 := hb14.size
  try simp only [World.size_alloc] at hs14
  replace c0 := cell_later hb14 c0
  replace c1 := cell_later hb14 c1
  replace c2 := cell_later hb14 c2
  go_wp2_with fail
  go_ret
  exact ⟨rfl, by ((repeat' (with_reducible first | exact Below.refl _ _ | apply Below.drew | apply Below.setCell | apply Below.alloc | assumption | refine Below.trans ?_ (Below.mono (by assumption) ?_))) <;> (first | (simp; done) | (simp; omega) | omega))⟩

end Go.Proofs.Ytbchcifioddjjaa
