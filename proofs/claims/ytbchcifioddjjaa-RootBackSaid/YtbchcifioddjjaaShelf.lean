/-
  Laid for this seat: the kit's proved summaries of strconv and math/bits, at this seat's own function numbers.
-/
import Derived.Shelf.Strconv.Itoa0
import Derived.Shelf.Bits.Mul64
import Derived.Shelf.Spec.BitsCarry
import Derived.Test.YtbchcifioddjjaaProg
namespace Go.Proofs.Ytbchcifioddjjaa
open Go.Shelf Go.Proofs

/-- A word of 64 bits. -/
def Word (x : Int) : Prop := 0 ≤ x ∧ x < 18446744073709551616
/-- the greater word of a number, the lesser one, and the number of two words. -/
def Bg.hi (n : Int) : Int := n / 18446744073709551616
def Bg.lo (n : Int) : Int := n % 18446744073709551616
def Bg.num (hi lo : Int) : Int := hi * 18446744073709551616 + lo
/-- how many bits a number has. -/
def Bg.len (n : Int) : Int := Lib.bitLen n.toNat

def lays129_ren : Go.Shelf.Ren := ⟨fun | 129 => 27 | n => n, fun | 53 => 22 | 3 => 3 | 4 => 4 | 46 => 52 | 5 => 5 | 9 => 9 | n => n, fun | n => n⟩
theorem lays129 : Go.Proofs.Lays.n129 Try.prog lays129_ren := {
  mixed := by kernel_rfl
  f129 := Try.func27.trans (congrArg some (by kernel_rfl))
  t3 := Try.underlying3
  a3 := Try.isAgg3
  z3 := Try.sizeOf3
  v3 := Try.zeroValue3
  t4 := Try.underlying4
  a4 := Try.isAgg4
  z4 := Try.sizeOf4
  v4 := Try.zeroValue4
  t5 := Try.underlying5
  a5 := Try.isAgg5
  z5 := Try.sizeOf5
  v5 := Try.zeroValue5
  t9 := Try.underlying9
  a9 := Try.isAgg9
  z9 := Try.sizeOf9
  v9 := Try.zeroValue9
  t46 := Try.underlying52
  a46 := Try.isAgg52
  z46 := Try.sizeOf52
  v46 := Try.zeroValue52
  t53 := Try.underlying22
  a53 := Try.isAgg22
  z53 := Try.sizeOf22
  v53 := Try.zeroValue22 }
theorem c_Len64 (x : Int) (hx : Word x) (w : World) :
    Calls Try.prog 27 #[.int .u64 x] w fun e w' => e = .returned (.int .i64 (Bg.len x)) ∧ w = w' :=
  (Any.bits_Len64 lays129 x w hx.1 (by have := hx.2; omega)).mono fun _ _ h => ⟨h.1, h.2.symm⟩
def lays264_ren : Go.Shelf.Ren := ⟨fun | 264 => 23 | n => n, fun | 53 => 22 | 46 => 52 | n => n, fun | n => n⟩
theorem lays264 : Go.Proofs.Lays.n264 Try.prog lays264_ren := {
  mixed := by kernel_rfl
  f264 := Try.func23.trans (congrArg some (by kernel_rfl))
  t46 := Try.underlying52
  a46 := Try.isAgg52
  z46 := Try.sizeOf52
  v46 := Try.zeroValue52
  t53 := Try.underlying22
  a53 := Try.isAgg22
  z53 := Try.sizeOf22
  v53 := Try.zeroValue22 }
theorem c_Mul64 (x y : Int) (hx : Word x) (hy : Word y) (w : World) :
    Calls Try.prog 23 #[.int .u64 x, .int .u64 y] w fun e w' => e = .returned (.tuple #[.int .u64 (Bg.hi (x * y)), .int .u64 (Bg.lo (x * y))]) ∧ w = w' := by
  obtain ⟨x, rfl⟩ := Int.eq_ofNat_of_zero_le hx.1
  obtain ⟨y, rfl⟩ := Int.eq_ofNat_of_zero_le hy.1
  have h1 := hx.2
  have h2 := hy.2
  refine (Any.bits_Mul64 lays264 x y (by omega) (by omega) w).mono fun _ _ h => ⟨?_, h.2.symm⟩
  rw [h.1]
  unfold Bg.hi Bg.lo
  simp only [Int.natCast_ediv, Int.natCast_emod, Int.natCast_mul]
  rfl

/-! the carry, and the borrow: names, so that no walk parts on them. -/
def Bg.bor (x y : Int) : Int := if x < y then 1 else 0
theorem r_Add64 (x y c : Int) (hx : Word x) (hy : Word y) (hc0 : 0 ≤ c) (hc : c ≤ 1) (w : World) : (callFunc 16 #[.int .u64 x, .int .u64 y, .int .u64 c]).run Try.prog w =
    .ok (.value (.tuple #[.int .u64 (Bg.lo (x + y + c)), .int .u64 (Bg.hi (x + y + c))])) w := by
  obtain ⟨x, rfl⟩ := Int.eq_ofNat_of_zero_le hx.1
  obtain ⟨y, rfl⟩ := Int.eq_ofNat_of_zero_le hy.1
  obtain ⟨c, rfl⟩ := Int.eq_ofNat_of_zero_le hc0
  have h1 := hx.2
  have h2 := hy.2
  rw [run_callFunc_extern Try.func16 (by kernel_rfl) (by kernel_rfl) (by kernel_rfl) (e := add64Entry) (by kernel_rfl), run_add64 x y c (by omega) (by omega) (by omega) (by omega)]
  simp only [Result.andThen]
  unfold Bg.hi Bg.lo
  congr 5 <;> omega
theorem r_Sub64 (x y b : Int) (hx : Word x) (hy : Word y) (hb0 : 0 ≤ b) (hb : b ≤ 1) (w : World) : (callFunc 26 #[.int .u64 x, .int .u64 y, .int .u64 b]).run Try.prog w =
    .ok (.value (.tuple #[.int .u64 (Bg.lo (x - y - b)), .int .u64 (Bg.bor x (y + b))])) w := by
  obtain ⟨x, rfl⟩ := Int.eq_ofNat_of_zero_le hx.1
  obtain ⟨y, rfl⟩ := Int.eq_ofNat_of_zero_le hy.1
  obtain ⟨b, rfl⟩ := Int.eq_ofNat_of_zero_le hb0
  have h1 := hx.2
  have h2 := hy.2
  have e1 : (((x + 18446744073709551616 - y - b) % 18446744073709551616 : Nat) : Int) = Bg.lo ((x : Int) - y - b) := by unfold Bg.lo; omega
  have e2 : ((if x < y + b then 1 else 0 : Nat) : Int) = Bg.bor (x : Int) (y + b) := by unfold Bg.bor; split <;> split <;> omega
  rw [← e1, ← e2, run_callFunc_extern Try.func26 (by kernel_rfl) (by kernel_rfl) (by kernel_rfl) (e := sub64Entry) (by kernel_rfl), run_sub64 x y b (by omega)]
  rfl
theorem r_Add64_0 (x y : Int) (hx : Word x) (hy : Word y) (w : World) : (callFunc 16 #[.int .u64 x, .int .u64 y, .int .u64 0]).run Try.prog w =
    .ok (.value (.tuple #[.int .u64 (Bg.lo (x + y)), .int .u64 (Bg.hi (x + y))])) w := by
  simpa using r_Add64 x y 0 hx hy (Int.le_refl 0) (by decide) w
theorem r_Sub64_0 (x y : Int) (hx : Word x) (hy : Word y) (w : World) : (callFunc 26 #[.int .u64 x, .int .u64 y, .int .u64 0]).run Try.prog w =
    .ok (.value (.tuple #[.int .u64 (Bg.lo (x - y)), .int .u64 (Bg.bor x y)])) w := by
  simpa using r_Sub64 x y 0 hx hy (Int.le_refl 0) (by decide) w

/-! plain facts on words. -/
theorem word_lo (n : Int) : Word (Bg.lo n) := by unfold Word Bg.lo; omega
theorem word_hi {n : Int} (h0 : 0 ≤ n) (h : n < 18446744073709551616 * 18446744073709551616) : Word (Bg.hi n) := by unfold Word Bg.hi; omega
theorem num_hi_lo (n : Int) : Bg.num (Bg.hi n) (Bg.lo n) = n := by unfold Bg.num Bg.hi Bg.lo; omega
theorem hi_num {hi lo : Int} (h : Word lo) : Bg.hi (Bg.num hi lo) = hi := by unfold Bg.num Bg.hi; obtain ⟨_, _⟩ := h; omega
theorem lo_num {hi lo : Int} (h : Word lo) : Bg.lo (Bg.num hi lo) = lo := by unfold Bg.num Bg.lo; obtain ⟨_, _⟩ := h; omega
end Go.Proofs.Ytbchcifioddjjaa
