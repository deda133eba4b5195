/-
  Contracts of package big: the sum and difference of two sizes of 128 bits, for every input.
-/
import Derived.Test.YtbchcifioddjjaaBig
import Derived.Test.YtbchcifioddjjaaKeep
namespace Go.Proofs.Ytbchcifioddjjaa
open Go.RowKit

set_option maxHeartbeats 1600000 in
theorem c_cmp (a b c d : Int) (hb : Word b) (hd : Word d) (w : World) :
    Calls Try.prog 13 #[.agg #[.int .u64 a, .int .u64 b], .agg #[.int .u64 c, .int .u64 d]] w fun e w' => e = .returned (.int .i64 (Bg.cmp3 (Bg.num a b) (Bg.num c d))) ∧
      (((w.alloc (.cells #[.int .u64 a, .int .u64 b] 36)).alloc (.cells #[.int .u64 c, .int .u64 d] 36)).alloc (.cells #[.int .i64 (Bg.cmp3 a c), .int .i64 (Bg.cmp3 b d)] 3)).drew = w' := by
  rw [← or2_cmp3 hb hd]
  clear hb hd
  go_enter Try.func13, Try.ntmps13
  go_wp2_with fail
  go_region_held3 (fun w' => w'.cell? ⟨w.heap.size, 0, none⟩ = some (.int .u64 a) ∧ w'.cell? ⟨w.heap.size, 1, none⟩ = some (.int .u64 b) ∧ w'.cell? ⟨w.heap.size + 1, 0, none⟩ = some (.int .u64 c) ∧ w'.cell? ⟨w.heap.size + 1, 1, none⟩ = some (.int .u64 d)) (simp [go_sem, World.cell?_alloc_past])
    (first
      | (go_at_call 25; refine (c_Compare _ _ _).mono ?_; rintro e w' ⟨rfl, rfl⟩)
      | (go_at_call 24; refine (c_Or (Bg.cmp3 a c) (Bg.cmp3 b d) _ _ ?_ ?_).mono ?_; (simp [go_sem, World.cell?_alloc_past]); (simp [go_sem, World.cell?_alloc_past]); rintro e w' ⟨rfl, rfl⟩))
  all_goals go_wp2
  all_goals go_ret
  all_goals exact ⟨rfl, rfl⟩

theorem sub_lo {b d : Int} (a c : Int) (hb : Word b) (hd : Word d) : Bg.lo (b - d) = Bg.lo (Bg.num a b - Bg.num c d) := by
  unfold Bg.lo Bg.num; obtain ⟨_, _⟩ := hb; obtain ⟨_, _⟩ := hd; omega
theorem sub_hi {a b c d : Int} (ha : Word a) (hb : Word b) (hc : Word c) (hd : Word d) (h : Bg.num c d ≤ Bg.num a b) : Bg.lo (a - c - Bg.bor b d) = Bg.hi (Bg.num a b - Bg.num c d) := by
  unfold Bg.lo Bg.hi Bg.bor Bg.num at *; obtain ⟨_, _⟩ := ha; obtain ⟨_, _⟩ := hb; obtain ⟨_, _⟩ := hc; obtain ⟨_, _⟩ := hd
  split <;> omega
theorem bor_bd (x y : Int) : 0 ≤ Bg.bor x y ∧ Bg.bor x y ≤ 1 := by unfold Bg.bor; split <;> omega
set_option maxHeartbeats 400000 in
theorem c_minus (a b c d : Int) (ha : Word a) (hb : Word b) (hc : Word c) (hd : Word d) (h : Bg.num c d ≤ Bg.num a b) (w : World) :
    Calls Try.prog 14 #[.agg #[.int .u64 a, .int .u64 b], .agg #[.int .u64 c, .int .u64 d]] w fun e w' => e = .returned (.agg #[.int .u64 (Bg.hi (Bg.num a b - Bg.num c d)), .int .u64 (Bg.lo (Bg.num a b - Bg.num c d))]) ∧
      ((w.alloc (.cells #[.int .u64 a, .int .u64 b] 36)).alloc (.cells #[.int .u64 c, .int .u64 d] 36)).alloc (.cells #[.int .u64 (Bg.hi (Bg.num a b - Bg.num c d)), .int .u64 (Bg.lo (Bg.num a b - Bg.num c d))] 36) = w' := by
  rw [← sub_hi ha hb hc hd h, ← sub_lo a c hb hd]
  obtain ⟨k0, k1⟩ := bor_bd b d
  clear h
  go_enter Try.func14, Try.ntmps14
  go_wp2_with (first | simp only [r_Sub64_0 b d hb hd] | simp only [r_Sub64 a c _ ha hc k0 k1])
  exact bodyPost_ret (v := .agg #[.int .u64 (Bg.lo (a - c - Bg.bor b d)), .int .u64 (Bg.lo (b - d))]) (by simp [results, Try.results14, go_sem]) rfl ⟨rfl, by simp [World.setCell_alloc_new]⟩
theorem c_far (n : Int) (h0 : -9223372036854775808 ≤ n) (h1 : n ≤ 9223372036854775807) (w : World) :
    Calls Try.prog 17 #[.int .i64 n] w fun e w' => e = .returned (.int .u64 n.natAbs) ∧ w = w' := by
  by_cases hn : n < 0
  · go_enter Try.func17, Try.ntmps17
    go_wp2
    go_ret
    exact ⟨by simp [IntKind.wrap_u64]; omega, rfl⟩
  · go_enter Try.func17, Try.ntmps17
    go_wp2
    go_ret
    exact ⟨by simp; omega, rfl⟩

/-- a number of 128 bits with its sign: as a value. -/
def Bg.val (z : Int) : Value := .agg #[.bool (decide (z < 0)), .int .u64 (Bg.hi z.natAbs), .int .u64 (Bg.lo z.natAbs)]
theorem val_of {neg : Bool} {hi lo : Int} (h1 : Word hi) (h2 : Word lo) : Value.agg #[.bool (Bg.sg neg hi lo), .int .u64 hi, .int .u64 lo] = Bg.val (if neg then -Bg.num hi lo else Bg.num hi lo) := by
  obtain ⟨a1, a2⟩ := h1
  obtain ⟨b1, b2⟩ := h2
  have hn : 0 ≤ Bg.num hi lo := by unfold Bg.num; omega
  have e : ((if neg then -Bg.num hi lo else Bg.num hi lo : Int).natAbs : Int) = Bg.num hi lo := by split <;> omega
  unfold Bg.val
  rw [e, hi_num ⟨b1, b2⟩, lo_num ⟨b1, b2⟩]
  have e2 : Bg.sg neg hi lo = decide ((if neg then -Bg.num hi lo else Bg.num hi lo : Int) < 0) := by
    unfold Bg.sg Bg.num
    rw [Bool.eq_iff_iff]
    cases neg <;> simp <;> omega
  rw [e2]
set_option maxHeartbeats 400000 in
theorem c_Of (n : Int) (h0 : -9223372036854775808 ≤ n) (h1 : n ≤ 9223372036854775807) (w : World) :
    Calls Try.prog 7 #[.int .i64 n] w fun e w' => e = .returned (Bg.val n) ∧ Below w.heap.size w w' := by
  have hv : Bg.val n = .agg #[.bool (Bg.sg (decide (n < 0)) 0 n.natAbs), .int .u64 0, .int .u64 n.natAbs] := by
    rw [val_of (by constructor <;> decide) (by constructor <;> omega)]
    congr 1
    unfold Bg.num
    by_cases h : n < 0 <;> simp [h] <;> omega
  rw [hv]
  go_enter Try.func7, Try.ntmps7
  go_wp2_with (first
    | (go_at_call 17; refine (c_far n h0 h1 _).mono ?_; rintro e w' ⟨rfl, rfl⟩)
    | (go_at_call 15; refine (c_with _ _ _ _).mono ?_; rintro e w1 ⟨rfl, rfl⟩))
  exact bodyPost_ret (v := .agg #[.bool (Bg.sg (decide (n < 0)) 0 n.natAbs), .int .u64 0, .int .u64 n.natAbs]) (by simp [results, Try.results7, go_sem]) rfl ⟨rfl, by ((repeat' (with_reducible first | exact Below.refl _ _ | apply Below.drew | apply Below.setCell | apply Below.alloc | assumption | refine Below.trans ?_ (Below.mono (by assumption) ?_))) <;> (first | (simp; done) | (simp; omega) | omega))⟩

end Go.Proofs.Ytbchcifioddjjaa
