/-
  The walk of sawtoothlaw03.RootBack: it returns true for every two words, from every world.
-/
import Derived.Test.YtbchcifioddjjaaAwake03
namespace Go.Proofs.Ytbchcifioddjjaa
open Go.RowKit Go.Shelf
attribute [local go_sem ↓] Go.wp_at_zero Go.wp_at_succ

theorem cube_lt_int {a b : Int} (h0 : 0 ≤ a) (h : a < b) : a * a * a < b * b * b := by
  obtain ⟨m, rfl⟩ := Int.eq_ofNat_of_zero_le h0
  obtain ⟨n, rfl⟩ := Int.eq_ofNat_of_zero_le (show 0 ≤ b by omega)
  have := cube_lt (show m < n by omega)
  have e1 : ((m * m * m : Nat) : Int) = (m : Int) * m * m := by rw [Int.natCast_mul, Int.natCast_mul]
  have e2 : ((n * n * n : Nat) : Int) = (n : Int) * n * n := by rw [Int.natCast_mul, Int.natCast_mul]
  rw [← e1, ← e2]; exact_mod_cast this
theorem sq_lt_int {a b : Int} (h0 : 0 ≤ a) (h : a < b) : a * a < b * b := by
  obtain ⟨m, rfl⟩ := Int.eq_ofNat_of_zero_le h0
  obtain ⟨n, rfl⟩ := Int.eq_ofNat_of_zero_le (show 0 ≤ b by omega)
  have := sq_lt (show m < n by omega)
  have e1 : ((m * m : Nat) : Int) = (m : Int) * m := by rw [Int.natCast_mul]
  have e2 : ((n * n : Nat) : Int) = (n : Int) * n := by rw [Int.natCast_mul]
  rw [← e1, ← e2]; exact_mod_cast this
/-- one less of a number that is not below 0. -/
theorem t_less (C : Int) (h0 : 0 ≤ C) (h1 : C < Bg.top) (w : World) :
    Calls Try.prog 6 #[.agg #[.bool false, .int .u64 (Bg.hi C), .int .u64 (Bg.lo C)], .agg #[.bool true, .int .u64 0, .int .u64 1]] w fun e w' =>
      e = .returned (.tuple #[.agg #[.bool (decide (C - 1 < 0)), .int .u64 (Bg.hi (C - 1).natAbs), .int .u64 (Bg.lo (C - 1).natAbs)], .int .i64 0]) ∧ Below w.heap.size w w' := by
  have hh := word_hi h0 (by unfold Bg.top at h1; omega)
  have e : Bg.sgn false (Bg.num (Bg.hi C) (Bg.lo C)) + Bg.sgn true (Bg.num 0 1) = C - 1 := by
    rw [num_hi_lo, num_zero]; unfold Bg.sgn; simp; omega
  have := c_Add false true (Bg.hi C) (Bg.lo C) 0 1 hh (word_lo C) word_zero (w_of (by decide) (by decide)) w (by rw [e]; unfold Bg.top at *; omega) (by rw [e]; omega)
  rw [e] at this
  unfold Bg.val at this
  exact this
set_option maxHeartbeats 3200000 in
set_option maxRecDepth 100000 in
theorem c_RootBack (n k : Int) (hn : Word n) (hk : Word k) (w : World) : Calls Try.prog 3 #[.int .u64 n, .int .u64 k] w fun e w' => e = .returned (.bool true) ∧ Below w.heap.size w w' := by
  obtain ⟨m, hm⟩ : ∃ m, m = k % 6981463658332 := ⟨_, rfl⟩
  have hl0 : 0 ≤ m := by omega
  have hl1 : m ≤ 6981463658331 := by omega
  have hwl : Word m := w_of hl0 (by omega)
  have hC0 : 0 ≤ m * m * m := Int.mul_nonneg (Int.mul_nonneg hl0 hl0) hl0
  have hC1 : m * m * m < Bg.top := by
    have := cube_lt_int hl0 (show m < 6981463658332 by omega)
    have : m * m * m ≤ 6981463658331 * 6981463658331 * 6981463658331 := by
      by_cases e : m = 6981463658331
      · rw [e]; decide
      · have := cube_lt_int hl0 (show m < 6981463658331 by omega)
        omega
    unfold Bg.top
    omega
  have hS := sq_top hn
  have HCube := Lib.hid (fun W => c_Cube_ok m hwl hC1 W)
  have HLess := Lib.hid (fun W => t_less (m * m * m) hC0 hC1 W)
  have HUnd := Lib.hid (fun W => t_less (n * n) hS.1 hS.2 W)
  have hCw := word_hi hC0 (by unfold Bg.top at hC1; omega)
  have hSw := word_hi hS.1 (by have := hS.2; unfold Bg.top at this; omega)
  have HT1 := Lib.hid (fun W => t_Third false (Bg.hi (m * m * m)) (Bg.lo (m * m * m)) m hCw (word_lo _) hl0 (by rw [num_hi_lo]; omega) (by rw [num_hi_lo]; exact cube_lt_int hl0 (by omega)) W)
  have HH1 := Lib.hid (fun W => t_Half false (Bg.hi (n * n)) (Bg.lo (n * n)) n hSw (word_lo _) hn.1 (by rw [num_hi_lo]; omega) (by rw [num_hi_lo]; exact sq_lt_int hn.1 (by omega)) W)
  have HT2 : Hid (m ≠ 0 → ∀ W, Calls Try.prog 9 #[.agg #[.bool (decide (m * m * m - 1 < 0)), .int .u64 (Bg.hi (m * m * m - 1).natAbs), .int .u64 (Bg.lo (m * m * m - 1).natAbs)]] W fun e w' => e = .returned (.int .u64 (m - 1)) ∧ Below W.heap.size W w') := Lib.hid (fun hne W => by
    have h1 := cube_lt_int (a := 0) (Int.le_refl 0) (show 0 < m by omega)
    have e : ((m * m * m - 1).natAbs : Int) = m * m * m - 1 := by omega
    rw [e]
    refine t_Third _ _ _ (m - 1) (word_hi (by omega) (by unfold Bg.top at hC1; omega)) (word_lo _) (by omega) ?_ ?_ W
    · rw [num_hi_lo]
      have := cube_lt_int (show 0 ≤ m - 1 by omega) (show m - 1 < m by omega)
      omega
    · rw [num_hi_lo, show m - 1 + 1 = m from by omega]; omega)
  have HH2 : Hid (n ≠ 0 → ∀ W, Calls Try.prog 10 #[.agg #[.bool (decide (n * n - 1 < 0)), .int .u64 (Bg.hi (n * n - 1).natAbs), .int .u64 (Bg.lo (n * n - 1).natAbs)]] W fun e w' => e = .returned (.int .u64 (n - 1)) ∧ Below W.heap.size W w') := Lib.hid (fun hne W => by
    have h0 := hn.1
    have h1 := sq_lt_int (a := 0) (Int.le_refl 0) (show 0 < n by omega)
    have e : ((n * n - 1).natAbs : Int) = n * n - 1 := by omega
    rw [e]
    refine t_Half _ _ _ (n - 1) (word_hi (by omega) (by have := hS.2; unfold Bg.top at this; omega)) (word_lo _) (by omega) ?_ ?_ W
    · rw [num_hi_lo]
      have := sq_lt_int (show 0 ≤ n - 1 by omega) (show n - 1 < n by omega)
      omega
    · rw [num_hi_lo, show n - 1 + 1 = n from by omega]; omega)
  have hk0 := hk.1
  have HL := Lib.hid hm
  have hn0 := hn.1
  clear hC0 hC1 hS hCw hSw hm
  go_enter Try.func3, Try.ntmps3
  go_upto_region 4 with (first
    | (go_at_call 4; refine (c_awake03 _).mono ?_; rintro e w1 ⟨rfl, hb1⟩; have hs1 := hb1.size)
    | (go_at_call 5; rw [← HL.out]; refine (HCube.out _).mono ?_; rintro e w2 ⟨rfl, hb2⟩; have hs2 := hb2.size))
  have p0 : (w2.alloc (.cells #[.bool false, .int .u64 (Bg.hi (m * m * m)), .int .u64 (Bg.lo (m * m * m))] 25)).cell? ⟨w2.heap.size, 0, none⟩ = some (.bool false) := by simp [go_sem]
  have p1 : (w2.alloc (.cells #[.bool false, .int .u64 (Bg.hi (m * m * m)), .int .u64 (Bg.lo (m * m * m))] 25)).cell? ⟨w2.heap.size, 1, none⟩ = some (.int .u64 (Bg.hi (m * m * m))) := by simp [go_sem]
  have p2 : (w2.alloc (.cells #[.bool false, .int .u64 (Bg.hi (m * m * m)), .int .u64 (Bg.lo (m * m * m))] 25)).cell? ⟨w2.heap.size, 2, none⟩ = some (.int .u64 (Bg.lo (m * m * m))) := by simp [go_sem]
  have hzz : w2.heap.size < (w2.alloc (.cells #[.bool false, .int .u64 (Bg.hi (m * m * m)), .int .u64 (Bg.lo (m * m * m))] 25)).heap.size := by simp
  have hBB : Below w.heap.size w (w2.alloc (.cells #[.bool false, .int .u64 (Bg.hi (m * m * m)), .int .u64 (Bg.lo (m * m * m))] 25)) := by ((repeat' (with_reducible first | exact Below.refl _ _ | apply Below.drew | apply Below.setCell | apply Below.alloc | assumption | refine Below.trans ?_ (Below.mono (by assumption) ?_))) <;> (first | (simp; done) | (simp; omega) | omega))
  generalize (w2.alloc (.cells #[.bool false, .int .u64 (Bg.hi (m * m * m)), .int .u64 (Bg.lo (m * m * m))] 25)) = W2 at *
  go_cut [9, 10] (fun s9 s10 wx => ∃ g9 : Nat, s9 = .pointer (some ⟨g9, 0, none⟩) ∧ s10 = .int .i64 0 ∧ wx.cell? ⟨g9, 0, none⟩ = some (.bool (decide (m * m * m - 1 < 0))) ∧ wx.cell? ⟨g9, 1, none⟩ = some (.int .u64 (Bg.hi (m * m * m - 1).natAbs)) ∧ wx.cell? ⟨g9, 2, none⟩ = some (.int .u64 (Bg.lo (m * m * m - 1).natAbs)) ∧
      wx.cell? ⟨w2.heap.size, 0, none⟩ = some (.bool false) ∧ wx.cell? ⟨w2.heap.size, 1, none⟩ = some (.int .u64 (Bg.hi (m * m * m))) ∧ wx.cell? ⟨w2.heap.size, 2, none⟩ = some (.int .u64 (Bg.lo (m * m * m))) ∧ Below W2.heap.size W2 wx)
  case first =>
    have hz2 := low hzz
    go_region_with (first
      | (go_at_call 7; refine (t_Of (-1) true 1 (by decide) (by decide) (by decide) (by decide) (w_of (by decide) (by decide)) _).mono ?_; rintro e w3 ⟨rfl, hb3⟩; have hs3 := hb3.size; (try simp at hs3); obtain ⟨hc3, hf3⟩ := bcell hb3; (try have t3 : W2.heap.size < w3.heap.size := by omega); have q0 := cell_later (a := ⟨w2.heap.size, 0, none⟩) (v := .bool false) hb3 (by simp [go_sem, p0, hz2]); have q1 := cell_later (a := ⟨w2.heap.size, 1, none⟩) (v := .int .u64 (Bg.hi (m * m * m))) hb3 (by simp [go_sem, p1, hz2]); have q2 := cell_later (a := ⟨w2.heap.size, 2, none⟩) (v := .int .u64 (Bg.lo (m * m * m))) hb3 (by simp [go_sem, p2, hz2]); have hz3 := low (show w2.heap.size < w3.heap.size from World.block_lt_of_cell? _ _ q0))
      | (go_at_call 6; refine (HLess.out _).mono ?_; rintro e w4 ⟨rfl, hb4⟩; have hs4 := hb4.size; (try simp at hs4); obtain ⟨hc4, hf4⟩ := bcell hb4; (try have t4 : W2.heap.size < w4.heap.size := by omega); (try have t5 : w3.heap.size < w4.heap.size := by omega); have r0 := cell_later (a := ⟨w2.heap.size, 0, none⟩) (v := .bool false) hb4 (by simp [go_sem, *]); have r1 := cell_later (a := ⟨w2.heap.size, 1, none⟩) (v := .int .u64 (Bg.hi (m * m * m))) hb4 (by simp [go_sem, *]); have r2 := cell_later (a := ⟨w2.heap.size, 2, none⟩) (v := .int .u64 (Bg.lo (m * m * m))) hb4 (by simp [go_sem, *]); have hz4 := low (World.block_lt_of_cell? _ _ r0)))
    all_goals (go_wp2_with fail; go_meet; refine ⟨_, rfl, rfl, ?_, ?_, ?_, ?_, ?_, ?_, ?_⟩)
    all_goals first | ((repeat' (with_reducible first | exact Below.refl _ _ | apply Below.drew | apply Below.setCell | apply Below.alloc | assumption | refine Below.trans ?_ (Below.mono (by assumption) ?_))) <;> (first | (simp; done) | (simp; omega) | omega)) | (simp [go_sem, *]; done)
  case rest =>
    obtain ⟨g9, rfl, rfl, d0, d1, d2, d3, d4, d5, hB9⟩ := hcut
    have hs9 := hB9.size
    clear p0 p1 p2
    go_upto_region 6 with (first
      | (go_at_call 8; refine (c_Square n hn _).mono ?_; rintro e w5 ⟨rfl, hb5⟩; have hs5 := hb5.size; have a0 := cell_later hb5 d0; have a1 := cell_later hb5 d1; have a2 := cell_later hb5 d2; have a3 := cell_later hb5 d3; have a4 := cell_later hb5 d4; have a5 := cell_later hb5 d5; clear d0 d1 d2 d3 d4 d5; have hz5 := low (show g9 < w5.heap.size from World.block_lt_of_cell? _ _ a0); have hy5 := low (show w2.heap.size < w5.heap.size from World.block_lt_of_cell? _ _ a3)))
    have q0 : (w5.alloc (.cells #[.bool false, .int .u64 (Bg.hi (n * n)), .int .u64 (Bg.lo (n * n))] 25)).cell? ⟨w5.heap.size, 0, none⟩ = some (.bool false) := by simp [go_sem]
    have q1 : (w5.alloc (.cells #[.bool false, .int .u64 (Bg.hi (n * n)), .int .u64 (Bg.lo (n * n))] 25)).cell? ⟨w5.heap.size, 1, none⟩ = some (.int .u64 (Bg.hi (n * n))) := by simp [go_sem]
    have q2 : (w5.alloc (.cells #[.bool false, .int .u64 (Bg.hi (n * n)), .int .u64 (Bg.lo (n * n))] 25)).cell? ⟨w5.heap.size, 2, none⟩ = some (.int .u64 (Bg.lo (n * n))) := by simp [go_sem]
    have hS5 : w5.heap.size < (w5.alloc (.cells #[.bool false, .int .u64 (Bg.hi (n * n)), .int .u64 (Bg.lo (n * n))] 25)).heap.size := by simp
    have hBB5 : Below W2.heap.size W2 (w5.alloc (.cells #[.bool false, .int .u64 (Bg.hi (n * n)), .int .u64 (Bg.lo (n * n))] 25)) := by ((repeat' (with_reducible first | exact Below.refl _ _ | apply Below.drew | apply Below.setCell | apply Below.alloc | assumption | refine Below.trans ?_ (Below.mono (by assumption) ?_))) <;> (first | (simp; done) | (simp; omega) | omega))
    have b0 : (w5.alloc (.cells #[.bool false, .int .u64 (Bg.hi (n * n)), .int .u64 (Bg.lo (n * n))] 25)).cell? ⟨g9, 0, none⟩ = some (.bool (decide (m * m * m - 1 < 0))) := by simp [go_sem, a0, hz5, hy5]
    have b1 : (w5.alloc (.cells #[.bool false, .int .u64 (Bg.hi (n * n)), .int .u64 (Bg.lo (n * n))] 25)).cell? ⟨g9, 1, none⟩ = some (.int .u64 (Bg.hi (m * m * m - 1).natAbs)) := by simp [go_sem, a1, hz5, hy5]
    have b2 : (w5.alloc (.cells #[.bool false, .int .u64 (Bg.hi (n * n)), .int .u64 (Bg.lo (n * n))] 25)).cell? ⟨g9, 2, none⟩ = some (.int .u64 (Bg.lo (m * m * m - 1).natAbs)) := by simp [go_sem, a2, hz5, hy5]
    have b3 : (w5.alloc (.cells #[.bool false, .int .u64 (Bg.hi (n * n)), .int .u64 (Bg.lo (n * n))] 25)).cell? ⟨w2.heap.size, 0, none⟩ = some (.bool false) := by simp [go_sem, a3, hz5, hy5]
    have b4 : (w5.alloc (.cells #[.bool false, .int .u64 (Bg.hi (n * n)), .int .u64 (Bg.lo (n * n))] 25)).cell? ⟨w2.heap.size, 1, none⟩ = some (.int .u64 (Bg.hi (m * m * m))) := by simp [go_sem, a4, hz5, hy5]
    have b5 : (w5.alloc (.cells #[.bool false, .int .u64 (Bg.hi (n * n)), .int .u64 (Bg.lo (n * n))] 25)).cell? ⟨w2.heap.size, 2, none⟩ = some (.int .u64 (Bg.lo (m * m * m))) := by simp [go_sem, a5, hz5, hy5]
    clear a0 a1 a2 a3 a4 a5
    generalize (w5.alloc (.cells #[.bool false, .int .u64 (Bg.hi (n * n)), .int .u64 (Bg.lo (n * n))] 25)) = W5 at *
    have hz5 := low (show g9 < W5.heap.size from World.block_lt_of_cell? _ _ b0)
    have hy5 := low (show w2.heap.size < W5.heap.size from World.block_lt_of_cell? _ _ b3)
    go_cut [12, 13] (fun s12 s13 wx => ∃ g12 : Nat, s12 = .pointer (some ⟨g12, 0, none⟩) ∧ s13 = .int .i64 0 ∧ wx.cell? ⟨g12, 0, none⟩ = some (.bool (decide (n * n - 1 < 0))) ∧ wx.cell? ⟨g12, 1, none⟩ = some (.int .u64 (Bg.hi (n * n - 1).natAbs)) ∧ wx.cell? ⟨g12, 2, none⟩ = some (.int .u64 (Bg.lo (n * n - 1).natAbs)) ∧
        wx.cell? ⟨w5.heap.size, 0, none⟩ = some (.bool false) ∧ wx.cell? ⟨w5.heap.size, 1, none⟩ = some (.int .u64 (Bg.hi (n * n))) ∧ wx.cell? ⟨w5.heap.size, 2, none⟩ = some (.int .u64 (Bg.lo (n * n))) ∧ Below W5.heap.size W5 wx)
    case first =>
      have hz2 := low hS5
      go_region_with (first
        | (go_at_call 7; refine (t_Of (-1) true 1 (by decide) (by decide) (by decide) (by decide) (w_of (by decide) (by decide)) _).mono ?_; rintro e w3 ⟨rfl, hb3⟩; have hs3 := hb3.size; (try simp at hs3); obtain ⟨hc3, hf3⟩ := bcell hb3; (try have t3 : W5.heap.size < w3.heap.size := by omega); have q0 := cell_later (a := ⟨w5.heap.size, 0, none⟩) (v := .bool false) hb3 (by simp [go_sem, q0, hz2]); have q1 := cell_later (a := ⟨w5.heap.size, 1, none⟩) (v := .int .u64 (Bg.hi (n * n))) hb3 (by simp [go_sem, q1, hz2]); have q2 := cell_later (a := ⟨w5.heap.size, 2, none⟩) (v := .int .u64 (Bg.lo (n * n))) hb3 (by simp [go_sem, q2, hz2]); have hz3 := low (show w5.heap.size < w3.heap.size from World.block_lt_of_cell? _ _ q0))
        | (go_at_call 6; refine (HUnd.out _).mono ?_; rintro e w4 ⟨rfl, hb4⟩; have hs4 := hb4.size; (try simp at hs4); obtain ⟨hc4, hf4⟩ := bcell hb4; (try have t4 : W5.heap.size < w4.heap.size := by omega); (try have t5 : w3.heap.size < w4.heap.size := by omega); have r0 := cell_later (a := ⟨w5.heap.size, 0, none⟩) (v := .bool false) hb4 (by simp [go_sem, *]); have r1 := cell_later (a := ⟨w5.heap.size, 1, none⟩) (v := .int .u64 (Bg.hi (n * n))) hb4 (by simp [go_sem, *]); have r2 := cell_later (a := ⟨w5.heap.size, 2, none⟩) (v := .int .u64 (Bg.lo (n * n))) hb4 (by simp [go_sem, *]); have hz4 := low (World.block_lt_of_cell? _ _ r0)))
      all_goals (go_wp2_with fail; go_meet; refine ⟨_, rfl, rfl, ?_, ?_, ?_, ?_, ?_, ?_, ?_⟩)
      all_goals first | ((repeat' (with_reducible first | exact Below.refl _ _ | apply Below.drew | apply Below.setCell | apply Below.alloc | assumption | refine Below.trans ?_ (Below.mono (by assumption) ?_))) <;> (first | (simp; done) | (simp; omega) | omega)) | (simp [go_sem, *]; done)
    case rest =>
      obtain ⟨g12, rfl, rfl, e0, e1, e2, e3, e4, e5, hB12⟩ := hcut
      have hs12 := hB12.size
      have c0 := cell_later hB12 b0
      have c1 := cell_later hB12 b1
      have c2 := cell_later hB12 b2
      have c3 := cell_later hB12 b3
      have c4 := cell_later hB12 b4
      have c5 := cell_later hB12 b5
      clear q0 q1 q2 b0 b1 b2 b3 b4 b5
      have hBw : Below w.heap.size w wc := by ((repeat' (with_reducible first | exact Below.refl _ _ | apply Below.drew | apply Below.setCell | apply Below.alloc | assumption | refine Below.trans ?_ (Below.mono (by assumption) ?_))) <;> (first | (simp; done) | (simp; omega) | omega))
      have hsw := hBw.size
      clear hBB hBB5 hB9 hB12 hb1 hb2 hb5 hs1 hs2 hs5 hS5 hzz
      go_step
      have hm1 : m ≠ 0 → IntKind.wrap .u64 (m - 1) = m - 1 := by intro h; simp [IntKind.wrap_u64]; omega
      have hn1 : n ≠ 0 → IntKind.wrap .u64 (n - 1) = n - 1 := by have := hn.2; intro h; simp [IntKind.wrap_u64]; omega
      by_cases hm0 : m = 0
      · have HT2' := 0
        clear HT2' HT2 hm1
        have tm : (m == 0) = true := by simp [hm0]
        clear hm0
        by_cases hnz : n = 0
        · have tn : (n == 0) = true := by simp [hnz]
          clear hnz HH2 hn1
          go_upto_region 8 with (first
            | (go_at_call 9; with_reducible refine (HT1.out _).mono ?_; rintro e w6 ⟨rfl, hb6⟩; have hs6 := hb6.size; have xc0 := cell_later hb6 c0; have xc1 := cell_later hb6 c1; have xc2 := cell_later hb6 c2; have xe0 := cell_later hb6 e0; have xe1 := cell_later hb6 e1; have xe2 := cell_later hb6 e2; have xe3 := cell_later hb6 e3; have xe4 := cell_later hb6 e4; have xe5 := cell_later hb6 e5)
            | (go_at_call 10; with_reducible refine (HH1.out _).mono ?_; rintro e w8 ⟨rfl, hb8⟩; have hs8 := hb8.size; have ze0 := cell_later hb8 xe0; have ze1 := cell_later hb8 xe1; have ze2 := cell_later hb8 xe2))
          go_ret
          exact ⟨rfl, by ((repeat' (with_reducible first | exact Below.refl _ _ | apply Below.drew | apply Below.setCell | apply Below.alloc | assumption | refine Below.trans ?_ (Below.mono (by assumption) ?_))) <;> (first | (simp; done) | (simp; omega) | omega))⟩
        · have HH2' := fun W => HH2.out hnz W
          replace hn1 := hn1 hnz
          go_upto_region 8 with (first
            | (go_at_call 9; with_reducible refine (HT1.out _).mono ?_; rintro e w6 ⟨rfl, hb6⟩; have hs6 := hb6.size; have xc0 := cell_later hb6 c0; have xc1 := cell_later hb6 c1; have xc2 := cell_later hb6 c2; have xe0 := cell_later hb6 e0; have xe1 := cell_later hb6 e1; have xe2 := cell_later hb6 e2; have xe3 := cell_later hb6 e3; have xe4 := cell_later hb6 e4; have xe5 := cell_later hb6 e5)
            | (go_at_call 10; with_reducible refine (HH1.out _).mono ?_; rintro e w8 ⟨rfl, hb8⟩; have hs8 := hb8.size; have ze0 := cell_later hb8 xe0; have ze1 := cell_later hb8 xe1; have ze2 := cell_later hb8 xe2)
            | (go_at_call 10; with_reducible refine (HH2' _).mono ?_; rintro e w9 ⟨rfl, hb9⟩; have hs9 := hb9.size))
          go_ret
          exact ⟨rfl, by ((repeat' (with_reducible first | exact Below.refl _ _ | apply Below.drew | apply Below.setCell | apply Below.alloc | assumption | refine Below.trans ?_ (Below.mono (by assumption) ?_))) <;> (first | (simp; done) | (simp; omega) | omega))⟩
      · have HT2' := fun W => HT2.out hm0 W
        replace hm1 := hm1 hm0
        by_cases hnz : n = 0
        · have tn : (n == 0) = true := by simp [hnz]
          clear hnz HH2 hn1
          go_upto_region 8 with (first
            | (go_at_call 9; with_reducible refine (HT1.out _).mono ?_; rintro e w6 ⟨rfl, hb6⟩; have hs6 := hb6.size; have xc0 := cell_later hb6 c0; have xc1 := cell_later hb6 c1; have xc2 := cell_later hb6 c2; have xe0 := cell_later hb6 e0; have xe1 := cell_later hb6 e1; have xe2 := cell_later hb6 e2; have xe3 := cell_later hb6 e3; have xe4 := cell_later hb6 e4; have xe5 := cell_later hb6 e5)
            | (go_at_call 9; with_reducible refine (HT2' _).mono ?_; rintro e w7 ⟨rfl, hb7⟩; have hs7 := hb7.size; have ye0 := cell_later hb7 xe0; have ye1 := cell_later hb7 xe1; have ye2 := cell_later hb7 xe2; have ye3 := cell_later hb7 xe3; have ye4 := cell_later hb7 xe4; have ye5 := cell_later hb7 xe5)
            | (go_at_call 10; with_reducible refine (HH1.out _).mono ?_; rintro e w8 ⟨rfl, hb8⟩; have hs8 := hb8.size; have ze0 := cell_later hb8 ye0; have ze1 := cell_later hb8 ye1; have ze2 := cell_later hb8 ye2))
          go_ret
          exact ⟨rfl, by ((repeat' (with_reducible first | exact Below.refl _ _ | apply Below.drew | apply Below.setCell | apply Below.alloc | assumption | refine Below.trans ?_ (Below.mono (by assumption) ?_))) <;> (first | (simp; done) | (simp; omega) | omega))⟩
        · have HH2' := fun W => HH2.out hnz W
          replace hn1 := hn1 hnz
          go_upto_region 8 with (first
            | (go_at_call 9; with_reducible refine (HT1.out _).mono ?_; rintro e w6 ⟨rfl, hb6⟩; have hs6 := hb6.size; have xc0 := cell_later hb6 c0; have xc1 := cell_later hb6 c1; have xc2 := cell_later hb6 c2; have xe0 := cell_later hb6 e0; have xe1 := cell_later hb6 e1; have xe2 := cell_later hb6 e2; have xe3 := cell_later hb6 e3; have xe4 := cell_later hb6 e4; have xe5 := cell_later hb6 e5)
            | (go_at_call 9; with_reducible refine (HT2' _).mono ?_; rintro e w7 ⟨rfl, hb7⟩; have hs7 := hb7.size; have ye0 := cell_later hb7 xe0; have ye1 := cell_later hb7 xe1; have ye2 := cell_later hb7 xe2; have ye3 := cell_later hb7 xe3; have ye4 := cell_later hb7 xe4; have ye5 := cell_later hb7 xe5)
            | (go_at_call 10; with_reducible refine (HH1.out _).mono ?_; rintro e w8 ⟨rfl, hb8⟩; have hs8 := hb8.size; have ze0 := cell_later hb8 ye0; have ze1 := cell_later hb8 ye1; have ze2 := cell_later hb8 ye2)
            | (go_at_call 10; with_reducible refine (HH2' _).mono ?_; rintro e w9 ⟨rfl, hb9⟩; have hs9 := hb9.size))
          go_ret
          exact ⟨rfl, by ((repeat' (with_reducible first | exact Below.refl _ _ | apply Below.drew | apply Below.setCell | apply Below.alloc | assumption | refine Below.trans ?_ (Below.mono (by assumption) ?_))) <;> (first | (simp; done) | (simp; omega) | omega))⟩

end Go.Proofs.Ytbchcifioddjjaa
