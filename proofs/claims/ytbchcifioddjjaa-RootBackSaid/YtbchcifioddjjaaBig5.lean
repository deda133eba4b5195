/-
  The contract of big.Cmp, for every input and every world.
-/
import Derived.Test.YtbchcifioddjjaaBig4
namespace Go.Proofs.Ytbchcifioddjjaa
open Go.RowKit
attribute [local go_sem ↓] Go.wp_at_zero Go.wp_at_succ

theorem c_with_can {neg : Bool} {hi lo : Int} (h : Bg.sg neg hi lo = neg) (w : World) :
    Calls Try.prog 15 #[.agg #[.int .u64 hi, .int .u64 lo], .bool neg] w fun e w' => e = .returned (.agg #[.bool neg, .int .u64 hi, .int .u64 lo]) ∧
      ((w.alloc (.cells #[.int .u64 hi, .int .u64 lo] 36)).alloc (.cells #[.bool neg, .int .u64 hi, .int .u64 lo] 25)).drew = w' := by
  have := c_with neg hi lo w
  rw [h] at this
  exact this
set_option maxHeartbeats 3200000 in
set_option maxRecDepth 100000 in
theorem c_Cmp (xn yn : Bool) (a b c d : Int) (ha : Word a) (hb : Word b) (hc : Word c) (hd : Word d) (hx : Bg.sg xn a b = xn) (hy : Bg.sg yn c d = yn) (w : World) :
    Calls Try.prog 21 #[.agg #[.bool xn, .int .u64 a, .int .u64 b], .agg #[.bool yn, .int .u64 c, .int .u64 d]] w fun e w' => e = .returned (.int .i64 (Bg.cmp3 (Bg.sgn xn (Bg.num a b)) (Bg.sgn yn (Bg.num c d)))) ∧ Below w.heap.size w w' := by
  have HX := Lib.hid hx
  have HY := Lib.hid hy
  clear hx hy
  go_enter Try.func21, Try.ntmps21
  go_upto_region 1 with fail
  generalize hW0 : (w.alloc (Obj.cells #[Value.bool xn, Value.int IntKind.u64 a, Value.int IntKind.u64 b] 25)).alloc (Obj.cells #[Value.bool yn, Value.int IntKind.u64 c, Value.int IntKind.u64 d] 25) = W0
  have h00 : W0.cell? ⟨w.heap.size, 0, none⟩ = some (.bool xn) := by rw [← hW0]; simp [go_sem]
  have h01 : W0.cell? ⟨w.heap.size, 1, none⟩ = some (.int .u64 a) := by rw [← hW0]; simp [go_sem]
  have h02 : W0.cell? ⟨w.heap.size, 2, none⟩ = some (.int .u64 b) := by rw [← hW0]; simp [go_sem]
  have h10 : W0.cell? ⟨w.heap.size + 1, 0, none⟩ = some (.bool yn) := by rw [← hW0]; simp [go_sem]
  have h11 : W0.cell? ⟨w.heap.size + 1, 1, none⟩ = some (.int .u64 c) := by rw [← hW0]; simp [go_sem]
  have h12 : W0.cell? ⟨w.heap.size + 1, 2, none⟩ = some (.int .u64 d) := by rw [← hW0]; simp [go_sem]
  have hB0 : W0.heap[w.heap.size]? = some (.cells #[.bool xn, .int .u64 a, .int .u64 b] 25 (0, 0)) := by rw [← hW0]; exact blk_old (blk_new _ _ rfl)
  have hB1 : W0.heap[w.heap.size + 1]? = some (.cells #[.bool yn, .int .u64 c, .int .u64 d] 25 (0, 0)) := by rw [← hW0]; exact blk_new _ _ (by simp)
  have k00 := blk_frozen hB0 0
  have k01 := blk_frozen hB0 1
  have k02 := blk_frozen hB0 2
  have k10 := blk_frozen hB1 0
  have k11 := blk_frozen hB1 1
  have k12 := blk_frozen hB1 2
  have hz0 := low (show w.heap.size < W0.heap.size by rw [← hW0]; simp; omega)
  have hz1 := low (show w.heap.size + 1 < W0.heap.size by rw [← hW0]; simp)
  have hBB : Below w.heap.size w W0 := by rw [← hW0]; ((repeat' (with_reducible first | exact Below.refl _ _ | apply Below.drew | apply Below.setCell | apply Below.alloc | assumption | refine Below.trans ?_ (Below.mono (by assumption) ?_))) <;> (first | (simp; done) | (simp; omega) | omega))
  clear hW0 hB0 hB1
  go_cut [] (fun wx => wx.cell? ⟨w.heap.size, 0, none⟩ = some (.bool xn) ∧ wx.cell? ⟨w.heap.size, 1, none⟩ = some (.int .u64 a) ∧ wx.cell? ⟨w.heap.size, 2, none⟩ = some (.int .u64 b) ∧ wx.cell? ⟨w.heap.size + 1, 0, none⟩ = some (.bool yn) ∧ wx.cell? ⟨w.heap.size + 1, 1, none⟩ = some (.int .u64 c) ∧ wx.cell? ⟨w.heap.size + 1, 2, none⟩ = some (.int .u64 d) ∧ Below w.heap.size w wx)
  case first =>
    go_region_held3 (fun w' => w'.cell? ⟨w.heap.size, 0, none⟩ = some (.bool xn) ∧ w'.cell? ⟨w.heap.size, 1, none⟩ = some (.int .u64 a) ∧ w'.cell? ⟨w.heap.size, 2, none⟩ = some (.int .u64 b) ∧ w'.cell? ⟨w.heap.size + 1, 0, none⟩ = some (.bool yn) ∧ w'.cell? ⟨w.heap.size + 1, 1, none⟩ = some (.int .u64 c) ∧ w'.cell? ⟨w.heap.size + 1, 2, none⟩ = some (.int .u64 d))
      (simp [go_sem, *])
      (first
        | (go_at_call 12; refine (c_of _ _ _ _).mono ?_; rintro e w1 ⟨rfl, rfl⟩)
        | (go_at_call 15; refine (c_with_can (by first | exact HX.out | exact HY.out) _).mono ?_; rintro e w1 ⟨rfl, rfl⟩))
    all_goals (go_wp2_with fail; go_meet)
    all_goals refine ⟨?_, ?_, ?_, ?_, ?_, ?_, ?_⟩
    all_goals first | ((repeat' (with_reducible first | exact Below.refl _ _ | apply Below.drew | apply Below.setCell | apply Below.alloc | assumption | refine Below.trans ?_ (Below.mono (by assumption) ?_))) <;> (first | (simp; done) | (simp; omega) | omega)) | (simp [go_sem, *]; done)
  case rest =>
    obtain ⟨e00, e01, e02, e10, e11, e12, hB⟩ := hcut
    clear hz0 hz1 k00 k01 k02 k10 k11 k12 h00 h01 h02 h10 h11 h12
    have hz0 := low (World.block_lt_of_cell? _ _ e00)
    have hz1 := low (World.block_lt_of_cell? _ _ e10)
    simp only at hz0 hz1
    have g := guard_big
    have q := eq_big
    by_cases heq : xn = yn ∧ a = c ∧ b = d
    · obtain ⟨rfl, rfl, rfl⟩ := heq
      have hfin : (0 : Int) = Bg.cmp3 (Bg.sgn xn (Bg.num a b)) (Bg.sgn xn (Bg.num a b)) := by unfold Bg.cmp3; rw [if_neg (by omega), if_neg (by omega)]
      have HF := Lib.hid hfin
      clear hfin
      go_wp2
      go_ret
      exact ⟨ret_int HF.out, by ((repeat' (with_reducible first | exact Below.refl _ _ | apply Below.drew | apply Below.setCell | apply Below.alloc | assumption | refine Below.trans ?_ (Below.mono (by assumption) ?_))) <;> (first | (simp; done) | (simp; omega) | omega))⟩
    · have t0 : (xn == yn && (a == c && b == d)) = false := by
        rw [Bool.eq_false_iff]
        intro hh
        apply heq
        simpa using hh
      have HQ := Lib.hid heq
      clear heq
      have na := num_bd ha hb
      have nc := num_bd hc hd
      cases xn <;> cases yn
      · have t1 : (a == c && b == d) = false := by simpa using t0
        have hfin : Bg.cmp3 (Bg.num a b) (Bg.num c d) = Bg.cmp3 (Bg.sgn false (Bg.num a b)) (Bg.sgn false (Bg.num c d)) := by simp [Bg.sgn]
        have HF := Lib.hid hfin
        clear hfin na nc
        go_wp2_with fail
        go_region_with (first
          | (go_at_call 12; refine (c_of _ _ _ _).mono ?_; rintro e w1 ⟨rfl, rfl⟩)
          | (go_at_call 13; refine (c_cmp _ _ _ _ hb hd _).mono ?_; rintro e w1 ⟨rfl, rfl⟩))
        all_goals go_wp2
        all_goals go_ret
        all_goals exact ⟨ret_int HF.out, by ((repeat' (with_reducible first | exact Below.refl _ _ | apply Below.drew | apply Below.setCell | apply Below.alloc | assumption | refine Below.trans ?_ (Below.mono (by assumption) ?_))) <;> (first | (simp; done) | (simp; omega) | omega))⟩
      · have hfin : (1 : Int) = Bg.cmp3 (Bg.sgn false (Bg.num a b)) (Bg.sgn true (Bg.num c d)) := by
          have hp : 0 < Bg.num c d := by
            have := HY.out
            unfold Bg.sg at this
            obtain ⟨_, _⟩ := hc; obtain ⟨_, _⟩ := hd
            unfold Bg.num
            by_cases z1 : c = 0 <;> by_cases z2 : d = 0 <;> simp [z1, z2] at this <;> omega
          unfold Bg.cmp3 Bg.sgn
          simp only [if_true, Bool.false_eq_true, if_false]
          rw [if_neg (by omega), if_pos (by omega)]
        have HF := Lib.hid hfin
        clear hfin na nc
        go_wp2
        go_ret
        exact ⟨ret_int HF.out, by ((repeat' (with_reducible first | exact Below.refl _ _ | apply Below.drew | apply Below.setCell | apply Below.alloc | assumption | refine Below.trans ?_ (Below.mono (by assumption) ?_))) <;> (first | (simp; done) | (simp; omega) | omega))⟩
      · have hfin : (-1 : Int) = Bg.cmp3 (Bg.sgn true (Bg.num a b)) (Bg.sgn false (Bg.num c d)) := by
          have hp : 0 < Bg.num a b := by
            have := HX.out
            unfold Bg.sg at this
            obtain ⟨_, _⟩ := ha; obtain ⟨_, _⟩ := hb
            unfold Bg.num
            by_cases z1 : a = 0 <;> by_cases z2 : b = 0 <;> simp [z1, z2] at this <;> omega
          unfold Bg.cmp3 Bg.sgn
          simp only [if_true, Bool.false_eq_true, if_false]
          rw [if_pos (by omega)]
        have HF := Lib.hid hfin
        clear hfin na nc
        go_wp2
        go_ret
        exact ⟨ret_int HF.out, by ((repeat' (with_reducible first | exact Below.refl _ _ | apply Below.drew | apply Below.setCell | apply Below.alloc | assumption | refine Below.trans ?_ (Below.mono (by assumption) ?_))) <;> (first | (simp; done) | (simp; omega) | omega))⟩
      · have t1 : (a == c && b == d) = false := by simpa using t0
        have hfin : Bg.cmp3 (Bg.num c d) (Bg.num a b) = Bg.cmp3 (Bg.sgn true (Bg.num a b)) (Bg.sgn true (Bg.num c d)) := by
          unfold Bg.cmp3 Bg.sgn
          simp only [if_true]
          (repeat' split) <;> omega
        have HF := Lib.hid hfin
        clear hfin na nc
        go_wp2_with fail
        go_region_with (first
          | (go_at_call 12; refine (c_of _ _ _ _).mono ?_; rintro e w1 ⟨rfl, rfl⟩)
          | (go_at_call 13; refine (c_cmp _ _ _ _ hd hb _).mono ?_; rintro e w1 ⟨rfl, rfl⟩))
        all_goals go_wp2
        all_goals go_ret
        all_goals exact ⟨ret_int HF.out, by ((repeat' (with_reducible first | exact Below.refl _ _ | apply Below.drew | apply Below.setCell | apply Below.alloc | assumption | refine Below.trans ?_ (Below.mono (by assumption) ?_))) <;> (first | (simp; done) | (simp; omega) | omega))⟩

end Go.Proofs.Ytbchcifioddjjaa
