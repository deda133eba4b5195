/-
  Contracts of root.Square, root.Cube and of the roots' search, for every input and every world.
-/
import Derived.Test.YtbchcifioddjjaaBig5
import Derived.Lib.ItoaNum
import Derived.WalkMore
import Derived.WalkSmall
import Derived.Shelf.Abstract
import Derived.Test.YtbchcifioddjjaaMath
namespace Go.Proofs.Ytbchcifioddjjaa
open Go.RowKit Go.Shelf

theorem val_pos {z : Int} (h : 0 ≤ z) : Bg.val z = .agg #[.bool false, .int .u64 (Bg.hi z), .int .u64 (Bg.lo z)] := by
  unfold Bg.val
  have e : (z.natAbs : Int) = z := by omega
  have e2 : decide (z < 0) = false := by simpa using h
  rw [e, e2]
theorem num_zero (n : Int) : Bg.num 0 n = n := by unfold Bg.num; omega
theorem word_zero : Word 0 := by constructor <;> decide
theorem sq_top {n : Int} (h : Word n) : 0 ≤ n * n ∧ n * n < Bg.top := by
  have := mul_bd h h
  unfold Bg.top; omega
set_option maxHeartbeats 400000 in
theorem c_Square (n : Int) (h : Word n) (w : World) :
    Calls Try.prog 8 #[.int .u64 n] w fun e w' => e = .returned (.agg #[.bool false, .int .u64 (Bg.hi (n * n)), .int .u64 (Bg.lo (n * n))]) ∧ Below w.heap.size w w' := by
  have hs := sq_top h
  have hc := fun W => c_Scale_ok false 0 n n word_zero h h (by rw [num_zero]; exact hs.2) W
  rw [num_zero] at hc
  simp only [Bool.false_eq_true, if_false, val_pos hs.1] at hc
  have HC := Lib.hid hc
  clear hc hs
  go_enter Try.func8, Try.ntmps8
  go_wp2_with (go_at_call 11; refine (HC.out _).mono ?_; rintro e w1 ⟨rfl, hb⟩; obtain ⟨hc1, hf1⟩ := bcell hb; have hz := low (show w.heap.size < w1.heap.size by have := hb.size; simp at this; omega))
  exact bodyPost_ret (v := .agg #[.bool false, .int .u64 (Bg.hi (n * n)), .int .u64 (Bg.lo (n * n))]) (by simp [results, Try.results8, go_sem, *]) rfl ⟨rfl, by ((repeat' (with_reducible first | exact Below.refl _ _ | apply Below.drew | apply Below.setCell | apply Below.alloc | assumption | refine Below.trans ?_ (Below.mono (by assumption) ?_))) <;> (first | (simp; done) | (simp; omega) | omega))⟩
set_option maxHeartbeats 400000 in
theorem c_Cube_ok (n : Int) (h : Word n) (h3 : n * n * n < Bg.top) (w : World) :
    Calls Try.prog 5 #[.int .u64 n] w fun e w' => e = .returned (.tuple #[.agg #[.bool false, .int .u64 (Bg.hi (n * n * n)), .int .u64 (Bg.lo (n * n * n))], .int .i64 0]) ∧ Below w.heap.size w w' := by
  have hs := sq_top h
  have hc := fun W => c_Scale_ok false (Bg.hi (n * n)) (Bg.lo (n * n)) n (word_hi hs.1 (by have := hs.2; unfold Bg.top at this; omega)) (word_lo _) h (by rw [num_hi_lo]; exact h3) W
  rw [num_hi_lo] at hc
  simp only [Bool.false_eq_true, if_false, val_pos (Int.mul_nonneg hs.1 h.1)] at hc
  have HC := Lib.hid hc
  clear hc hs h3
  go_enter Try.func5, Try.ntmps5
  go_wp2_with (first
    | (go_at_call 8; refine (c_Square _ h _).mono ?_; rintro e w1 ⟨rfl, hb⟩; obtain ⟨hc1, hf1⟩ := bcell hb; have hz1 := low (show w.heap.size < w1.heap.size by have := hb.size; simp at this; omega))
    | (go_at_call 11; refine (HC.out _).mono ?_; rintro e w2 ⟨rfl, hb2⟩; obtain ⟨hc2, hf2⟩ := bcell hb2; have hz2 := low (show w.heap.size < w2.heap.size by have := hb2.size; have := hz1.1; omega)))
  exact bodyPost_ret (v := .tuple #[.agg #[.bool false, .int .u64 (Bg.hi (n * n * n)), .int .u64 (Bg.lo (n * n * n))], .int .i64 0]) (by simp [results, Try.results5, go_sem, *]) rfl ⟨rfl, by ((repeat' (with_reducible first | exact Below.refl _ _ | apply Below.drew | apply Below.setCell | apply Below.alloc | assumption | refine Below.trans ?_ (Below.mono (by assumption) ?_))) <;> (first | (simp; done) | (simp; omega) | omega))⟩
set_option maxHeartbeats 400000 in
theorem c_Cube_over (n : Int) (h : Word n) (h3 : Bg.top ≤ n * n * n) (w : World) :
    Calls Try.prog 5 #[.int .u64 n] w fun e w' => e = .returned (.tuple #[Bg.zero, .int .i64 10]) ∧ Below w.heap.size w w' := by
  have hs := sq_top h
  have hc := fun W => c_Scale_over false (Bg.hi (n * n)) (Bg.lo (n * n)) n (word_hi hs.1 (by have := hs.2; unfold Bg.top at this; omega)) (word_lo _) h (by rw [num_hi_lo]; exact h3) W
  have HC := Lib.hid hc
  clear hc hs h3
  go_enter Try.func5, Try.ntmps5
  unfold Bg.zero at HC
  go_wp2_with (first
    | (go_at_call 8; refine (c_Square _ h _).mono ?_; rintro e w1 ⟨rfl, hb⟩; obtain ⟨hc1, hf1⟩ := bcell hb; have hz1 := low (show w.heap.size < w1.heap.size by have := hb.size; simp at this; omega))
    | (go_at_call 11; refine (HC.out _).mono ?_; rintro e w2 ⟨rfl, hb2⟩; obtain ⟨hc2, hf2⟩ := bcell hb2; have hz2 := low (show w.heap.size < w2.heap.size by have := hb2.size; have := hz1.1; omega)))
  exact bodyPost_ret (v := .tuple #[Bg.zero, .int .i64 10]) (by simp [results, Try.results5, go_sem, Bg.zero, *]) rfl ⟨rfl, by ((repeat' (with_reducible first | exact Below.refl _ _ | apply Below.drew | apply Below.setCell | apply Below.alloc | assumption | refine Below.trans ?_ (Below.mono (by assumption) ?_))) <;> (first | (simp; done) | (simp; omega) | omega))⟩
def Bg.long (hi lo : Int) : Int := if 0 < hi then 64 + Bg.len hi else Bg.len lo
theorem len_bd {x : Int} (h : Word x) : 0 ≤ Bg.len x ∧ Bg.len x ≤ 64 ∧ x < 2 ^ (Bg.len x).toNat := by
  unfold Bg.len
  obtain ⟨h0, h1⟩ := h
  have hx : x.toNat < 2 ^ 64 := by omega
  have h2 := Lib.bitLen_le x.toNat 64 (by omega) hx
  refine ⟨by omega, by omega, ?_⟩
  by_cases hz : x.toNat = 0
  · have : x = 0 := by omega
    subst this
    exact Int.pow_pos (by decide)
  · have := (Lib.bitLenAux_bounds 64 x.toNat hx hz).2.2
    have e : Lib.bitLen x.toNat = Lib.bitLenAux 64 x.toNat := rfl
    rw [e, Int.toNat_natCast]
    have h3 : ((x.toNat : Nat) : Int) < ((2 ^ Lib.bitLenAux 64 x.toNat : Nat) : Int) := by exact_mod_cast this
    rw [Int.natCast_pow] at h3
    have e2 : ((x.toNat : Nat) : Int) = x := by omega
    rw [e2] at h3
    exact h3
theorem c_long (neg : Bool) (hi lo : Int) (h1 : Word hi) (h2 : Word lo) (w : World) :
    Calls Try.prog 18 #[.agg #[.bool neg, .int .u64 hi, .int .u64 lo]] w fun e w' => e = .returned (.int .i64 (Bg.long hi lo)) ∧ w.alloc (.cells #[.bool neg, .int .u64 hi, .int .u64 lo] 25) = w' := by
  unfold Bg.long
  have l1 := len_bd h1
  obtain ⟨l10, l11, _⟩ := l1
  by_cases h : 0 < hi
  · rw [if_pos h]
    go_enter Try.func18, Try.ntmps18
    go_wp2_with (go_at_call 27; refine (c_Len64 _ (by assumption) _).mono ?_; rintro e w1 ⟨rfl, rfl⟩)
    go_ret
    exact ⟨rfl, rfl⟩
  · rw [if_neg h]
    go_enter Try.func18, Try.ntmps18
    go_wp2_with (go_at_call 27; refine (c_Len64 _ (by assumption) _).mono ?_; rintro e w1 ⟨rfl, rfl⟩)
    go_ret
    exact ⟨rfl, rfl⟩

theorem shl_one (many : Nat) (h : many ≤ 64) : IntKind.u64.wrap (IntKind.u64.wrap (2 ^ many) - 1) = ((2 ^ many - 1 : Nat) : Int) := by
  rw [IntKind.wrap_u64, IntKind.wrap_u64]
  have e : (2 : Int) ^ many = ((2 ^ many : Nat) : Int) := by rw [Int.natCast_pow]; rfl
  rw [e]
  have h1 : 1 ≤ 2 ^ many := Nat.one_le_two_pow
  have h2 : 2 ^ many ≤ 2 ^ 64 := Nat.pow_le_pow_right (by decide) h
  generalize 2 ^ many = p at *
  omega
/-- what a predicate of a closure answers, in whatever world behind w. -/
def Rights (g : FuncId) (lb : Array Value) (right : Nat → Bool) (w : World) : Prop :=
  ∀ (n : Nat) (W : World), (n : Int) < 18446744073709551616 → Below w.heap.size w W → Calls Try.prog g (#[.int .u64 (n : Int)] ++ lb) W fun e W' => e = .returned (.bool (right n)) ∧ Below W.heap.size W W'
set_option maxHeartbeats 1600000 in
theorem c_greatest (many : Nat) (h64 : many ≤ 64) (g : FuncId) (lb : Array Value) (right : Nat → Bool) (w : World) (eg : Enters Try.prog g) (hR : Rights g lb right w) :
    Calls Try.prog 19 #[.int .i64 (many : Int), .func (.func g) #[] lb] w fun e w' => e = .returned (.int .u64 (greatest right many 0 (2 ^ many - 1) : Nat)) ∧ Below w.heap.size w w' := by
  have HR := Lib.hid hR
  clear hR
  unfold Enters at eg
  go_enter Try.func19, Try.ntmps19
  have hm0 : (0 : Int) ≤ (many : Int) := Int.natCast_nonneg _
  have hm1 : (many : Int) ≤ 64 := by omega
  have hsh := shl_one many h64
  go_wp2_with fail
  go_step3
  go_wp2_with fail
  go_quiet (fail)
  clear hsh
  go_wp2_with fail
  go_step3
  go_wp2_with fail
  go_loopw [5, 6, 12] (fun l h i wr => ∃ L H k : Nat, l = .int .u64 L ∧ h = .int .u64 H ∧ i = .int .i64 k ∧ k ≤ many ∧ L ≤ H ∧ H < 18446744073709551616 ∧ Hid (greatest right (many - k) L H = greatest right many 0 (2 ^ many - 1)) ∧ Below w.heap.size w wr) (fun _ _ i _ => many - (intOf i).toNat)
  case atStart =>
    have h2 : 2 ^ many ≤ 2 ^ 64 := Nat.pow_le_pow_right (by decide) h64
    exact ⟨0, 2 ^ many - 1, 0, rfl, rfl, rfl, Nat.zero_le _, Nat.zero_le _, by omega, Lib.hid rfl, below_drewN (Below.refl _ _) _⟩
  case round =>
    obtain ⟨L, H, k, rfl, rfl, rfl, hk, hLH, hH, hG, hB⟩ := hrel
    have hzr := hB.size
    have hL0 : (0 : Int) ≤ (L : Int) := Int.natCast_nonneg _
    have hLH' : (L : Int) ≤ (H : Int) := by omega
    have hH' : (H : Int) ≤ 18446744073709551615 := by omega
    by_cases hlt : k < many
    · by_cases he : L = H
      · have t1 : ((L : Int) == (H : Int)) = true := by simp [he]
        have hfin : (L : Int) = (greatest right many 0 (2 ^ many - 1) : Nat) := by
          rw [← hG.out]
          obtain ⟨j, hj⟩ : ∃ j, many - k = j + 1 := ⟨many - k - 1, by omega⟩
          rw [hj]; unfold greatest; rw [if_pos he]
        have HF := Lib.hid hfin
        clear hfin he
        go_wp2
        rw [Exit.noGoto_ret]
        go_ret
        exact ⟨ret_int HF.out, by ((repeat' (with_reducible first | exact Below.refl _ _ | apply Below.drew | apply Below.setCell | apply Below.alloc | assumption | refine Below.trans ?_ (Below.mono (by assumption) ?_))) <;> (first | (simp; done) | (simp; omega) | omega))⟩
      · have t1 : ((L : Int) == (H : Int)) = false := by simp; omega
        have hstep : greatest right (many - k) L H = if right (H - (H - L) / 2) then greatest right (many - (k + 1)) (H - (H - L) / 2) H else greatest right (many - (k + 1)) L (H - (H - L) / 2 - 1) := by
          obtain ⟨j, hj⟩ : ∃ j, many - k = j + 1 := ⟨many - k - 1, by omega⟩
          rw [hj, show many - (k + 1) = j from by omega]
          show (if L = H then _ else _) = _
          rw [if_neg he]
        have HS := Lib.hid hstep
        clear hstep
        have hcast : ((H : Int) - ((H : Int) - (L : Int)) / 2) = ((H - (H - L) / 2 : Nat) : Int) := by omega
        have HC := Lib.hid hcast
        have hLlt : L < H := by omega
        clear hcast he
        go_wp2_with fail
        rw [HC.out]
        refine (HR.out _ _ (by omega) hB).mono ?_
        rintro e w1 ⟨rfl, hb⟩
        cases hr : right (H - (H - L) / 2)
        · have hG' : greatest right (many - (k + 1)) L (H - (H - L) / 2 - 1) = greatest right many 0 (2 ^ many - 1) := by
            rw [← hG.out, HS.out, hr]; rfl
          have HG' := Lib.hid hG'
          clear hG' HC HS hr
          have hn0 : (1 : Int) ≤ ((H - (H - L) / 2 : Nat) : Int) := by omega
          go_wp2_with fail
          go_roundw
          case rel => exact ⟨L, H - (H - L) / 2 - 1, k + 1, rfl, by congr 1; omega, by go_num, by omega, by omega, by omega, HG', by ((repeat' (with_reducible first | exact Below.refl _ _ | apply Below.drew | apply Below.setCell | apply Below.alloc | assumption | refine Below.trans ?_ (Below.mono (by assumption) ?_))) <;> (first | (simp; done) | (simp; omega) | omega))⟩
          case measure => simp [intOf]; omega
        · have hG' : greatest right (many - (k + 1)) (H - (H - L) / 2) H = greatest right many 0 (2 ^ many - 1) := by
            rw [← hG.out, HS.out, hr]; rfl
          have HG' := Lib.hid hG'
          clear hG' HC HS hr
          go_wp2_with fail
          go_roundw
          case rel => exact ⟨H - (H - L) / 2, H, k + 1, rfl, rfl, by go_num, by omega, by omega, by omega, HG', by ((repeat' (with_reducible first | exact Below.refl _ _ | apply Below.drew | apply Below.setCell | apply Below.alloc | assumption | refine Below.trans ?_ (Below.mono (by assumption) ?_))) <;> (first | (simp; done) | (simp; omega) | omega))⟩
          case measure => simp [intOf]; omega
    · have hfin : (L : Int) = (greatest right many 0 (2 ^ many - 1) : Nat) := by
        rw [← hG.out, show many - k = 0 from by omega]; rfl
      have HF := Lib.hid hfin
      clear hfin
      go_wp2
      rw [Exit.noGoto_ret]
      go_ret
      exact ⟨ret_int HF.out, by ((repeat' (with_reducible first | exact Below.refl _ _ | apply Below.drew | apply Below.setCell | apply Below.alloc | assumption | refine Below.trans ?_ (Below.mono (by assumption) ?_))) <;> (first | (simp; done) | (simp; omega) | omega))⟩

/-! the two closures: is a cube, a square, at most a number? -/
theorem cmp3_le {a b : Int} : (decide (Bg.cmp3 a b ≤ 0)) = decide (a ≤ b) := by
  unfold Bg.cmp3
  rw [Bool.eq_iff_iff]
  simp only [decide_eq_true_eq]
  (repeat' split) <;> omega
theorem sg_false (a b : Int) : Bg.sg false a b = false := rfl
theorem num_nat {hi lo : Int} (h1 : Word hi) (h2 : Word lo) : ((Bg.num hi lo).toNat : Int) = Bg.num hi lo := by
  have := num_bd h1 h2; omega
set_option maxHeartbeats 800000 in
theorem c_third1 (hi lo : Int) (h1 : Word hi) (h2 : Word lo) (B : Nat) (w : World) (hb : w.heap[B]? = some (.cells #[.bool false, .int .u64 hi, .int .u64 lo] 25 (0, 0))) :
    Rights 20 #[.pointer (some ⟨B, 0, none⟩)] (thirdR (Bg.num hi lo).toNat) w := by
  intro n W hn hW
  have hB := (Array.getElem?_eq_some_iff.1 hb).1
  have hb' : W.heap[B]? = some (.cells #[.bool false, .int .u64 hi, .int .u64 lo] 25 (0, 0)) := (hW.block _ hB).trans hb
  have e0 := blk_cell (v := .bool false) hb' 0 rfl
  have e1 := blk_cell (v := .int .u64 hi) hb' 1 rfl
  have e2 := blk_cell (v := .int .u64 lo) hb' 2 rfl
  have hz := low (World.block_lt_of_cell? _ _ e0)
  simp only at hz
  have hw : Word (n : Int) := ⟨by omega, hn⟩
  clear hb hb' hB hW hn
  show Calls _ _ #[.int .u64 (n : Int), .pointer (some ⟨B, 0, none⟩)] W _
  have hx := num_nat h1 h2
  by_cases h3 : (n : Int) * n * n < Bg.top
  · have hfin : thirdR (Bg.num hi lo).toNat n = decide (Bg.cmp3 ((n : Int) * n * n) (Bg.num hi lo) ≤ 0) := by
      rw [cmp3_le]; unfold thirdR
      rw [Bool.eq_iff_iff]
      simp only [decide_eq_true_eq]
      have e : ((n * n * n : Nat) : Int) = (n : Int) * n * n := by rw [Int.natCast_mul, Int.natCast_mul]
      rw [← e]; omega
    rw [hfin]
    have hs := Int.mul_nonneg (sq_top hw).1 hw.1
    have hcmp := fun W => c_Cmp false false (Bg.hi ((n : Int) * n * n)) (Bg.lo ((n : Int) * n * n)) hi lo (word_hi hs (by unfold Bg.top at h3; omega)) (word_lo _) h1 h2 rfl rfl W
    rw [num_hi_lo] at hcmp
    simp only [Bg.sgn, Bool.false_eq_true, if_false] at hcmp
    have HC := Lib.hid hcmp
    have HQ := fun W => c_Cube_ok (n : Int) hw h3 W
    have HQ := Lib.hid HQ
    clear hcmp h3 hs hfin hx
    go_enter Try.func20, Try.ntmps20
    go_wp2_with (first
      | (go_at_call 5; refine (HQ.out _).mono ?_; rintro e w1 ⟨rfl, hb1⟩; have hs1 := hb1.size; obtain ⟨hc1, hf1⟩ := bcell hb1; have hz1 := low (show B < w1.heap.size by have := hz.1; omega))
      | (go_at_call 21; refine (HC.out _).mono ?_; rintro e w2 ⟨rfl, hb2⟩))
    go_ret
    exact ⟨rfl, by ((repeat' (with_reducible first | exact Below.refl _ _ | apply Below.drew | apply Below.setCell | apply Below.alloc | assumption | refine Below.trans ?_ (Below.mono (by assumption) ?_))) <;> (first | (simp; done) | (simp; omega) | omega))⟩
  · have hfin : thirdR (Bg.num hi lo).toNat n = false := by
      unfold thirdR
      have := num_bd h1 h2
      have e : ((n * n * n : Nat) : Int) = (n : Int) * n * n := by rw [Int.natCast_mul, Int.natCast_mul]
      rw [decide_eq_false_iff_not]
      intro hh
      have hh' : ((n * n * n : Nat) : Int) ≤ ((Bg.num hi lo).toNat : Int) := by exact_mod_cast hh
      rw [e] at hh'
      omega
    rw [hfin]
    have HQ := fun W => c_Cube_over (n : Int) hw (by omega) W
    unfold Bg.zero at HQ
    have HQ := Lib.hid HQ
    clear h3 hfin hx
    go_enter Try.func20, Try.ntmps20
    go_wp2_with (first
      | (go_at_call 5; refine (HQ.out _).mono ?_; rintro e w1 ⟨rfl, hb1⟩; have hs1 := hb1.size; obtain ⟨hc1, hf1⟩ := bcell hb1; have hz1 := low (show B < w1.heap.size by have := hz.1; omega)))
    go_ret
    exact ⟨rfl, by ((repeat' (with_reducible first | exact Below.refl _ _ | apply Below.drew | apply Below.setCell | apply Below.alloc | assumption | refine Below.trans ?_ (Below.mono (by assumption) ?_))) <;> (first | (simp; done) | (simp; omega) | omega))⟩
set_option maxHeartbeats 1600000 in
theorem c_half1 (hi lo : Int) (h1 : Word hi) (h2 : Word lo) (B : Nat) (w : World) (hb : w.heap[B]? = some (.cells #[.bool false, .int .u64 hi, .int .u64 lo] 25 (0, 0))) :
    Rights 22 #[.pointer (some ⟨B, 0, none⟩)] (halfR (Bg.num hi lo).toNat) w := by
  intro n W hn hW
  have hB := (Array.getElem?_eq_some_iff.1 hb).1
  have hb' : W.heap[B]? = some (.cells #[.bool false, .int .u64 hi, .int .u64 lo] 25 (0, 0)) := (hW.block _ hB).trans hb
  have e0 := blk_cell (v := .bool false) hb' 0 rfl
  have e1 := blk_cell (v := .int .u64 hi) hb' 1 rfl
  have e2 := blk_cell (v := .int .u64 lo) hb' 2 rfl
  have hz := low (World.block_lt_of_cell? _ _ e0)
  simp only at hz
  have hw : Word (n : Int) := ⟨by omega, hn⟩
  clear hb hb' hB hW hn
  show Calls _ _ #[.int .u64 (n : Int), .pointer (some ⟨B, 0, none⟩)] W _
  have hx := num_nat h1 h2
  have hs := sq_top hw
  have hfin : halfR (Bg.num hi lo).toNat n = decide (Bg.cmp3 ((n : Int) * n) (Bg.num hi lo) ≤ 0) := by
    rw [cmp3_le]; unfold halfR
    rw [Bool.eq_iff_iff]
    simp only [decide_eq_true_eq]
    have e : ((n * n : Nat) : Int) = (n : Int) * n := by rw [Int.natCast_mul]
    rw [← e]; omega
  rw [hfin]
  have hcmp := fun W => c_Cmp false false (Bg.hi ((n : Int) * n)) (Bg.lo ((n : Int) * n)) hi lo (word_hi hs.1 (by have := hs.2; unfold Bg.top at this; omega)) (word_lo _) h1 h2 rfl rfl W
  rw [num_hi_lo] at hcmp
  simp only [Bg.sgn, Bool.false_eq_true, if_false] at hcmp
  have HC := Lib.hid hcmp
  clear hcmp hs hfin hx
  go_enter Try.func22, Try.ntmps22
  go_wp2_with fail
  go_region_with (first
    | (go_at_call 8; refine (c_Square _ hw _).mono ?_; rintro e w1 ⟨rfl, hb1⟩; have hs1 := hb1.size; (try simp at hs1); have g0 := cell_later hb1 e0; have g1 := cell_later hb1 e1; have g2 := cell_later hb1 e2; have hz1 := low (show B < w1.heap.size by have := hz.1; omega))
    | (go_at_call 21; refine (HC.out _).mono ?_; rintro e w2 ⟨rfl, hb2⟩))
  all_goals go_wp2
  all_goals go_ret
  all_goals exact ⟨rfl, by ((repeat' (with_reducible first | exact Below.refl _ _ | apply Below.drew | apply Below.setCell | apply Below.alloc | assumption | refine Below.trans ?_ (Below.mono (by assumption) ?_))) <;> (first | (simp; done) | (simp; omega) | omega))⟩

end Go.Proofs.Ytbchcifioddjjaa
