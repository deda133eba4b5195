/-
  The contract of big.Add where the sum has no more than 128 bits, for every world.
-/
import Derived.Test.YtbchcifioddjjaaBig3
import Derived.Deep.DeepCutAuto
import Derived.Deep.DrawnRows
namespace Go.Proofs.Ytbchcifioddjjaa
open Go.RowKit
attribute [local go_sem ↓] Go.wp_at_zero Go.wp_at_succ

/-- a number of a size, and a sign. -/
def Bg.sgn (neg : Bool) (n : Int) : Int := if neg then -n else n
theorem add_lo {b d : Int} (a c : Int) (hb : Word b) (hd : Word d) : Bg.lo (b + d) = Bg.lo (Bg.num a b + Bg.num c d) := by
  unfold Bg.lo Bg.num; obtain ⟨_, _⟩ := hb; obtain ⟨_, _⟩ := hd; omega
theorem add_hi {a b c d : Int} (ha : Word a) (hb : Word b) (hc : Word c) (hd : Word d) (h : Bg.num a b + Bg.num c d < Bg.top) : Bg.lo (a + c + Bg.hi (b + d)) = Bg.hi (Bg.num a b + Bg.num c d) ∧ ¬ 0 < Bg.hi (a + c + Bg.hi (b + d)) := by
  unfold Bg.lo Bg.hi Bg.num Bg.top at *; obtain ⟨_, _⟩ := ha; obtain ⟨_, _⟩ := hb; obtain ⟨_, _⟩ := hc; obtain ⟨_, _⟩ := hd
  omega
theorem carry_bd {b d : Int} (hb : Word b) (hd : Word d) : 0 ≤ Bg.hi (b + d) ∧ Bg.hi (b + d) ≤ 1 := by
  unfold Bg.hi; obtain ⟨_, _⟩ := hb; obtain ⟨_, _⟩ := hd; omega
theorem num_bd {a b : Int} (ha : Word a) (hb : Word b) : 0 ≤ Bg.num a b ∧ Bg.num a b < Bg.top := by
  unfold Bg.num Bg.top; obtain ⟨_, _⟩ := ha; obtain ⟨_, _⟩ := hb; omega
theorem val_num {neg : Bool} {n : Int} (h0 : 0 ≤ n) (h1 : n < Bg.top) : Value.agg #[.bool (Bg.sg neg (Bg.hi n) (Bg.lo n)), .int .u64 (Bg.hi n), .int .u64 (Bg.lo n)] = Bg.val (Bg.sgn neg n) := by
  rw [val_of (word_hi h0 (by unfold Bg.top at h1; omega)) (word_lo n), num_hi_lo]; rfl
set_option maxHeartbeats 3200000 in
set_option maxRecDepth 100000 in
theorem c_Add (xn yn : Bool) (a b c d : Int) (ha : Word a) (hb : Word b) (hc : Word c) (hd : Word d) (w : World)
    (h0 : -Bg.top < Bg.sgn xn (Bg.num a b) + Bg.sgn yn (Bg.num c d)) (h1 : Bg.sgn xn (Bg.num a b) + Bg.sgn yn (Bg.num c d) < Bg.top) :
    Calls Try.prog 6 #[.agg #[.bool xn, .int .u64 a, .int .u64 b], .agg #[.bool yn, .int .u64 c, .int .u64 d]] w fun e w' => e = .returned (.tuple #[Bg.val (Bg.sgn xn (Bg.num a b) + Bg.sgn yn (Bg.num c d)), .int .i64 0]) ∧ Below w.heap.size w w' := by
  have H0 := Lib.hid h0
  have H1 := Lib.hid h1
  clear h0 h1
  go_enter Try.func6, Try.ntmps6
  go_upto_region 1 with fail
  generalize hW0 : ((w.alloc (Obj.cells #[Value.bool xn, Value.int IntKind.u64 a, Value.int IntKind.u64 b] 25)).alloc (Obj.cells #[Value.bool yn, Value.int IntKind.u64 c, Value.int IntKind.u64 d] 25)).alloc (Obj.cells #[Value.bool false, Value.int IntKind.u64 0, Value.int IntKind.u64 0] 25) = W0
  have h00 : W0.cell? ⟨w.heap.size, 0, none⟩ = some (.bool xn) := by rw [← hW0]; simp [go_sem]
  have h01 : W0.cell? ⟨w.heap.size, 1, none⟩ = some (.int .u64 a) := by rw [← hW0]; simp [go_sem]
  have h02 : W0.cell? ⟨w.heap.size, 2, none⟩ = some (.int .u64 b) := by rw [← hW0]; simp [go_sem]
  have h10 : W0.cell? ⟨w.heap.size + 1, 0, none⟩ = some (.bool yn) := by rw [← hW0]; simp [go_sem]
  have h11 : W0.cell? ⟨w.heap.size + 1, 1, none⟩ = some (.int .u64 c) := by rw [← hW0]; simp [go_sem]
  have h12 : W0.cell? ⟨w.heap.size + 1, 2, none⟩ = some (.int .u64 d) := by rw [← hW0]; simp [go_sem]
  have h20 : W0.heap[w.heap.size + 1 + 1]? = some (.cells #[.bool false, .int .u64 0, .int .u64 0] 25 (0, 0)) := by rw [← hW0]; exact blk_new _ _ (by simp)
  have hz0 : w.heap.size + 3 ≤ W0.heap.size := by rw [← hW0]; simp
  have hBB : Below w.heap.size w W0 := by rw [← hW0]; ((repeat' (with_reducible first | exact Below.refl _ _ | apply Below.drew | apply Below.setCell | apply Below.alloc | assumption | refine Below.trans ?_ (Below.mono (by assumption) ?_))) <;> (first | (simp; done) | (simp; omega) | omega))
  clear hW0
  go_cut [6, 7] (fun s6 s7 wx => ∃ g6 g7 : Nat, s6 = .pointer (some ⟨g6, 0, none⟩) ∧ s7 = .pointer (some ⟨g7, 0, none⟩) ∧ wx.cell? ⟨g6, 0, none⟩ = some (.int .u64 a) ∧ wx.cell? ⟨g6, 1, none⟩ = some (.int .u64 b) ∧ wx.cell? ⟨g7, 0, none⟩ = some (.int .u64 c) ∧ wx.cell? ⟨g7, 1, none⟩ = some (.int .u64 d) ∧ W0.heap.size ≤ g6 ∧ W0.heap.size ≤ g7 ∧ Below W0.heap.size W0 wx)
  case first =>
    go_region_held3 (fun w' => w'.cell? ⟨w.heap.size, 0, none⟩ = some (.bool xn) ∧ w'.cell? ⟨w.heap.size, 1, none⟩ = some (.int .u64 a) ∧ w'.cell? ⟨w.heap.size, 2, none⟩ = some (.int .u64 b) ∧ w'.cell? ⟨w.heap.size + 1, 0, none⟩ = some (.bool yn) ∧ w'.cell? ⟨w.heap.size + 1, 1, none⟩ = some (.int .u64 c) ∧ w'.cell? ⟨w.heap.size + 1, 2, none⟩ = some (.int .u64 d) ∧ Below W0.heap.size W0 w')
      ((go_split_ands; refine (fun hB' => ⟨cell_later hB' h00, cell_later hB' h01, cell_later hB' h02, cell_later hB' h10, cell_later hB' h11, cell_later hB' h12, hB'⟩ : Below W0.heap.size W0 _ → _) ?_; ((repeat' (with_reducible first | exact Below.refl _ _ | apply Below.drew | apply Below.setCell | apply Below.alloc | assumption | refine Below.trans ?_ (Below.mono (by assumption) ?_))) <;> (first | (simp; done) | (simp; omega) | omega))))
      (first | (go_at_call 12; refine (c_of _ _ _ _).mono ?_; rintro e w1 ⟨rfl, rfl⟩))
    all_goals (go_wp2_with fail; go_meet; refine ⟨_, _, rfl, rfl, ?_, ?_, ?_, ?_, ?_, ?_, ?_⟩)
    all_goals first | ((repeat' (with_reducible first | exact Below.refl _ _ | apply Below.drew | apply Below.setCell | apply Below.alloc | assumption | refine Below.trans ?_ (Below.mono (by assumption) ?_))) <;> (first | (simp; done) | (simp; omega) | omega)) | (simp [go_sem]; done) | (simp; omega)
  case rest =>
    obtain ⟨g6, g7, rfl, rfl, f0, f1, f2, f3, q6, q7, hB⟩ := hcut
    have e00 := cell_later hB h00
    have e10 := cell_later hB h10
    have hz1 := hB.size
    have hb20 : wc.heap[w.heap.size + 1 + 1]? = some (.cells #[.bool false, .int .u64 0, .int .u64 0] 25 (0, 0)) := (hB.block _ (by omega)).trans h20
    have e20 := blk_cell (v := .bool false) hb20 0 rfl
    have e21 := blk_cell (v := .int .u64 0) hb20 1 rfl
    have e22 := blk_cell (v := .int .u64 0) hb20 2 rfl
    have k20 := blk_frozen hb20 0
    have k21 := blk_frozen hb20 1
    have k22 := blk_frozen hb20 2
    have hz2 : w.heap.size + 1 + 1 < wc.heap.size := by omega
    have hz3 : w.heap.size + 1 < wc.heap.size := by omega
    have hz4 : w.heap.size < wc.heap.size := by omega
    have hz5 := World.block_lt_of_cell? _ _ f0
    have hz6 := World.block_lt_of_cell? _ _ f2
    simp only at hz5 hz6
    have hy2 := low hz2
    have hy3 := low hz3
    have hy4 := low hz4
    have hy5 := low hz5
    have hy6 := low hz6
    have hBw : Below w.heap.size w wc := hBB.trans (hB.mono (by omega))
    clear h00 h01 h02 h10 h11 h12 h20 hb20
    by_cases hs : xn = yn
    · subst hs
      have t1 : (xn != xn) = false := by simp
      have hN : Bg.sgn xn (Bg.num a b) + Bg.sgn xn (Bg.num c d) = Bg.sgn xn (Bg.num a b + Bg.num c d) := by unfold Bg.sgn; cases xn <;> simp <;> omega
      have hlt : Bg.num a b + Bg.num c d < Bg.top := by
        have p0 := H0.out
        have p1 := H1.out
        rw [hN] at p0 p1
        unfold Bg.sgn at p0 p1
        cases xn <;> simp at p0 p1 <;> omega
      have hv := val_num (neg := xn) (n := Bg.num a b + Bg.num c d) (by have := num_bd ha hb; have := num_bd hc hd; omega) hlt
      obtain ⟨p1, p2⟩ := add_hi ha hb hc hd hlt
      obtain ⟨k0, k1⟩ := carry_bd hb hd
      rw [← add_lo a c hb hd, ← p1] at hv
      have HV := Lib.hid (hv.trans (congrArg Bg.val hN.symm))
      clear hN hlt hv p1 H0 H1
      go_wp2_with (first
        | simp only [r_Add64_0 b d hb hd]
        | simp only [r_Add64 a c _ ha hc k0 k1]
        | (go_at_call 15; refine (c_with _ _ _ _).mono ?_; rintro e w1 ⟨rfl, rfl⟩))
      refine bodyPost_ret (v := .tuple #[.agg #[.bool (Bg.sg xn (Bg.lo (a + c + Bg.hi (b + d))) (Bg.lo (b + d))), .int .u64 (Bg.lo (a + c + Bg.hi (b + d))), .int .u64 (Bg.lo (b + d))], .int .i64 0]) (by simp [results, Try.results6, go_sem, *]) rfl ⟨congrArg (fun v => Ending.returned (.tuple #[v, .int .i64 0])) HV.out, by ((repeat' (with_reducible first | exact Below.refl _ _ | apply Below.drew | apply Below.setCell | apply Below.alloc | assumption | refine Below.trans ?_ (Below.mono (by assumption) ?_))) <;> (first | (simp; done) | (simp; omega) | omega))⟩
    · have t1 : (!(xn == yn)) = true := by simpa using hs
      by_cases hlt : Bg.num a b < Bg.num c d
      · have hN : Bg.sgn xn (Bg.num a b) + Bg.sgn yn (Bg.num c d) = Bg.sgn yn (Bg.num c d - Bg.num a b) := by unfold Bg.sgn; cases xn <;> cases yn <;> simp at hs ⊢ <;> omega
        have hv := val_num (neg := yn) (n := Bg.num c d - Bg.num a b) (by omega) (by have := num_bd ha hb; have := num_bd hc hd; omega)
        have HV := Lib.hid (hv.trans (congrArg Bg.val hN.symm))
        have hcm : Bg.cmp3 (Bg.num a b) (Bg.num c d) < 0 := by unfold Bg.cmp3; rw [if_pos hlt]; decide
        have hle : Bg.num a b ≤ Bg.num c d := by omega
        clear hN hv H0 H1 hs hlt
        go_wp2_with (first
          | (go_at_call 13; refine (c_cmp _ _ _ _ hb hd _).mono ?_; rintro e w1 ⟨rfl, rfl⟩))
        go_region_with (first
            | (go_at_call 14; refine (c_minus _ _ _ _ hc hd ha hb hle _).mono ?_; rintro e w1 ⟨rfl, rfl⟩)
            | (go_at_call 15; refine (c_with _ _ _ _).mono ?_; rintro e w1 ⟨rfl, rfl⟩))
        all_goals go_wp2
        all_goals exact bodyPost_ret (v := .tuple #[.agg #[.bool (Bg.sg yn (Bg.hi (Bg.num c d - Bg.num a b)) (Bg.lo (Bg.num c d - Bg.num a b))), .int .u64 (Bg.hi (Bg.num c d - Bg.num a b)), .int .u64 (Bg.lo (Bg.num c d - Bg.num a b))], .int .i64 0]) (by simp [results, Try.results6, go_sem, *]) rfl ⟨congrArg (fun v => Ending.returned (.tuple #[v, .int .i64 0])) HV.out, by ((repeat' (with_reducible first | exact Below.refl _ _ | apply Below.drew | apply Below.setCell | apply Below.alloc | assumption | refine Below.trans ?_ (Below.mono (by assumption) ?_))) <;> (first | (simp; done) | (simp; omega) | omega))⟩
      · have hN : Bg.sgn xn (Bg.num a b) + Bg.sgn yn (Bg.num c d) = Bg.sgn xn (Bg.num a b - Bg.num c d) := by unfold Bg.sgn; cases xn <;> cases yn <;> simp at hs ⊢ <;> omega
        have hv := val_num (neg := xn) (n := Bg.num a b - Bg.num c d) (by omega) (by have := num_bd ha hb; have := num_bd hc hd; omega)
        have HV := Lib.hid (hv.trans (congrArg Bg.val hN.symm))
        have hcm : ¬ Bg.cmp3 (Bg.num a b) (Bg.num c d) < 0 := by unfold Bg.cmp3; rw [if_neg hlt]; split <;> decide
        have hle : Bg.num c d ≤ Bg.num a b := by omega
        clear hN hv H0 H1 hs hlt
        go_wp2_with (first
          | (go_at_call 13; refine (c_cmp _ _ _ _ hb hd _).mono ?_; rintro e w1 ⟨rfl, rfl⟩))
        go_region_with (first
            | (go_at_call 14; refine (c_minus _ _ _ _ ha hb hc hd hle _).mono ?_; rintro e w1 ⟨rfl, rfl⟩)
            | (go_at_call 15; refine (c_with _ _ _ _).mono ?_; rintro e w1 ⟨rfl, rfl⟩))
        all_goals go_wp2
        all_goals exact bodyPost_ret (v := .tuple #[.agg #[.bool (Bg.sg xn (Bg.hi (Bg.num a b - Bg.num c d)) (Bg.lo (Bg.num a b - Bg.num c d))), .int .u64 (Bg.hi (Bg.num a b - Bg.num c d)), .int .u64 (Bg.lo (Bg.num a b - Bg.num c d))], .int .i64 0]) (by simp [results, Try.results6, go_sem, *]) rfl ⟨congrArg (fun v => Ending.returned (.tuple #[v, .int .i64 0])) HV.out, by ((repeat' (with_reducible first | exact Below.refl _ _ | apply Below.drew | apply Below.setCell | apply Below.alloc | assumption | refine Below.trans ?_ (Below.mono (by assumption) ?_))) <;> (first | (simp; done) | (simp; omega) | omega))⟩

end Go.Proofs.Ytbchcifioddjjaa
