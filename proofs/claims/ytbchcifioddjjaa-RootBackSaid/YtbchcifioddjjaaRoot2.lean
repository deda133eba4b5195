/-
  Contracts of root.Third and root.Half at a number whose whole root is known, for every world.
-/
import Derived.Test.YtbchcifioddjjaaRoot
namespace Go.Proofs.Ytbchcifioddjjaa
open Go.RowKit Go.Shelf

theorem long_bd {hi lo : Int} (h1 : Word hi) (h2 : Word lo) : 0 ≤ Bg.long hi lo ∧ Bg.long hi lo ≤ 128 ∧ (Bg.num hi lo).toNat < 2 ^ (Bg.long hi lo).toNat := by
  obtain ⟨a1, a2, a3⟩ := len_bd h1
  obtain ⟨b1, b2, b3⟩ := len_bd h2
  obtain ⟨c1, c2⟩ := h1
  obtain ⟨d1, d2⟩ := h2
  unfold Bg.long
  split
  · rename_i hh
    refine ⟨by omega, by omega, ?_⟩
    have e : (64 + Bg.len hi).toNat = (Bg.len hi).toNat + 64 := by omega
    rw [e, Nat.pow_add]
    have h3 : hi < ((2 ^ (Bg.len hi).toNat : Nat) : Int) := by rw [Int.natCast_pow]; exact a3
    unfold Bg.num
    generalize 2 ^ (Bg.len hi).toNat = p at *
    omega
  · rename_i hh
    refine ⟨by omega, by omega, ?_⟩
    have h3 : lo < ((2 ^ (Bg.len lo).toNat : Nat) : Int) := by rw [Int.natCast_pow]; exact b3
    unfold Bg.num
    generalize 2 ^ (Bg.len lo).toNat = p at *
    omega
theorem c_greatest' (many : Int) (h0 : 0 ≤ many) (h64 : many ≤ 64) (g : FuncId) (lb : Array Value) (right : Nat → Bool) (w : World) (eg : Enters Try.prog g) (hR : Rights g lb right w) :
    Calls Try.prog 19 #[.int .i64 many, .func (.func g) #[] lb] w fun e w' => e = .returned (.int .u64 (greatest right many.toNat 0 (2 ^ many.toNat - 1) : Nat)) ∧ Below w.heap.size w w' := by
  obtain ⟨m, rfl⟩ := Int.eq_ofNat_of_zero_le h0
  rw [Int.toNat_natCast]
  exact c_greatest m (by omega) g lb right w eg hR
theorem num_lt {hi lo : Int} (h1 : Word hi) (h2 : Word lo) : (Bg.num hi lo).toNat < 2 ^ 128 := by
  have := num_bd h1 h2
  unfold Bg.top at this
  omega
set_option maxHeartbeats 800000 in
theorem c_Third (neg : Bool) (hi lo : Int) (h1 : Word hi) (h2 : Word lo) (w : World) :
    Calls Try.prog 9 #[.agg #[.bool neg, .int .u64 hi, .int .u64 lo]] w fun e w' => e = .returned (.int .u64 (croot (Bg.num hi lo).toNat : Nat)) ∧ Below w.heap.size w w' := by
  obtain ⟨l0, l1, l2⟩ := long_bd h1 h2
  have hfin : greatest (thirdR (Bg.num hi lo).toNat) ((Bg.long hi lo + 2) / 3).toNat 0 (2 ^ ((Bg.long hi lo + 2) / 3).toNat - 1) = croot (Bg.num hi lo).toNat :=
    third_croot (num_lt h1 h2) (Nat.lt_of_lt_of_le l2 (Nat.pow_le_pow_right (by decide) (by omega)))
  rw [← hfin]
  clear hfin l2
  have hmf : ∀ (fn : Fn) (first cap : Array Value) (w : World), (Instr.makeFunc fn first cap).run Try.prog w = .ok (.func fn first cap) w := fun _ _ _ _ => rfl
  go_enter Try.func9, Try.ntmps9
  go_wp2_with (first
    | (go_at_call 18; refine (c_long _ _ _ h1 h2 _).mono ?_; rintro e w1 ⟨rfl, rfl⟩)
    | (go_at_call 19; refine (c_greatest' _ (by omega) (by omega) _ _ _ _ (enters_of Try.func20 (by kernel_rfl) rfl) (c_third1 hi lo h1 h2 w.heap.size _ (blk_old (blk_new _ _ rfl)))).mono ?_; rintro e w2 ⟨rfl, hb2⟩))
  go_ret
  exact ⟨rfl, by ((repeat' (with_reducible first | exact Below.refl _ _ | apply Below.drew | apply Below.setCell | apply Below.alloc | assumption | refine Below.trans ?_ (Below.mono (by assumption) ?_))) <;> (first | (simp; done) | (simp; omega) | omega))⟩
set_option maxHeartbeats 800000 in
theorem c_Half (neg : Bool) (hi lo : Int) (h1 : Word hi) (h2 : Word lo) (w : World) :
    Calls Try.prog 10 #[.agg #[.bool neg, .int .u64 hi, .int .u64 lo]] w fun e w' => e = .returned (.int .u64 (sroot (Bg.num hi lo).toNat : Nat)) ∧ Below w.heap.size w w' := by
  obtain ⟨l0, l1, l2⟩ := long_bd h1 h2
  have hfin : greatest (halfR (Bg.num hi lo).toNat) ((Bg.long hi lo + 1) / 2).toNat 0 (2 ^ ((Bg.long hi lo + 1) / 2).toNat - 1) = sroot (Bg.num hi lo).toNat :=
    half_sroot (num_lt h1 h2) (Nat.lt_of_lt_of_le l2 (Nat.pow_le_pow_right (by decide) (by omega)))
  rw [← hfin]
  clear hfin l2
  have hmf : ∀ (fn : Fn) (first cap : Array Value) (w : World), (Instr.makeFunc fn first cap).run Try.prog w = .ok (.func fn first cap) w := fun _ _ _ _ => rfl
  go_enter Try.func10, Try.ntmps10
  go_wp2_with (first
    | (go_at_call 18; refine (c_long _ _ _ h1 h2 _).mono ?_; rintro e w1 ⟨rfl, rfl⟩)
    | (go_at_call 19; refine (c_greatest' _ (by omega) (by omega) _ _ _ _ (enters_of Try.func22 (by kernel_rfl) rfl) (c_half1 hi lo h1 h2 w.heap.size _ (blk_old (blk_new _ _ rfl)))).mono ?_; rintro e w2 ⟨rfl, hb2⟩))
  go_ret
  exact ⟨rfl, by ((repeat' (with_reducible first | exact Below.refl _ _ | apply Below.drew | apply Below.setCell | apply Below.alloc | assumption | refine Below.trans ?_ (Below.mono (by assumption) ?_))) <;> (first | (simp; done) | (simp; omega) | omega))⟩

end Go.Proofs.Ytbchcifioddjjaa
