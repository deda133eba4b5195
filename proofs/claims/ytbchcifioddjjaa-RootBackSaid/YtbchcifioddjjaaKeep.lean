/-
  Small lemmas on the blocks and cells of a world behind calls that only make memory.
-/
import Derived.Below
import Derived.WalkSpells
import Derived.WalkKit
namespace Go.Proofs.Ytbchcifioddjjaa
open Go.RowKit

theorem ret_int {k : IntKind} {a b : Int} (h : a = b) : Ending.returned (.int k a) = .returned (.int k b) := by rw [h]
/-! small laws: what is held of a world stays. -/
theorem kp_alloc {w : World} {p : Addr} {v : Value} (h : w.cell? p = some v) (o : Obj) : (w.alloc o).cell? p = some v :=
  cell_later ((Below.refl _ _).alloc (Nat.le_refl _) o) h
theorem kp_drew {w : World} {p : Addr} {v : Value} (h : w.cell? p = some v) : w.drew.cell? p = some v := h
theorem kp_set {w : World} {p q : Addr} {v u : Value} (h : w.cell? p = some v) (hne : q.block ≠ p.block) : (w.setCell q u).cell? p = some v :=
  (World.cell?_of_block (w := w) (Below.heap_setCell w q u p.block (Ne.symm hne))).trans h
theorem kp_same {w : World} {p : Addr} {v u : Value} (h : w.cell? p = some v) : (w.setCell p u).cell? p = some u := by
  have := World.cell?_setCell_same' w p u (by rw [h]; rfl)
  exact this
theorem kp_off {w : World} {b i j : Nat} {v u : Value} (h : w.cell? ⟨b, i, none⟩ = some v) (hne : j ≠ i) : (w.setCell ⟨b, j, none⟩ u).cell? ⟨b, i, none⟩ = some v := by
  rw [World.cell?_setCell_other _ _ _ _ (by intro e; cases e; exact hne rfl)]; exact h
/-- a cell of a world that has grown. -/
theorem bcell {W w1 : World} (hb : Below W.heap.size W w1) : (∀ b o, b < W.heap.size → w1.cell? ⟨b, o, none⟩ = W.cell? ⟨b, o, none⟩) ∧ (∀ b o, b < W.heap.size → w1.frozen? ⟨b, o, none⟩ = W.frozen? ⟨b, o, none⟩) :=
  ⟨fun b o h => hb.cell (p := ⟨b, o, none⟩) h, fun b o h => hb.frozen (p := ⟨b, o, none⟩) h⟩
/-- a block lies below a world that has grown: in the forms in which the walk asks it. -/
theorem low {n s : Nat} (h : n < s) : n < s ∧ n < s + 1 ∧ n < s + 1 + 1 ∧ n < s + 1 + 1 + 1 ∧ n < s + 1 + 1 + 1 + 1 ∧ n < s + 1 + 1 + 1 + 1 + 1 ∧ n < s + 1 + 1 + 1 + 1 + 1 + 1 ∧ n < s + 1 + 1 + 1 + 1 + 1 + 1 + 1 ∧ n < s + 1 + 1 + 1 + 1 + 1 + 1 + 1 + 1 ∧ n < s + 1 + 1 + 1 + 1 + 1 + 1 + 1 + 1 + 1 ∧ n < s + 1 + 1 + 1 + 1 + 1 + 1 + 1 + 1 + 1 + 1 ∧ n < s + 1 + 1 + 1 + 1 + 1 + 1 + 1 + 1 + 1 + 1 + 1 ∧ n < s + 1 + 1 + 1 + 1 + 1 + 1 + 1 + 1 + 1 + 1 + 1 + 1 ∧ n < s + 1 + 1 + 1 + 1 + 1 + 1 + 1 + 1 + 1 + 1 + 1 + 1 + 1 ∧ n < s + 1 + 1 + 1 + 1 + 1 + 1 + 1 + 1 + 1 + 1 + 1 + 1 + 1 + 1 ∧ n < s + 1 + 1 + 1 + 1 + 1 + 1 + 1 + 1 + 1 + 1 + 1 + 1 + 1 + 1 + 1 ∧ n < s + 1 + 1 + 1 + 1 + 1 + 1 + 1 + 1 + 1 + 1 + 1 + 1 + 1 + 1 + 1 + 1 := by
  refine ⟨?_, ?_, ?_, ?_, ?_, ?_, ?_, ?_, ?_, ?_, ?_, ?_, ?_, ?_, ?_, ?_, ?_⟩ <;> omega
/-! a block known whole. -/
theorem blk_cell {w : World} {b : Nat} {cs : Array Value} {t : TypeId} {v : Value} (h : w.heap[b]? = some (.cells cs t (0, 0))) (i : Nat) (hi : cs[i]? = some v) : w.cell? ⟨b, i, none⟩ = some v := by
  simp [World.cell?, h, hi]
theorem blk_frozen {w : World} {b : Nat} {cs : Array Value} {t : TypeId} (h : w.heap[b]? = some (.cells cs t (0, 0))) (i : Nat) : w.frozen? ⟨b, i, none⟩ = false := by
  simp [World.frozen?, h]
theorem blk_new (w : World) (o : Obj) {n : Nat} (h : n = w.heap.size) : (w.alloc o).heap[n]? = some o := by subst h; exact heap_alloc_new w o
theorem blk_old {w : World} {o : Obj} {n : Nat} {x : Obj} (h : w.heap[n]? = some x) : (w.alloc o).heap[n]? = some x := by
  rw [Below.heap_alloc _ _ _ (Array.getElem?_eq_some_iff.1 h).1]; exact h
theorem blk_set {w : World} {b : Nat} {cs : Array Value} {t : TypeId} (h : w.heap[b]? = some (.cells cs t (0, 0))) (i : Nat) (v : Value) : (w.setCell ⟨b, i, none⟩ v).heap[b]? = some (.cells (cs.setIfInBounds i v) t (0, 0)) := by
  obtain ⟨hb, he⟩ := Array.getElem?_eq_some_iff.1 h
  simp [World.setCell, Array.getElem_modify, hb, he]
theorem blk_set_ne {w : World} {b : Nat} {x : Obj} (h : w.heap[b]? = some x) (p : Addr) (v : Value) (hp : p.block ≠ b) : (w.setCell p v).heap[b]? = some x := by
  rw [Below.heap_setCell w p v b (Ne.symm hp)]; exact h
end Go.Proofs.Ytbchcifioddjjaa
