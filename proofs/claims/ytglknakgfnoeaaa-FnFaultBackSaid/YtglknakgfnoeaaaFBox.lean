/-
  A WORD FOR MEMORY: a fault in its box.
-/
import Derived.Test.YtglknakgfnoeaaaFault
namespace Go.Proofs.Ytglknakgfnoeaaa
set_option linter.unusedVariables false
set_option linter.unusedSimpArgs false
open Go.RowKit

/-- A box of a fault. -/
abbrev FBox (w : World) (g : Nat) (a b : Int) : Prop := w.heap[g]? = some (.cells #[.int .i64 a, .int .i64 b] 32 (0, 0))
theorem FBox.lt {w : World} {g : Nat} {a b : Int} (h : FBox w g a b) : g < w.heap.size := (Array.getElem?_eq_some_iff.1 h).1
theorem FBox.on {w w' : World} {g : Nat} {a b : Int} (h : FBox w g a b) (hb : Below w.heap.size w w') : FBox w' g a b := (hb.block g h.lt).trans h
theorem FBox.grown {w w' : World} {g : Nat} {a b : Int} {row : Option Nat} (h : FBox w g a b) (hg : w.grownBy w' row) (hne : some g ≠ row) : FBox w' g a b := (hg.block g h.lt hne).trans h
theorem FBox.alloc {w : World} {g : Nat} {a b : Int} (h : FBox w g a b) (o : Obj) : FBox (w.alloc o) g a b := (Below.heap_alloc _ _ _ h.lt).trans h
theorem FBox.free {w : World} {g : Nat} {a b : Int} (h : FBox w g a b) : w.frozen? ⟨g, 0, none⟩ = false ∧ w.frozen? ⟨g, 1, none⟩ = false := ⟨by simp [World.frozen?, show w.heap[g]? = _ from h], by simp [World.frozen?, show w.heap[g]? = _ from h]⟩
theorem FBox.cells {w : World} {g : Nat} {a b : Int} (h : FBox w g a b) : w.cell? ⟨g, 0, none⟩ = some (.int .i64 a) ∧ w.cell? ⟨g, 1, none⟩ = some (.int .i64 b) := ⟨cell_of_row _ _ 0 _ _ _ h, cell_of_row _ _ 1 _ _ _ h⟩
theorem FBox.set1 {w : World} {g : Nat} {a b : Int} (h : FBox w g a b) (v : Int) : FBox (w.setCell ⟨g, 1, none⟩ (.int .i64 v)) g a v := by
  have hg : w.heap[g]? = some (.cells #[.int .i64 a, .int .i64 b] 32 (0, 0)) := h
  simp [FBox, World.setCell, Array.getElem?_modify, hg]
theorem FBox.other {w : World} {g : Nat} {a b : Int} (h : FBox w g a b) {g' j : Nat} (hne : g ≠ g') (v : Value) : FBox (w.setCell ⟨g', j, none⟩ v) g a b := (Below.heap_setCell _ ⟨g', j, none⟩ _ g hne).trans h
end Go.Proofs.Ytglknakgfnoeaaa
