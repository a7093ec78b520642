/-
  WORDS FOR MEMORY: marks on a list; a list that has been marked. Of no program.
-/
import Derived.Test.YtlhmpecoboeoaaaDoorBase
import Derived.Test.YtlhmpecoboeoaaaDoorPlain
namespace Go.Proofs.YtlhmpecoboeoaaaDoor
set_option linter.unusedVariables false
set_option linter.unusedSimpArgs false
open Go.RowKit

/-- The marks from k on. -/
def marks (k : Int) (n : Nat) : List Int := upto (fun j => k + (j : Int)) n
theorem marks_length (k : Int) (n : Nat) : (marks k n).length = n := upto_length _ _
theorem at0_marks (k : Int) {n j : Nat} (h : j < n) : at0 (marks k n) j = k + (j : Int) := at0_upto _ h

/-- A list has been marked: its cells hold the marks; nothing else has turned. -/
def Marked (w : World) (lo hi : Nat) (A : Option Addr) (k : Int) (n : Nat) (e : Ending) (w' : World) : Prop :=
  e = .returned (.int .i64 (k + (n : Int))) ∧ Fresh w' lo hi A (marks k n) ∧ w'.heap.size = w.heap.size ∧ ∃ row, w.grownBy w' row ∧ ∀ g, row = some g → lo ≤ g ∧ g < hi

/-- What lies below a marked list, or beyond it, is as it was. -/
theorem Ints.marked {w w' : World} {lo hi : Nat} {A B : Option Addr} {k : Int} {n : Nat} {e : Ending} {ys : List Int} (hm : Marked w lo hi B k n e w') {l h : Nat} (hf : Fresh w l h A ys) (hh : h ≤ w.heap.size) (hd : h ≤ lo ∨ hi ≤ l) : Fresh w' l h A ys := fun hp => by
  obtain ⟨b, off, e1, h1, h2, hc⟩ := hf hp
  obtain ⟨_, _, _, row, hg, hr⟩ := hm
  have hb : w'.heap[b]? = w.heap[b]? := hg.block b (by omega) (fun e => by have := hr _ e.symm; omega)
  exact ⟨b, off, e1, h1, h2, fun j hj => ⟨(World.cell?_of_block (a := ⟨b, off + j, none⟩) hb).trans (hc j hj).1, (World.frozen?_of_block (a := ⟨b, off + j, none⟩) hb).trans (hc j hj).2⟩⟩
theorem Marked.below {w w' : World} {B lo hi : Nat} {A : Option Addr} {k : Int} {n : Nat} {e : Ending} (hm : Marked w lo hi A k n e w') (hB : B ≤ lo) (hBw : B ≤ w.heap.size) : Below B w w' := by
  obtain ⟨_, _, _, row, hg, hr⟩ := hm
  exact (Below.refl B w).grown hg hBw (fun g e => by have := hr g e; omega)
end Go.Proofs.YtlhmpecoboeoaaaDoor
