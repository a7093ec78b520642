/-
  A WORD FOR MEMORY: what a reader of its own leaves as it was.
-/
import Derived.Test.YtglknakgfnoeaaaDoorDraw
namespace Go.Proofs.YtglknakgfnoeaaaDoor
set_option linter.unusedVariables false
set_option linter.unusedSimpArgs false
open Go.RowKit

theorem Byts.grown {w w' : World} {R : Nat} {A : Option Addr} {bs : List Int} (h : Byts w R A bs) (hg : w.grownBy w' (some R)) (hR : R < w.heap.size) : Byts w' R A bs := ⟨h.1, fun hp => by
  obtain ⟨b, off, e, hlt, hc⟩ := h.2 hp
  exact ⟨b, off, e, hlt, fun j hj => (World.cell?_of_block (a := ⟨b, off + j, none⟩) (hg.block b (by omega) (fun e => by injection e with e; omega))).trans (hc j hj)⟩⟩
theorem grown_step {w a b : World} {R : Nat} {row : Option Nat} (h1 : w.grownBy a (some R)) (h2 : a.grownBy b row) (hr : ∀ g, row = some g → g = R ∨ w.heap.size ≤ g) : w.grownBy b (some R) :=
  ⟨h2.os.trans h1.os, h2.tape.trans h1.tape, h2.output.trans h1.output, Nat.le_trans h1.size h2.size, fun k hk hne => (h2.block k (Nat.lt_of_lt_of_le hk h1.size) (fun e => by
    rcases hr k e.symm with h | h
    · exact hne (by rw [h])
    · omega)).trans (h1.block k hk hne)⟩
theorem grown_two {w a b : World} {row : Option Nat} (h1 : w.grownBy a row) (h2 : a.grownBy b row) : w.grownBy b row :=
  ⟨h2.os.trans h1.os, h2.tape.trans h1.tape, h2.output.trans h1.output, Nat.le_trans h1.size h2.size, fun k hk hne => (h2.block k (Nat.lt_of_lt_of_le hk h1.size) hne).trans (h1.block k hk hne)⟩
theorem grown_alloc (w : World) (o : Obj) (row : Option Nat) : w.grownBy (w.alloc o) row := ⟨rfl, rfl, rfl, by simp, fun k hk _ => Below.heap_alloc w o k hk⟩
theorem ownsRow_put (w w' : World) {R : Nat} {e : TypeId} {base size n : Nat} {v : Value} {xs : List Value} (h : w.ownsRow base e size v n xs) (hg : w.grownBy w' (some R)) (hR : R < base) : w'.ownsRow base e size v n xs :=
  h.kept hg (.inr (fun e => by have := (h.lt R e).1; omega))

end Go.Proofs.YtglknakgfnoeaaaDoor
