/-
  A WORD FOR MEMORY: a cable drawn, and a number.
-/
import Derived.Test.YtglknakgfnoeaaaDrawCable
import Derived.Deep.DeepCutAuto
import Derived.Deep.RegionWith
import Derived.Orders
namespace Go.Proofs.Ytglknakgfnoeaaa
set_option linter.unusedVariables false
set_option linter.unusedSimpArgs false
open Go.RowKit

/-- A new list of sections comes back, and a number. -/
def DrawCI (w : World) (R : Nat) (lo hi : Int) (A : Option Addr) (n cap : Nat) (p : Int) (e : Ending) (w' : World) : Prop :=
  ∃ A' fl k c a p', e = .returned (.tuple #[.slice A' k c, .int .i64 a]) ∧ fl.length = k * 3 ∧ k ≤ c ∧ c ≤ 9223372036854775807 ∧ k ≤ 11 ∧ (lo ≤ a ∧ a ≤ hi) ∧ Fresh w' w.heap.size w'.heap.size A' fl ∧ Rd w' R A n cap p' ∧ p ≤ p' ∧ p' ≤ p + 90 ∧ w.grownBy w' (some R)
theorem three_cell {w : World} {g y : Nat} {a b c : Int} (h : w.heap[g]? = some (.cells #[.int .i64 a, .int .i64 b, .int .i64 c] 3 (0, 0))) (hy : y < 3) : w.cell? ⟨g, y, none⟩ = some (.int .i64 (at0 [a, b, c] y)) := by
  rw [cell_of_row w g y _ _ _ h]
  match y, hy with
  | 0, _ => rfl
  | 1, _ => rfl
  | 2, _ => rfl
theorem three_bd {y : Nat} {a b c lo hi : Int} (hy : y < 3) (ha : lo ≤ a ∧ a ≤ hi) (hb : lo ≤ b ∧ b ≤ hi) (hc : lo ≤ c ∧ c ≤ hi) : lo ≤ at0 [a, b, c] y ∧ at0 [a, b, c] y ≤ hi := by
  match y, hy with
  | 0, _ => exact ha
  | 1, _ => exact hb
  | 2, _ => exact hc
theorem Fresh.carryG {w w' : World} {lo hi R : Nat} {A : Option Addr} {xs : List Int} (h : Fresh w lo hi A xs) (hg : w.grownBy w' (some R)) (hR : R < lo) (hh : hi ≤ w.heap.size) : Fresh w' lo hi A xs := fun hp => by
  obtain ⟨b, off, e, h1, h2, hc⟩ := h hp
  refine ⟨b, off, e, h1, h2, fun j hj => ?_⟩
  have hb := hg.block b (by omega) (fun e => by injection e with e; omega)
  have := hc j hj
  exact ⟨(World.cell?_of_block (a := ⟨b, off + j, none⟩) hb).trans this.1, by have := this.2; simp only [World.frozen?] at this ⊢; rw [hb]; exact this⟩
theorem below_grown {w w' : World} (hb : Below w.heap.size w w') (row : Option Nat) : w.grownBy w' row := ⟨hb.os, hb.tape, hb.output, hb.size, fun j hj _ => hb.block j hj⟩
/-- .. with a reader of its own. -/
def DrawCabI (w : World) (lo hi : Int) (e : Ending) (w' : World) : Prop :=
  ∃ A' c fl k a, e = .returned (.tuple #[.slice A' k c, .int .i64 a]) ∧ fl.length = k * 3 ∧ k ≤ c ∧ c ≤ 9223372036854775807 ∧ k ≤ 11 ∧ (lo ≤ a ∧ a ≤ hi) ∧ Fresh w' w.heap.size w'.heap.size A' fl ∧ Below w.heap.size w w'
def DrawCabII (w : World) (lo hi lo2 hi2 : Int) (e : Ending) (w' : World) : Prop :=
  ∃ A' c fl k a b, e = .returned (.tuple #[.slice A' k c, .int .i64 a, .int .i64 b]) ∧ fl.length = k * 3 ∧ k ≤ c ∧ c ≤ 9223372036854775807 ∧ k ≤ 11 ∧ (lo ≤ a ∧ a ≤ hi ∧ lo2 ≤ b ∧ b ≤ hi2) ∧ Fresh w' w.heap.size w'.heap.size A' fl ∧ Below w.heap.size w w'
theorem Fresh.put {w : World} {lo hi b off j : Nat} {fl : List Int} (h : Fresh w lo hi (some ⟨b, off, none⟩) fl) (hj : j < fl.length) (v : Int) : Fresh (w.setCell ⟨b, off + j, none⟩ (.int .i64 v)) lo hi (some ⟨b, off, none⟩) (fl.set j v) := fun hp => by
  obtain ⟨b', off', e, h1, h2, hc⟩ := h (by simpa using hp)
  cases e
  refine ⟨b, off, rfl, h1, h2, fun i hi => ?_⟩
  have hi' : i < fl.length := by simpa using hi
  obtain ⟨x1, x2⟩ := hc i hi'
  refine ⟨?_, ?_⟩
  · by_cases hij : j = i
    · subst hij
      rw [World.cell?_setCell_same' _ _ _ (by rw [x1]; rfl)]
      simp [at0, hj]
    · rw [World.cell?_setCell_other _ _ _ _ (by simp <;> omega), x1]
      simp [at0, List.getElem?_set, hij]
  · rw [World.frozen?_setCell]; exact x2
theorem grownBy_put (w : World) (b j : Nat) (v : Value) : w.grownBy (w.setCell ⟨b, j, none⟩ v) (some b) := ⟨rfl, rfl, rfl, by simp [World.setCell], fun k hk hne => Below.heap_setCell w ⟨b, j, none⟩ v k (fun e => hne (by rw [e]))⟩
end Go.Proofs.Ytglknakgfnoeaaa
