/-
  PLAIN LEAN, no program in sight: the miles at which a cable can be broken.
-/
import Derived.Test.YtglknakgfnoeaaaCableOhms
namespace Go.Proofs.Ytglknakgfnoeaaa
set_option linter.unusedVariables false
set_option linter.unusedSimpArgs false
open Go.RowKit

/-- A mile can be the break. -/
def brHit (fl : List Int) (n : Nat) (x e : Int) (j : Nat) : Bool := decide (ohms fl n (j : Int) ≤ x) && decide (x ≤ ohms fl n (j : Int) + e)
/-- The least and the greatest of the first miles at which it can be. -/
def brS (fl : List Int) (n : Nat) (x e : Int) : Nat → Int × Int
  | 0 => (-1, -1)
  | k + 1 => if brHit fl n x e k = true then (if (brS fl n x e k).1 < 0 then (k : Int) else (brS fl n x e k).1, (k : Int)) else brS fl n x e k
/-- All miles. -/
def brAll (fl : List Int) (n : Nat) (x e : Int) : Int × Int := brS fl n x e ((miles fl n).toNat + 1)
/-- What is asked ahead of the search. -/
def brAsk (fl : List Int) (n : Nat) (x e : Int) : Bool := cableOk fl n && (decide (0 ≤ x) && inB e 0 1000)
def brOk (fl : List Int) (n : Nat) (x e : Int) : Bool := brAsk fl n x e && decide (0 ≤ (brAll fl n x e).1)
def brLo (fl : List Int) (n : Nat) (x e : Int) : Int := if brOk fl n x e = true then (brAll fl n x e).1 else 0
def brHi (fl : List Int) (n : Nat) (x e : Int) : Int := if brOk fl n x e = true then (brAll fl n x e).2 else 0
section
variable {fl : List Int} {n : Nat} {x e : Int}
theorem brS_bd : ∀ k : Nat, (-1 ≤ (brS fl n x e k).1 ∧ (brS fl n x e k).1 < k) ∧ (-1 ≤ (brS fl n x e k).2 ∧ (brS fl n x e k).2 < k)
  | 0 => by simp [brS]
  | k + 1 => by
    have ih := brS_bd k
    simp only [brS]
    split
    · refine ⟨?_, by constructor <;> simp <;> omega⟩
      split <;> constructor <;> (simp; try omega)
    · omega
theorem brS_hit {k : Nat} (h : brHit fl n x e k = true) (h0 : (brS fl n x e k).1 < 0) : brS fl n x e (k + 1) = ((k : Int), (k : Int)) := by simp [brS, h, h0]
theorem brS_hit' {k : Nat} (h : brHit fl n x e k = true) (h0 : ¬ (brS fl n x e k).1 < 0) : brS fl n x e (k + 1) = ((brS fl n x e k).1, (k : Int)) := by simp [brS, h, h0]
theorem brS_no {k : Nat} (h : brHit fl n x e k = false) : brS fl n x e (k + 1) = brS fl n x e k := by simp [brS, h]
end
end Go.Proofs.Ytglknakgfnoeaaa
