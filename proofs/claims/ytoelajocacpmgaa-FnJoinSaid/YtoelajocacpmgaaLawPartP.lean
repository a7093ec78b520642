/-
  PLAIN LAWS of a floor's part.
-/
import Derived.Test.YtoelajocacpmgaaLawNeedsP
import Derived.Test.YtoelajocacpmgaaPartI
namespace Go.Proofs.Ytoelajocacpmgaa
set_option linter.unusedVariables false
set_option linter.unusedSimpArgs false
open Go.RowKit

theorem partOk_iff {f : List Int} {a b : Int} : partOk f a b = true ↔ floorOk f = true ∧ 0 ≤ a ∧ a < b ∧ b < (f.length : Int) := by
  simp only [partOk, Bool.and_eq_true, ptsOk_iff, Bool.not_eq_true', beq_eq_false_iff_ne]
  constructor
  · rintro ⟨⟨h1, h2, h3, h4⟩, h5⟩; exact ⟨h1, h2, by omega, h4⟩
  · rintro ⟨h1, h2, h3, h4⟩; exact ⟨⟨h1, h2, by omega, h4⟩, by omega⟩
section
variable {f : List Int} {a b : Nat}
theorem part_nat (h : partOk f (a : Int) (b : Int) = true) : part f a b = (f.drop a).take (b + 1 - a) := by simp [part, h]
theorem part_len (h : partOk f (a : Int) (b : Int) = true) : (part f a b).length = b + 1 - a := by
  obtain ⟨_, _, _, h4⟩ := partOk_iff.1 h
  rw [part_nat h]; simp; omega
theorem at0_part (h : partOk f (a : Int) (b : Int) = true) {j : Nat} (hj : j < b + 1 - a) : at0 (part f a b) j = at0 f (a + j) := by
  rw [part_nat h]; simp [at0, hj]
theorem floorOk_part (h : partOk f (a : Int) (b : Int) = true) : floorOk (part f a b) = true := by
  obtain ⟨h1, h2, h3, h4⟩ := partOk_iff.1 h
  have := floorOk_len h1
  have hl := part_len h
  refine floorOk_iff.2 ⟨⟨by omega, by omega⟩, allIn_true (fun k hk => ?_)⟩
  rw [at0_part h (by omega)]
  have := floorOk_get h1 (k := a + k) (by omega)
  exact inB_yes this.1 this.2
/-- A part of a part is a part; and its miles need as much. -/
theorem part_law (h : partOk f (a : Int) (b : Int) = true) {k : Nat} (h1 : 1 ≤ k) (h2 : k ≤ b - a) :
    partOk (part f a b) 0 (k : Int) = true ∧ partOk f (a : Int) ((a + k : Nat) : Int) = true ∧ part (part f a b) 0 (k : Int) = part f (a : Int) ((a + k : Nat) : Int) := by
  obtain ⟨g1, g2, g3, g4⟩ := partOk_iff.1 h
  have hl := part_len h
  have p1 : partOk (part f a b) ((0 : Nat) : Int) (k : Int) = true := partOk_iff.2 ⟨floorOk_part h, by omega, by omega, by omega⟩
  have p2 : partOk f (a : Int) ((a + k : Nat) : Int) = true := partOk_iff.2 ⟨g1, by omega, by omega, by omega⟩
  refine ⟨p1, p2, list_eq_of_at0 (by rw [show (0 : Int) = ((0 : Nat) : Int) from rfl, part_len p1, part_len p2]; omega) (fun j hj => ?_)⟩
  rw [show (0 : Int) = ((0 : Nat) : Int) from rfl] at hj ⊢
  rw [part_len p1] at hj
  rw [at0_part p1 hj, at0_part h (by omega), at0_part p2 (by omega), Nat.zero_add]
theorem floorLen_part (h : partOk f (a : Int) (b : Int) = true) : floorLen (part f a b) 0 ((b - a : Nat) : Int) = floorLen f a b := by
  obtain ⟨g1, g2, g3, g4⟩ := partOk_iff.1 h
  have hl := part_len h
  rw [floorLen_zero (floorOk_part h) (by omega), floorLen_nat g1 (by omega) (by omega)]
  refine sumN_congr (fun j hj => ?_)
  unfold needF
  rw [at0_part h (by omega), at0_part h (by omega), Nat.add_assoc]
end
end Go.Proofs.Ytoelajocacpmgaa
