/-
  PLAIN LAWS of joined floors.
-/
import Derived.Test.YtoelajocacpmgaaLawPartP
import Derived.Test.YtoelajocacpmgaaSpecJoin
namespace Go.Proofs.Ytoelajocacpmgaa
set_option linter.unusedVariables false
set_option linter.unusedSimpArgs false
open Go.RowKit

theorem joinOk_iff {xs ys : List Int} : joinOk xs ys = true ↔ (floorOk xs = true ∧ floorOk ys = true) ∧ at0 xs (xs.length - 1) = at0 ys 0 ∧ floorOk (xs ++ ys.drop 1) = true := by
  simp [joinOk]
section
variable {xs ys : List Int}
theorem join_eq (h : joinOk xs ys = true) : join xs ys = xs ++ ys.drop 1 := by simp [join, h]
theorem join_len (h : joinOk xs ys = true) : (join xs ys).length = xs.length + (ys.length - 1) := by rw [join_eq h]; simp
theorem at0_join_l (h : joinOk xs ys = true) {j : Nat} (hj : j < xs.length) : at0 (join xs ys) j = at0 xs j := by
  rw [join_eq h]; simp [at0, List.getElem?_append, hj]
theorem at0_join_r (h : joinOk xs ys = true) {j : Nat} : at0 (join xs ys) (xs.length - 1 + j) = at0 ys j := by
  obtain ⟨⟨h1, h2⟩, h3, h4⟩ := joinOk_iff.1 h
  have := floorOk_len h1
  by_cases hj : j = 0
  · subst hj
    rw [Nat.add_zero, at0_join_l h (by omega), h3]
  · rw [join_eq h]
    simp only [at0]
    rw [List.getElem?_append_right (by omega), List.getElem?_drop]
    rw [show 1 + (xs.length - 1 + j - xs.length) = j by omega]
theorem join_law (h : joinOk xs ys = true) : partOk (join xs ys) 0 ((xs.length - 1 : Nat) : Int) = true ∧ partOk (join xs ys) ((xs.length - 1 : Nat) : Int) ((xs.length - 1 + (ys.length - 1) : Nat) : Int) = true ∧
    part (join xs ys) 0 ((xs.length - 1 : Nat) : Int) = xs ∧ part (join xs ys) ((xs.length - 1 : Nat) : Int) ((xs.length - 1 + (ys.length - 1) : Nat) : Int) = ys ∧
    floorLen (join xs ys) 0 ((xs.length - 1 + (ys.length - 1) : Nat) : Int) = floorLen xs 0 ((xs.length - 1 : Nat) : Int) + floorLen ys 0 ((ys.length - 1 : Nat) : Int) := by
  obtain ⟨⟨h1, h2⟩, h3, h4⟩ := joinOk_iff.1 h
  have l1 := floorOk_len h1
  have l2 := floorOk_len h2
  have hl := join_len h
  rw [← join_eq h] at h4
  have p1 : partOk (join xs ys) ((0 : Nat) : Int) ((xs.length - 1 : Nat) : Int) = true := partOk_iff.2 ⟨h4, by omega, by omega, by omega⟩
  have p2 : partOk (join xs ys) ((xs.length - 1 : Nat) : Int) ((xs.length - 1 + (ys.length - 1) : Nat) : Int) = true := partOk_iff.2 ⟨h4, by omega, by omega, by omega⟩
  refine ⟨p1, p2, ?_, ?_, ?_⟩
  · refine list_eq_of_at0 ((part_len p1).trans (by omega)) (fun j hj => ?_)
    have hj' : j < (part (join xs ys) ((0 : Nat) : Int) ((xs.length - 1 : Nat) : Int)).length := hj
    rw [part_len p1] at hj'
    refine (at0_part p1 hj').trans ?_
    rw [Nat.zero_add, at0_join_l h (by omega)]
  · refine list_eq_of_at0 ((part_len p2).trans (by omega)) (fun j hj => ?_)
    rw [part_len p2] at hj
    rw [at0_part p2 hj, at0_join_r h]
  · have q1 := floorLen_split h4 (a := 0) (k := xs.length - 1) (b := xs.length - 1 + (ys.length - 1)) (by omega) (by omega) (by omega)
    rw [show ((0 : Nat) : Int) = 0 from rfl] at q1
    rw [← q1]
    congr 1
    · rw [floorLen_zero h4 (b := xs.length - 1) (by omega), floorLen_zero h1 (b := xs.length - 1) (by omega)]
      refine sumN_congr (fun j hj => ?_)
      unfold needF
      rw [at0_join_l h (by omega), at0_join_l h (by omega)]
    · rw [floorLen_nat h4 (by omega) (by omega), floorLen_zero h2 (b := ys.length - 1) (by omega), show xs.length - 1 + (ys.length - 1) - (xs.length - 1) = ys.length - 1 by omega]
      refine sumN_congr (fun j hj => ?_)
      unfold needF
      rw [Nat.add_assoc, at0_join_r h, at0_join_r h]
end
end Go.Proofs.Ytoelajocacpmgaa
