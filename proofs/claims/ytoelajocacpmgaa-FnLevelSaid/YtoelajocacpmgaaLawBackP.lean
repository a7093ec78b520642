/-
  PLAIN LAWS of a floor turned; of a list turned.
-/
import Derived.Test.YtoelajocacpmgaaLawNeedsP
import Derived.Test.YtoelajocacpmgaaBackI
namespace Go.Proofs.Ytoelajocacpmgaa
set_option linter.unusedVariables false
set_option linter.unusedSimpArgs false
open Go.RowKit

theorem at0_rev {xs : List Int} {j : Nat} (h : j < xs.length) : at0 xs.reverse j = at0 xs (xs.length - 1 - j) := by
  simp only [at0]; rw [List.getElem?_reverse h]
theorem allIn_rev {xs : List Int} {lo hi : Int} : allIn xs.reverse lo hi = allIn xs lo hi := by simp [allIn]
theorem floorOk_rev {f : List Int} : floorOk f.reverse = floorOk f := by unfold floorOk; rw [allIn_rev, List.length_reverse]
theorem back_eq {f : List Int} (h : floorOk f = true) : back f = f.reverse := by simp [back, h, back_rev]
theorem back_back {f : List Int} (h : floorOk f = true) : back f.reverse = f := by rw [back_eq (by rw [floorOk_rev]; exact h), List.reverse_reverse]
theorem needAt_swap (a b : Int) : needAt a b = needAt b a := by unfold needAt; split <;> split <;> omega
theorem needF_rev {f : List Int} {i : Nat} (h : i < f.length - 1) : needF f.reverse i = needF f (f.length - 2 - i) := by
  unfold needF
  rw [at0_rev (by omega), at0_rev (by omega), needAt_swap]
  congr 2 <;> omega
theorem needs_rev (f : List Int) : needs f.reverse = (needs f).reverse := by
  refine list_eq_of_at0 (by rw [needs_length, List.length_reverse, List.length_reverse, needs_length]) (fun j hj => ?_)
  rw [needs_length, List.length_reverse] at hj
  rw [at0_needs (by rw [List.length_reverse]; exact hj), at0_rev (by rw [needs_length]; exact hj), needs_length, needF_rev hj, at0_needs (by omega)]
  congr 1
theorem needsOf_eq {f : List Int} (h : floorOk f = true) : needsOf f = needs f := by simp [needsOf, h]
theorem sumN_shift (g : Nat → Int) (n : Nat) : sumN g (n + 1) = g 0 + sumN (fun i => g (i + 1)) n := by
  have := sumN_add g 1 n
  rw [Nat.add_comm 1 n] at this
  rw [this]
  simp only [sumN, Int.zero_add]
  congr 1
  exact sumN_congr (fun j _ => by rw [Nat.add_comm])
theorem sumN_rev : ∀ (n : Nat) (g : Nat → Int), sumN (fun i => g (n - 1 - i)) n = sumN g n
  | 0, g => rfl
  | n + 1, g => by
    rw [sumN_shift]
    have ih := sumN_rev n g
    simp only [sumN, Nat.add_sub_cancel, Nat.sub_zero]
    rw [← ih, Int.add_comm]
    congr 1
    exact sumN_congr (fun j hj => by rw [show n - (j + 1) = n - 1 - j by omega])
end Go.Proofs.Ytoelajocacpmgaa
