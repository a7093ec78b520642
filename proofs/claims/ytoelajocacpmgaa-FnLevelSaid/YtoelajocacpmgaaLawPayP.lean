/-
  PLAIN LAWS of pay-outs.
-/
import Derived.Test.YtoelajocacpmgaaLawBackP
import Derived.Test.YtoelajocacpmgaaSlackI
import Derived.Test.YtoelajocacpmgaaHangsI
namespace Go.Proofs.Ytoelajocacpmgaa
set_option linter.unusedVariables false
set_option linter.unusedSimpArgs false
open Go.RowKit

theorem hangTo_none {f p : List Int} : ∀ k : Nat, (∀ j, j < k → ¬ at0 p j < needF f j) → hangTo f p k = []
  | 0, _ => rfl
  | k + 1, h => by rw [hangTo_no (h k (by omega))]; exact hangTo_none k (fun j hj => h j (by omega))
theorem sumN_zero {g : Nat → Int} : ∀ k : Nat, (∀ j, j < k → g j = 0) → sumN g k = 0
  | 0, _ => rfl
  | k + 1, h => by simp only [sumN]; rw [h k (by omega), sumN_zero k (fun j hj => h j (by omega))]; rfl
theorem hangs_eq {f p : List Int} (h : payOk f p = true) : hangs f p = hangTo f p p.length := by simp [hangs, h]
theorem slack_eq {f p : List Int} (h : payOk f p = true) : slack f p = sumN (slackF f p) p.length := by simp [slack, h]
theorem payOk_mk {f p : List Int} (hf : floorOk f = true) (hl : p.length + 1 = f.length) (h : ∀ k, k < p.length → 0 ≤ at0 p k ∧ at0 p k ≤ 60) : payOk f p = true :=
  payOk_iff.2 ⟨hf, hl, allIn_true (fun k hk => inB_yes (h k hk).1 (h k hk).2)⟩
/-- A pay-out that has nowhere less than is needed hangs nowhere. -/
theorem hangs_none {f p : List Int} (h : ∀ j, j < p.length → needF f j ≤ at0 p j) : hangs f p = [] := by
  unfold hangs; split
  · exact hangTo_none _ (fun j hj => by have := h j hj; omega)
  · rfl
theorem needsOf_len {f : List Int} (hf : floorOk f = true) : (needsOf f).length = f.length - 1 := by rw [needsOf_eq hf, needs_length]
theorem at0_needsOf {f : List Int} (hf : floorOk f = true) {j : Nat} (hj : j < f.length - 1) : at0 (needsOf f) j = needF f j := by rw [needsOf_eq hf]; exact at0_needs hj
theorem needs_law {f : List Int} (hf : floorOk f = true) : (∀ k, k < (needsOf f).length → 10 ≤ at0 (needsOf f) k ∧ at0 (needsOf f) k ≤ 50) ∧ payOk f (needsOf f) = true ∧ hangs f (needsOf f) = [] ∧ slack f (needsOf f) = 0 ∧
    sumN (at0 (needsOf f)) (needsOf f).length = floorLen f 0 ((f.length : Int) - 1) := by
  have hl := needsOf_len hf
  have hlf := floorOk_len hf
  have hv : ∀ k, k < (needsOf f).length → 10 ≤ at0 (needsOf f) k ∧ at0 (needsOf f) k ≤ 50 := fun k hk => by
    rw [at0_needsOf hf (by omega)]; exact needF_bd (floorOk_deep hf) (by omega)
  have hp : payOk f (needsOf f) = true := payOk_mk hf (by omega) (fun k hk => by have := hv k hk; omega)
  refine ⟨hv, hp, hangs_none (fun j hj => by rw [at0_needsOf hf (by omega)]; exact Int.le_refl _), ?_, ?_⟩
  · rw [slack_eq hp]
    refine sumN_zero _ (fun j hj => ?_)
    unfold slackF
    rw [at0_needsOf hf (by omega)]
    exact posI_neg (by omega)
  · rw [needsOf_eq hf, sum_needs hf]
    congr 1
    omega
end Go.Proofs.Ytoelajocacpmgaa
