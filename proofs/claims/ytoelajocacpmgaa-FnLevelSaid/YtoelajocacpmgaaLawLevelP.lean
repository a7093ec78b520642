/-
  PLAIN LAWS of the level.
-/
import Derived.Test.YtoelajocacpmgaaLawSlackP
import Derived.Test.YtoelajocacpmgaaSteep
namespace Go.Proofs.Ytoelajocacpmgaa
set_option linter.unusedVariables false
set_option linter.unusedSimpArgs false
open Go.RowKit

/-- As long a cable for each mile. -/
abbrev alike (f : List Int) (v : Int) (k : Nat) : List Int := upto (fun _ => v) k
theorem level_law {f : List Int} (hf : floorOk f = true) : (10 ≤ level f ∧ level f ≤ 50) ∧ payOk f (alike f (level f) (f.length - 1)) = true ∧ hangs f (alike f (level f) (f.length - 1)) = [] ∧ 0 < (hangs f (alike f (level f - 1) (f.length - 1))).length := by
  have hl := floorOk_len hf
  have hnl : (needs f).length = f.length - 1 := needs_length f
  have hlv : level f = at0 (needs f) (firstMax (needs f)) := by simp [level, hf]
  have ho : firstMax (needs f) < f.length - 1 := by rw [← hnl]; exact firstTo_lt _ _ (by omega)
  obtain ⟨o1, -⟩ := firstTo_spec (needs f) (needs f).length
  have hlv2 : level f = needF f (firstMax (needs f)) := by rw [hlv, at0_needs ho]
  have hb := needF_bd (floorOk_deep hf) (i := firstMax (needs f)) (by omega)
  rw [← hlv2] at hb
  have hge : ∀ j, j < f.length - 1 → needF f j ≤ level f := fun j hj => by
    have h1 := o1 j (by omega)
    rw [at0_needs hj] at h1
    rw [hlv]; exact h1
  refine ⟨hb, payOk_mk hf (by rw [upto_length]; omega) (fun k hk => by rw [upto_length] at hk; rw [at0_upto _ hk]; omega), hangs_none (fun j hj => by rw [upto_length] at hj; rw [at0_upto _ hj]; exact hge j hj), ?_⟩
  have hp : payOk f (alike f (level f - 1) (f.length - 1)) = true := payOk_mk hf (by rw [upto_length]; omega) (fun k hk => by rw [upto_length] at hk; rw [at0_upto _ hk]; omega)
  rcases Nat.eq_zero_or_pos (hangs f (alike f (level f - 1) (f.length - 1))).length with h0 | h0
  · have := hangs_some hp h0 (j := firstMax (needs f)) (by rw [upto_length]; exact ho)
    rw [at0_upto _ ho, ← hlv2] at this
    omega
  · exact h0
end Go.Proofs.Ytoelajocacpmgaa
