/-
  PLAIN LAWS of slacks and of miles that hang.
-/
import Derived.Test.YtoelajocacpmgaaLawPayP
import Derived.Test.YtoelajocacpmgaaLawInts
namespace Go.Proofs.Ytoelajocacpmgaa
set_option linter.unusedVariables false
set_option linter.unusedSimpArgs false
open Go.RowKit

theorem hangTo_mem {f p : List Int} (n : Int) : ∀ k : Nat, n ∈ hangTo f p k ↔ ∃ j : Nat, j < k ∧ n = (j : Int) ∧ at0 p j < needF f j
  | 0 => by simp [hangTo]
  | k + 1 => by
    have ih := hangTo_mem (f := f) (p := p) n k
    by_cases h : at0 p k < needF f k
    · rw [hangTo_yes h, List.mem_append, ih, List.mem_singleton]
      constructor
      · rintro (⟨j, hj, e, hh⟩ | e)
        · exact ⟨j, by omega, e, hh⟩
        · exact ⟨k, by omega, e, h⟩
      · rintro ⟨j, hj, e, hh⟩
        by_cases hjk : j = k
        · subst hjk; exact .inr e
        · exact .inl ⟨j, by omega, e, hh⟩
    · rw [hangTo_no h, ih]
      constructor
      · rintro ⟨j, hj, e, hh⟩; exact ⟨j, by omega, e, hh⟩
      · rintro ⟨j, hj, e, hh⟩
        by_cases hjk : j = k
        · subst hjk; exact absurd hh h
        · exact ⟨j, by omega, e, hh⟩
theorem hasI_iff {xs : List Int} {n : Int} : hasI xs n = true ↔ n ∈ xs := by
  simp only [hasI, List.any_eq_true, beq_iff_eq]
  constructor
  · rintro ⟨x, hx, rfl⟩; exact hx
  · intro h; exact ⟨n, h, rfl⟩
theorem has_hangs {f p : List Int} (h : payOk f p = true) {i : Nat} (hi : i < p.length) : hasI (hangs f p) (i : Int) = decide (at0 p i < needF f i) := by
  rw [Bool.eq_iff_iff, hasI_iff, hangs_eq h, hangTo_mem, decide_eq_true_eq]
  constructor
  · rintro ⟨j, hj, e, hh⟩
    have : j = i := by omega
    subst this; exact hh
  · intro hh; exact ⟨i, hi, rfl, hh⟩
theorem hangs_some {f p : List Int} (h : payOk f p = true) (h0 : (hangs f p).length = 0) {j : Nat} (hj : j < p.length) : needF f j ≤ at0 p j := by
  by_cases hlt : at0 p j < needF f j
  · have hm : (j : Int) ∈ hangs f p := by rw [hangs_eq h]; exact (hangTo_mem _ _).2 ⟨j, hj, rfl, hlt⟩
    rw [List.length_eq_zero_iff.1 h0] at hm
    cases hm
  · omega
theorem sumN_sub (g h : Nat → Int) : ∀ k : Nat, sumN (fun i => g i - h i) k = sumN g k - sumN h k
  | 0 => rfl
  | k + 1 => by simp only [sumN]; rw [sumN_sub g h k]; omega
theorem payOk_rev {f p : List Int} : payOk f.reverse p.reverse = payOk f p := by
  unfold payOk
  rw [floorOk_rev, allIn_rev, List.length_reverse, List.length_reverse]
theorem slackF_rev {f p : List Int} (h : p.length + 1 = f.length) {i : Nat} (hi : i < p.length) : slackF f.reverse p.reverse i = slackF f p (p.length - 1 - i) := by
  unfold slackF
  rw [at0_rev hi, needF_rev (by omega), show f.length - 2 - i = p.length - 1 - i by omega]
theorem slack_rev {f p : List Int} (h : payOk f p = true) : slack f.reverse p.reverse = slack f p := by
  rw [slack_eq (by rw [payOk_rev]; exact h), slack_eq h, List.length_reverse]
  rw [sumN_congr (fun j hj => slackF_rev (payOk_iff.1 h).2.1 hj)]
  exact sumN_rev p.length (slackF f p)
theorem slack_ge {f p : List Int} (h : payOk f p = true) : 0 ≤ slack f p ∧ slack f p ≤ 1000 := by
  obtain ⟨h1, h2, h3, h4⟩ := payOk_deep h
  rw [slack_eq h]
  have := sumN_bd (f := slackF f p) (lo := 0) (hi := 60) (n := p.length) (fun j hj => slackF_bd h hj) (Nat.le_refl _)
  omega
theorem slack_none {f p : List Int} (h : payOk f p = true) (h0 : (hangs f p).length = 0) : slack f p = sumN (at0 p) p.length - floorLen f 0 ((f.length : Int) - 1) := by
  obtain ⟨h1, h2, h3, h4⟩ := payOk_deep h
  have hl : ((f.length : Int) - 1) = ((p.length : Nat) : Int) := by omega
  rw [slack_eq h, hl, floorLen_zero (payOk_iff.1 h).1 (by omega), ← sumN_sub]
  refine sumN_congr (fun j hj => ?_)
  have := hangs_some h h0 hj
  unfold slackF posI
  split <;> omega
/-- What is missing at a mile. -/
def missF (f p : List Int) (i : Nat) : Int := posI (needF f i - at0 p i)
theorem slack_miss {f p : List Int} (h : payOk f p = true) : slack f p - sumN (missF f p) p.length = sumN (at0 p) p.length - sumN (at0 (needsOf f)) (needsOf f).length := by
  obtain ⟨h1, h2, h3, h4⟩ := payOk_deep h
  have hf := (payOk_iff.1 h).1
  have hl := needsOf_len hf
  rw [slack_eq h, show (needsOf f).length = p.length by omega, ← sumN_sub, ← sumN_sub]
  refine sumN_congr (fun j hj => ?_)
  rw [at0_needsOf hf (by omega)]
  unfold slackF missF posI
  split <;> split <;> omega
theorem missF_bd {f p : List Int} (h : payOk f p = true) {i : Nat} (hi : i < p.length) : 0 ≤ missF f p i ∧ missF f p i ≤ 50 := by
  obtain ⟨h1, h2, h3, h4⟩ := payOk_deep h
  have := needF_bd h1 (i := i) (by omega)
  have := h4 i hi
  exact posI_bd (by omega) (by omega)

/-- One more is paid out at a mile. -/
theorem at0_more {p : List Int} {k j : Nat} (hj : j < p.length) : at0 (p.set k (at0 p k + 1)) j = if k = j then at0 p k + 1 else at0 p j := by
  simp only [at0, List.getElem?_set]
  by_cases h : k = j
  · subst h; simp [hj]
  · simp [h]
theorem more_ok {f p : List Int} {k : Nat} (h : payOk f p = true) (hk : k < p.length) (hle : at0 p k + 1 ≤ 60) : payOk f (p.set k (at0 p k + 1)) = true := by
  obtain ⟨h1, h2, h3, h4⟩ := payOk_deep h
  refine payOk_mk (payOk_iff.1 h).1 (by simpa using h3) (fun j hj => ?_)
  have hj' : j < p.length := by simpa using hj
  rw [at0_more hj']
  have := h4 k hk
  have := h4 j hj'
  split <;> omega
theorem sumN_one {g h : Nat → Int} {k : Nat} (d : Int) (hd : h k = g k + d) (ho : ∀ j, j ≠ k → h j = g j) : ∀ n, k < n → sumN h n = sumN g n + d
  | 0, hk => absurd hk (by omega)
  | n + 1, hk => by
    simp only [sumN]
    by_cases hkn : k = n
    · subst hkn
      rw [sumN_congr (fun j hj => ho j (by omega)), hd]; omega
    · rw [sumN_one d hd ho n (by omega), ho n (by omega)]; omega
theorem slack_more {f p : List Int} {k : Nat} (h : payOk f p = true) (hk : k < p.length) (hle : at0 p k + 1 ≤ 60) : slack f (p.set k (at0 p k + 1)) - slack f p = 0 ∨ slack f (p.set k (at0 p k + 1)) - slack f p = 1 := by
  rw [slack_eq (more_ok h hk hle), slack_eq h, List.length_set]
  have hs : ∀ j, j < p.length → slackF f (p.set k (at0 p k + 1)) j = (if k = j then posI (at0 p k + 1 - needF f k) else slackF f p j) := fun j hj => by
    unfold slackF
    rw [at0_more hj]
    split
    · next e => subst e; rfl
    · rfl
  rw [sumN_congr hs]
  have := sumN_one (g := slackF f p) (h := fun j => if k = j then posI (at0 p k + 1 - needF f k) else slackF f p j) (k := k) (posI (at0 p k + 1 - needF f k) - posI (at0 p k - needF f k)) (by simp [slackF]; omega) (fun j hj => by simp [Ne.symm hj]) p.length hk
  rw [this]
  unfold posI
  split <;> split <;> omega
theorem hangs_more {f p : List Int} {k : Nat} (h : payOk f p = true) (hk : k < p.length) {n : Int} (hn : n ∈ hangs f (p.set k (at0 p k + 1))) : hasI (hangs f p) n = true := by
  rw [hasI_iff, hangs_eq h, hangTo_mem]
  unfold hangs at hn
  split at hn
  · rw [hangTo_mem, List.length_set] at hn
    obtain ⟨j, hj, e, hh⟩ := hn
    refine ⟨j, hj, e, ?_⟩
    rw [at0_more hj] at hh
    split at hh
    · next ee => subst ee; omega
    · exact hh
  · cases hn
end Go.Proofs.Ytoelajocacpmgaa
