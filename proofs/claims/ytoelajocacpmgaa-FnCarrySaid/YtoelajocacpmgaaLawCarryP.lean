/-
  PLAIN LAWS of what is paid out.
-/
import Derived.Test.YtoelajocacpmgaaLawSlackP
import Derived.Test.YtoelajocacpmgaaReachI
namespace Go.Proofs.Ytoelajocacpmgaa
set_option linter.unusedVariables false
set_option linter.unusedSimpArgs false
open Go.RowKit

/-- What the first miles need together. -/
abbrev need1 (f : List Int) (k : Nat) : Int := sumN (needF f) k
section
variable {f : List Int} {a : Int}
theorem need1_lt (hd : Deep f) {k : Nat} (hk : k + 1 < f.length) : need1 f k + 10 ≤ need1 f (k + 1) := by
  have := needF_bd hd (i := k) hk
  show sumN (needF f) k + 10 ≤ sumN (needF f) k + needF f k
  omega
theorem need1_mono (hd : Deep f) {j : Nat} : ∀ k : Nat, j ≤ k → k < f.length → need1 f j ≤ need1 f k
  | 0, h, _ => by rw [show j = 0 by omega]; exact Int.le_refl _
  | k + 1, h, hk => by
    by_cases hj : j = k + 1
    · rw [hj]; exact Int.le_refl _
    · have := need1_mono hd (j := j) k (by omega) (by omega)
      have := need1_lt hd hk
      omega
theorem need1_ge (hd : Deep f) : ∀ k : Nat, k < f.length → 0 ≤ need1 f k := fun k hk => need1_mono hd (j := 0) k (Nat.zero_le _) hk
/-- What is left behind some miles: all the rest, or nothing. -/
theorem left_eq (hd : Deep f) (h0 : 0 ≤ a) : ∀ k : Nat, k < f.length → leftF f a k = if need1 f k ≤ a then a - need1 f k else 0
  | 0, _ => by
    show a = if (0 : Int) ≤ a then a - 0 else 0
    rw [if_pos h0]; omega
  | k + 1, hk => by
    have ih := left_eq hd h0 k (by omega)
    have hlt := need1_lt hd hk
    have hs : need1 f (k + 1) = need1 f k + needF f k := rfl
    rw [leftF_succ]
    unfold carryF least
    rw [ih]
    split <;> split <;> split <;> omega
theorem carry_hang (hd : Deep f) (h0 : 0 ≤ a) {k : Nat} (hk : k + 1 < f.length) : carryF f a k < needF f k ↔ a < need1 f (k + 1) := by
  have hl := left_eq hd h0 k (by omega)
  have hb := needF_bd hd (i := k) hk
  have hs : need1 f (k + 1) = need1 f k + needF f k := rfl
  unfold carryF least
  rw [hl]
  split <;> split <;> omega
theorem carry_sum (hd : Deep f) : ∀ k : Nat, sumN (carryF f a) k = a - leftF f a k
  | 0 => by show (0 : Int) = a - a; omega
  | k + 1 => by
    simp only [sumN]
    rw [carry_sum hd k, leftF_succ]; omega
theorem at0_carry (h : carryOk f a = true) {j : Nat} (hj : j < f.length - 1) : at0 (carry f a) j = carryF f a j := by rw [carry_eq h]; exact at0_upto _ hj
theorem carry_len (h : carryOk f a = true) : (carry f a).length = f.length - 1 := by rw [carry_eq h, upto_length]
/-- The list of the numbers from a to b. -/
theorem hangTo_from (hd : Deep f) (h0 : 0 ≤ a) {p : List Int} (hp : ∀ j, j < f.length - 1 → at0 p j = carryF f a j) : ∀ k : Nat, k ≤ f.length - 1 →
    ∃ r : Nat, r ≤ k ∧ need1 f r ≤ a ∧ (r < k → a < need1 f (r + 1)) ∧ hangTo f p k = upto (fun i => ((r + i : Nat) : Int)) (k - r)
  | 0, _ => ⟨0, Nat.le_refl _, by show (0 : Int) ≤ a; exact h0, fun h => absurd h (by omega), rfl⟩
  | k + 1, hk => by
    obtain ⟨r, hr, h1, h2, h3⟩ := hangTo_from hd h0 hp k (by omega)
    have hpk := hp k (by omega)
    have hc := carry_hang (a := a) hd h0 (k := k) (by omega)
    by_cases hh : a < need1 f (k + 1)
    · refine ⟨r, by omega, h1, fun _ => ?_, ?_⟩
      · by_cases hrk : r < k
        · exact h2 hrk
        · rw [show r = k by omega]; exact hh
      · rw [hangTo_yes (by rw [hpk]; exact hc.2 hh), h3, show k + 1 - r = k - r + 1 by omega, upto_succ]
        congr 2
        omega
    · have hno : ¬ at0 p k < needF f k := by rw [hpk]; exact fun x => hh (hc.1 x)
      have hrk : r = k := by
        rcases Nat.lt_or_ge r k with hlt | hge
        · have := h2 hlt
          have := need1_mono hd (j := r + 1) (k + 1) (by omega) (by omega)
          omega
        · omega
      refine ⟨k + 1, Nat.le_refl _, by omega, fun h => absurd h (by omega), ?_⟩
      rw [hangTo_no hno, h3, hrk, Nat.sub_self, Nat.sub_self]; rfl
end

/-- What hangs behind a pay-out: the last miles, one behind the other. -/
theorem carry_law {f : List Int} {a : Int} (h : carryOk f a = true) : ∃ r : Nat, r ≤ f.length - 1 ∧ need1 f r ≤ a ∧ (r < f.length - 1 → a < need1 f (r + 1)) ∧ hangs f (carry f a) = upto (fun i => ((r + i : Nat) : Int)) (f.length - 1 - r) ∧ reach f a = (r : Int) := by
  obtain ⟨h1, h2⟩ := carryOk_iff.1 h
  obtain ⟨a0, a1⟩ := inB_iff.1 h2
  obtain ⟨r, hr, g1, g2, g3⟩ := hangTo_from (floorOk_deep h1) a0 (fun j hj => at0_carry h hj) (f.length - 1) (Nat.le_refl _)
  have hh : hangs f (carry f a) = upto (fun i => ((r + i : Nat) : Int)) (f.length - 1 - r) := by rw [hangs_eq (carry_pay h), carry_len h, g3]
  refine ⟨r, hr, g1, g2, hh, ?_⟩
  simp only [reach, h, if_true]
  rw [hh, carry_len h, upto_length]
  omega
theorem carry_zero {f : List Int} {a : Int} (h : carryOk f a = true) {r : Nat} (hr : r < f.length - 1) (hh : a < need1 f (r + 1)) {j : Nat} (h1 : r < j) (h2 : j < f.length - 1) : at0 (carry f a) j = 0 := by
  obtain ⟨g1, g2⟩ := carryOk_iff.1 h
  obtain ⟨a0, a1⟩ := inB_iff.1 g2
  have hd := floorOk_deep g1
  have := need1_mono hd (j := r + 1) j (by omega) (by omega)
  have hl := left_eq hd a0 j (by omega)
  rw [if_neg (by omega)] at hl
  have hb := needF_bd hd (i := j) (by omega)
  rw [at0_carry h h2]
  unfold carryF least
  rw [hl]
  split <;> omega
theorem carry_total {f : List Int} {a : Int} (h : carryOk f a = true) : sumN (at0 (carry f a)) (carry f a).length = if a ≤ floorLen f 0 ((f.length : Int) - 1) then a else floorLen f 0 ((f.length : Int) - 1) := by
  obtain ⟨g1, g2⟩ := carryOk_iff.1 h
  obtain ⟨a0, a1⟩ := inB_iff.1 g2
  have hlf := floorOk_len g1
  rw [carry_len h, sumN_congr (fun j hj => at0_carry h hj), carry_sum (floorOk_deep g1), left_eq (floorOk_deep g1) a0 _ (by omega)]
  rw [show (f.length : Int) - 1 = ((f.length - 1 : Nat) : Int) by omega, floorLen_zero g1 (by omega)]
  show a - (if sumN (needF f) (f.length - 1) ≤ a then a - sumN (needF f) (f.length - 1) else 0) = _
  split <;> split <;> omega
theorem carry_slack {f : List Int} {a : Int} (h : carryOk f a = true) : slack f (carry f a) = 0 := by
  rw [slack_eq (carry_pay h), carry_len h]
  refine sumN_zero _ (fun j hj => ?_)
  unfold slackF
  rw [at0_carry h hj]
  unfold carryF least
  refine posI_neg ?_
  split <;> omega
theorem reach_law {f : List Int} {a : Int} (h : carryOk f a = true) : 0 ≤ reach f a ∧ reach f a ≤ (f.length : Int) - 1 ∧ floorLen f 0 (reach f a) ≤ a ∧ (reach f a = (f.length : Int) - 1 ∨ a < floorLen f 0 (reach f a + 1)) ∧ (a ≠ 1000 → reach f a ≤ reach f (a + 1)) := by
  obtain ⟨g1, g2⟩ := carryOk_iff.1 h
  obtain ⟨a0, a1⟩ := inB_iff.1 g2
  have hlf := floorOk_len g1
  have hd := floorOk_deep g1
  obtain ⟨r, hr, k1, k2, k3, k4⟩ := carry_law h
  rw [k4]
  refine ⟨by omega, by omega, ?_, ?_, ?_⟩
  · rw [floorLen_zero g1 (by omega)]; exact k1
  · by_cases hrn : r < f.length - 1
    · refine .inr ?_
      rw [show (r : Int) + 1 = ((r + 1 : Nat) : Int) by omega, floorLen_zero g1 (by omega)]
      exact k2 hrn
    · exact .inl (by omega)
  · intro hne
    have h' : carryOk f (a + 1) = true := by simp only [carryOk, g1, Bool.true_and]; exact inB_yes (by omega) (by omega)
    obtain ⟨r', hr', l1, l2, l3, l4⟩ := carry_law h'
    rw [l4]
    rcases Nat.lt_or_ge r' r with hlt | hge
    · have := l2 (by omega)
      have := need1_mono hd (j := r' + 1) r (by omega) (by omega)
      omega
    · omega
end Go.Proofs.Ytoelajocacpmgaa
