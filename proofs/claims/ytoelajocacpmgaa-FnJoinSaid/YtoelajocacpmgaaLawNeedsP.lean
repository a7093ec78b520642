/-
  PLAIN LAWS of floors: what the miles need together; no program in sight.
-/
import Derived.Test.YtoelajocacpmgaaSpecNeeds
namespace Go.Proofs.Ytoelajocacpmgaa
set_option linter.unusedVariables false
set_option linter.unusedSimpArgs false
open Go.RowKit

theorem at0_needs {f : List Int} {i : Nat} (h : i < f.length - 1) : at0 (needs f) i = needF f i := at0_upto _ h
theorem floorLen_nat {f : List Int} (hf : floorOk f = true) {a b : Nat} (h1 : a ≤ b) (h2 : b < f.length) : floorLen f (a : Int) (b : Int) = sumN (fun i => needF f (a + i)) (b - a) := by
  have hp : ptsOk f (a : Int) (b : Int) = true := ptsOk_iff.2 ⟨hf, by omega, by omega, by omega⟩
  simp [floorLen, hp]
theorem floorLen_zero {f : List Int} (hf : floorOk f = true) {b : Nat} (h2 : b < f.length) : floorLen f 0 (b : Int) = sumN (needF f) b := by
  have := floorLen_nat hf (Nat.zero_le b) h2
  simp only [Int.ofNat_eq_natCast, Nat.sub_zero] at this
  rw [show (0 : Int) = ((0 : Nat) : Int) from rfl, this]
  exact sumN_congr (fun j _ => by rw [Nat.zero_add])
theorem sum_needs {f : List Int} (hf : floorOk f = true) : sumN (at0 (needs f)) (needs f).length = floorLen f 0 ((f.length - 1 : Nat) : Int) := by
  have := floorOk_len hf
  rw [floorLen_zero hf (by omega), needs_length]
  exact sumN_congr (fun j hj => at0_needs hj)
theorem floorLen_split {f : List Int} (hf : floorOk f = true) {a k b : Nat} (h1 : a ≤ k) (h2 : k ≤ b) (h3 : b < f.length) : floorLen f a k + floorLen f k b = floorLen f a b := by
  rw [floorLen_nat hf h1 (by omega), floorLen_nat hf h2 h3, floorLen_nat hf (by omega) h3]
  have := sumN_add (fun i => needF f (a + i)) (k - a) (b - k)
  rw [show k - a + (b - k) = b - a by omega] at this
  rw [this]
  congr 1
  exact sumN_congr (fun j _ => by rw [show a + (k - a + j) = k + j by omega])
/-- What some miles need is more than their lengths by the depths' difference at least. -/
theorem needF_ge {f : List Int} (i : Nat) : 10 + (at0 f (i + 1) - at0 f i) ≤ needF f i ∧ 10 - (at0 f (i + 1) - at0 f i) ≤ needF f i := by
  unfold needF needAt; split <;> omega
theorem sum_ge (f : List Int) (a : Nat) : ∀ m : Nat, 10 * (m : Int) + (at0 f (a + m) - at0 f a) ≤ sumN (fun i => needF f (a + i)) m ∧ 10 * (m : Int) - (at0 f (a + m) - at0 f a) ≤ sumN (fun i => needF f (a + i)) m
  | 0 => by simp [sumN]
  | m + 1 => by
    have ih := sum_ge f a m
    have := needF_ge (f := f) (a + m)
    simp only [sumN, ← Nat.add_assoc, Int.natCast_succ, Int.mul_add, Int.mul_one]
    omega
theorem floorLen_ge {f : List Int} (hf : floorOk f = true) {a b : Nat} (h1 : a ≤ b) (h2 : b < f.length) :
    10 * ((b : Int) - (a : Int)) + (at0 f b - at0 f a) ≤ floorLen f a b ∧ 10 * ((b : Int) - (a : Int)) - (at0 f b - at0 f a) ≤ floorLen f a b := by
  rw [floorLen_nat hf h1 h2]
  have := sum_ge f a (b - a)
  rw [show a + (b - a) = b by omega] at this
  rw [show ((b - a : Nat) : Int) = (b : Int) - (a : Int) by omega] at this
  exact this
theorem floorLen_le {f : List Int} (hf : floorOk f = true) {a b : Nat} (h1 : a ≤ b) (h2 : b < f.length) : floorLen f a b ≤ 50 * ((b : Int) - (a : Int)) ∧ 10 * ((b : Int) - (a : Int)) ≤ floorLen f a b := by
  rw [floorLen_nat hf h1 h2]
  have := sumN_bd (f := fun i => needF f (a + i)) (lo := 10) (hi := 50) (n := b - a) (fun j hj => needF_bd (floorOk_deep hf) (i := a + j) (by omega)) (Nat.le_refl _)
  rw [show ((b - a : Nat) : Int) = (b : Int) - (a : Int) by omega] at this
  exact ⟨this.2, this.1⟩
theorem floorLen_zero_iff {f : List Int} (hf : floorOk f = true) {a b : Nat} (h1 : a ≤ b) (h2 : b < f.length) : (floorLen f a b == 0) = (a == b) := by
  have := floorLen_le hf h1 h2
  rw [Bool.eq_iff_iff]
  simp only [beq_iff_eq]
  omega
end Go.Proofs.Ytoelajocacpmgaa
