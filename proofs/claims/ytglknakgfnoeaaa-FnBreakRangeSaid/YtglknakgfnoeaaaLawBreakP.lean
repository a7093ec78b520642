/-
  PLAIN LEAN, no program in sight: the miles at which a cable can be broken lie side by side.
-/
import Derived.Test.YtglknakgfnoeaaaBreakM
import Derived.Test.YtglknakgfnoeaaaLawCableP
namespace Go.Proofs.Ytglknakgfnoeaaa
set_option linter.unusedVariables false
set_option linter.unusedSimpArgs false
open Go.RowKit

section
variable {fl : List Int} {n : Nat} {x e : Int}
theorem brS_spec : ∀ k : Nat, ((brS fl n x e k).1 < 0 ∧ ∀ j, j < k → brHit fl n x e j = false) ∨
    ∃ i i' : Nat, (brS fl n x e k).1 = (i : Int) ∧ (brS fl n x e k).2 = (i' : Int) ∧ i ≤ i' ∧ i' < k ∧ brHit fl n x e i = true ∧ brHit fl n x e i' = true ∧ ∀ j, j < k → brHit fl n x e j = true → i ≤ j ∧ j ≤ i'
  | 0 => Or.inl ⟨by simp [brS], fun j hj => absurd hj (by omega)⟩
  | k + 1 => by
    by_cases hh : brHit fl n x e k = true
    · rcases brS_spec k with ⟨h1, h2⟩ | ⟨i, i', h1, h2, h3, h4, h5, h6, h7⟩
      · rw [brS_hit hh h1]
        refine Or.inr ⟨k, k, rfl, rfl, Nat.le_refl _, by omega, hh, hh, fun j hj hit => ?_⟩
        by_cases e : j = k
        · omega
        · rw [h2 j (by omega)] at hit; cases hit
      · rw [brS_hit' hh (by omega)]
        refine Or.inr ⟨i, k, h1, rfl, by omega, by omega, h5, hh, fun j hj hit => ?_⟩
        by_cases e : j = k
        · omega
        · have := h7 j (by omega) hit; omega
    · have hh' : brHit fl n x e k = false := by simpa using hh
      rw [brS_no hh']
      rcases brS_spec k with ⟨h1, h2⟩ | ⟨i, i', h1, h2, h3, h4, h5, h6, h7⟩
      · refine Or.inl ⟨h1, fun j hj => ?_⟩
        by_cases e : j = k
        · rw [e]; exact hh'
        · exact h2 j (by omega)
      · refine Or.inr ⟨i, i', h1, h2, h3, by omega, h5, h6, fun j hj hit => ?_⟩
        by_cases e : j = k
        · subst e; rw [hh'] at hit; cases hit
        · exact h7 j (by omega) hit
theorem brHit_iff {j : Nat} : brHit fl n x e j = true ↔ ohms fl n (j : Int) ≤ x ∧ x ≤ ohms fl n (j : Int) + e := by simp [brHit]
theorem ohms_le (h : cableOk fl n = true) {a b : Nat} (hab : a ≤ b) (hb : (b : Int) ≤ miles fl n) : ohms fl n (a : Int) ≤ ohms fl n (b : Int) := by
  rw [ohms_at h (by omega) (by omega), ohms_at h (by omega) hb]
  exact ohmsTo_mono h (by omega) n (Nat.le_refl n)
theorem brOk_iff : brOk fl n x e = true ↔ cableOk fl n = true ∧ 0 ≤ x ∧ inB e 0 1000 = true ∧ 0 ≤ (brAll fl n x e).1 := by
  simp [brOk, brAsk, and_assoc]
theorem break_law (h : brOk fl n x e = true) : ∃ i i' : Nat, brLo fl n x e = (i : Int) ∧ brHi fl n x e = (i' : Int) ∧ i ≤ i' ∧ (i' : Int) ≤ miles fl n ∧
    (∀ k : Nat, (k : Int) ≤ miles fl n → (ohms fl n (k : Int) ≤ x ∧ x ≤ ohms fl n (k : Int) + e ∧ i ≤ k ∧ k ≤ i') ∨ (x < ohms fl n (k : Int) ∧ i ≤ k ∧ i' < k) ∨ (ohms fl n (k : Int) ≤ x ∧ ohms fl n (k : Int) + e < x ∧ k < i)) ∧
    (e < 1000 → brOk fl n x (e + 1) = true ∧ brLo fl n x (e + 1) ≤ (i : Int) ∧ (i' : Int) ≤ brHi fl n x (e + 1)) := by
  obtain ⟨hk, hx, he, h0⟩ := brOk_iff.1 h
  obtain ⟨e0, e1⟩ := inB_iff.1 he
  obtain ⟨z0, z1⟩ := miles_le hk
  rcases brS_spec (fl := fl) (n := n) (x := x) (e := e) ((miles fl n).toNat + 1) with ⟨h1, -⟩ | ⟨i, i', h1, h2, h3, h4, h5, h6, h7⟩
  · have : (brAll fl n x e).1 < 0 := h1
    omega
  · have hlo : brLo fl n x e = (i : Int) := by simp only [brLo, h, if_true]; exact h1
    have hhi : brHi fl n x e = (i' : Int) := by simp only [brHi, h, if_true]; exact h2
    obtain ⟨a1, a2⟩ := brHit_iff.1 h5
    obtain ⟨b1, b2⟩ := brHit_iff.1 h6
    refine ⟨i, i', hlo, hhi, h3, by omega, fun k hkm => ?_, fun hlt => ?_⟩
    · by_cases c1 : k < i
      · right; right
        have := ohms_le hk (show k ≤ i by omega) (by omega)
        have hnot : brHit fl n x e k = false := by
          cases hq : brHit fl n x e k
          · rfl
          · have := h7 k (by omega) hq; omega
        have hno : ¬ (ohms fl n (k : Int) ≤ x ∧ x ≤ ohms fl n (k : Int) + e) := fun hh => by rw [brHit_iff.2 hh] at hnot; cases hnot
        omega
      · by_cases c2 : i' < k
        · right; left
          have := ohms_le hk (show i' ≤ k by omega) hkm
          have hnot : brHit fl n x e k = false := by
            cases hq : brHit fl n x e k
            · rfl
            · have := h7 k (by omega) hq; omega
          have hno : ¬ (ohms fl n (k : Int) ≤ x ∧ x ≤ ohms fl n (k : Int) + e) := fun hh => by rw [brHit_iff.2 hh] at hnot; cases hnot
          omega
        · left
          have := ohms_le hk (show i ≤ k by omega) hkm
          have := ohms_le hk (show k ≤ i' by omega) (by omega)
          omega
    · have hi5 : brHit fl n x (e + 1) i = true := brHit_iff.2 ⟨a1, by omega⟩
      have hi6 : brHit fl n x (e + 1) i' = true := brHit_iff.2 ⟨b1, by omega⟩
      rcases brS_spec (fl := fl) (n := n) (x := x) (e := e + 1) ((miles fl n).toNat + 1) with ⟨g1, g2⟩ | ⟨j, j', g1, g2, g3, g4, g5, g6, g7⟩
      · rw [g2 i (by omega)] at hi5; cases hi5
      · have hok : brOk fl n x (e + 1) = true := brOk_iff.2 ⟨hk, hx, inB_iff.2 ⟨by omega, by omega⟩, by show 0 ≤ (brS fl n x (e + 1) ((miles fl n).toNat + 1)).1; omega⟩
        have k1 := g7 i (by omega) hi5
        have k2 := g7 i' (by omega) hi6
        refine ⟨hok, ?_, ?_⟩
        · simp only [brLo, hok, if_true]
          show (brS fl n x (e + 1) ((miles fl n).toNat + 1)).1 ≤ _
          omega
        · simp only [brHi, hok, if_true]
          show _ ≤ (brS fl n x (e + 1) ((miles fl n).toNat + 1)).2
          omega
end
end Go.Proofs.Ytglknakgfnoeaaa
