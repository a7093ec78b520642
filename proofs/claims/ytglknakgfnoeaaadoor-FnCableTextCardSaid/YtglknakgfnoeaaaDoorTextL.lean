/-
  PLAIN LEAN, no program in sight: what the law says of a cable's text: its marks are counted; it may be cut.
-/
import Derived.Test.YtglknakgfnoeaaaDoorTextM
namespace Go.Proofs.YtglknakgfnoeaaaDoor
set_option linter.unusedVariables false
set_option linter.unusedSimpArgs false
open Go.RowKit

theorem dig_free {c : UInt8} (hc : ∀ d, d < 10 → UInt8.ofNat (48 + d) ≠ c) {n : Nat} (h : n < 100) : (Lib.decDigits n).count c = 0 := by
  by_cases h1 : n < 10
  · rw [dec_small h1, List.count_eq_zero]
    intro hm
    simp only [List.mem_singleton] at hm
    exact hc n h1 hm.symm
  · rw [dec_big h1, dec_small (show n / 10 < 10 by omega), List.count_eq_zero]
    intro hm
    simp only [List.mem_append, List.mem_singleton] at hm
    rcases hm with hm | hm
    · exact hc (n / 10) (by omega) hm.symm
    · exact hc (n % 10) (by omega) hm.symm
theorem free43 : ∀ d, d < 10 → UInt8.ofNat (48 + d) ≠ 43 := by decide
theorem free109 : ∀ d, d < 10 → UInt8.ofNat (48 + d) ≠ 109 := by decide
theorem free107 : ∀ d, d < 10 → UInt8.ofNat (48 + d) ≠ 107 := by decide
theorem free111 : ∀ d, d < 10 → UInt8.ofNat (48 + d) ≠ 111 := by decide
section
variable {fl : List Int} {n : Nat}
theorem sec_count (h : cableOk fl n = true) {k : Nat} (hk : k < n) : (secL fl k).count 43 = 0 ∧ (secL fl k).count 109 = 1 ∧ (secL fl k).count 107 = 1 ∧ (secL fl k).count 111 = 1 := by
  obtain ⟨a, b, c, -, -, -, ha, hb, hc, e⟩ := sec_nat h hk
  rw [e]
  simp only [List.count_append, dig_free free43 ha, dig_free free43 hb, dig_free free43 hc, dig_free free109 ha, dig_free free109 hb, dig_free free109 hc, dig_free free107 ha, dig_free free107 hb, dig_free free107 hc, dig_free free111 ha, dig_free free111 hb, dig_free free111 hc]
  decide
theorem txt_count (h : cableOk fl n = true) : ∀ k : Nat, k ≤ n → (txtL fl k).count 43 = k - 1 ∧ (txtL fl k).count 109 = k ∧ (txtL fl k).count 107 = k ∧ (txtL fl k).count 111 = k
  | 0, _ => by simp [txtL]
  | k + 1, hk => by
    obtain ⟨a1, a2, a3, a4⟩ := txt_count h k (by omega)
    obtain ⟨b1, b2, b3, b4⟩ := sec_count h (show k < n by omega)
    simp only [txtL]
    by_cases hk0 : k = 0
    · subst hk0; simp [b1, b2, b3, b4]
    · rw [if_neg hk0]
      have c1 : ([43] : List UInt8).count 43 = 1 := by decide
      have c2 : ([43] : List UInt8).count 109 = 0 := by decide
      have c3 : ([43] : List UInt8).count 107 = 0 := by decide
      have c4 : ([43] : List UInt8).count 111 = 0 := by decide
      rw [List.count_append, List.count_append, a1, b1, c1, List.count_append, List.count_append, a2, b2, c2, List.count_append, List.count_append, a3, b3, c3, List.count_append, List.count_append, a4, b4, c4]
      omega
theorem txt_pos (h : cableOk fl n = true) : 1 ≤ (txtL fl n).length := by
  obtain ⟨n1, n2⟩ := (cableOk_iff.1 h).1
  have := (txt_count h n (Nat.le_refl n)).2.1
  rcases Nat.eq_zero_or_pos (txtL fl n).length with e | e
  · rw [List.eq_nil_of_length_eq_zero e] at this; simp at this; omega
  · exact e
/-- The text of a part. -/
theorem txt_congr {fl gl : List Int} (o : Nat) : ∀ k : Nat, (∀ j, j < k → secL gl j = secL fl (o + j)) → o = 0 → txtL gl k = txtL fl k
  | 0, _, _ => rfl
  | k + 1, h, ho => by
    have ih := txt_congr o k (fun j hj => h j (by omega)) ho
    have := h k (by omega)
    rw [ho, Nat.zero_add] at this
    simp only [txtL, ih, this]
theorem txt_join {fl gl : List Int} {o : Nat} (ho : 1 ≤ o) : ∀ k : Nat, 1 ≤ k → (∀ j, j < k → secL gl j = secL fl (o + j)) → txtL fl (o + k) = txtL fl o ++ [43] ++ txtL gl k
  | 0, h, _ => by omega
  | 1, _, h => by
    have := h 0 (by omega)
    rw [Nat.add_zero] at this
    show (if o = 0 then [] else txtL fl o ++ [43]) ++ secL fl o = _
    rw [if_neg (by omega)]
    show _ = _ ++ ((if 0 = 0 then [] else txtL gl 0 ++ [43]) ++ secL gl 0)
    rw [if_pos rfl, this]; simp
  | k + 2, _, h => by
    have ih := txt_join ho (k + 1) (by omega) (fun j hj => h j (by omega))
    have e := h (k + 1) (by omega)
    show (if o + (k + 1) = 0 then [] else txtL fl (o + (k + 1)) ++ [43]) ++ secL fl (o + (k + 1)) = _ ++ ((if k + 1 = 0 then [] else txtL gl (k + 1) ++ [43]) ++ secL gl (k + 1))
    rw [if_neg (by omega), if_neg (by omega), ih, e]
    simp
theorem at0_take {k j : Nat} (h : j < k) : at0 (fl.take k) j = at0 fl j := by simp [at0, h]
theorem at0_drop (k j : Nat) : at0 (fl.drop k) j = at0 fl (k + j) := by simp [at0]
theorem sec_take {k j : Nat} (h : j < k) : secL (fl.take (k * 3)) j = secL fl j ∧ secOk (fl.take (k * 3)) j = secOk fl j := by
  simp only [secL, secOk, at0_take (fl := fl) (show j * 3 < k * 3 by omega), at0_take (fl := fl) (show j * 3 + 1 < k * 3 by omega), at0_take (fl := fl) (show j * 3 + 2 < k * 3 by omega)]
  exact ⟨trivial, trivial⟩
theorem sec_drop (k j : Nat) : secL (fl.drop (k * 3)) j = secL fl (k + j) ∧ secOk (fl.drop (k * 3)) j = secOk fl (k + j) := by
  have e : ∀ c, k * 3 + (j * 3 + c) = (k + j) * 3 + c := fun c => by omega
  have e0 := e 0
  rw [Nat.add_zero, Nat.add_zero] at e0
  simp only [secL, secOk, at0_drop, e0, e]
  exact ⟨trivial, trivial⟩
theorem ok_take (h : cableOk fl n = true) {k : Nat} (h1 : 1 ≤ k) (h2 : k ≤ n) : cableOk (fl.take (k * 3)) k = true := by
  obtain ⟨⟨a, b⟩, c⟩ := cableOk_iff.1 h
  exact cableOk_iff.2 ⟨⟨h1, by omega⟩, fun j hj => by rw [(sec_take hj).2]; exact c j (by omega)⟩
theorem ok_drop (h : cableOk fl n = true) {k : Nat} (h2 : k < n) : cableOk (fl.drop (k * 3)) (n - k) = true := by
  obtain ⟨⟨a, b⟩, c⟩ := cableOk_iff.1 h
  exact cableOk_iff.2 ⟨⟨by omega, by omega⟩, fun j hj => by rw [(sec_drop k j).2]; exact c _ (by omega)⟩
theorem txt_cut (h : cableOk fl n = true) {k : Nat} (h1 : 1 ≤ k) (h2 : k < n) : cableTxt (fl.take (k * 3)) k ++ ⟨#[43]⟩ ++ cableTxt (fl.drop (k * 3)) (n - k) = cableTxt fl n := by
  simp only [cableTxt, ok_take h h1 (by omega), ok_drop h h2, h, if_true]
  show ba _ ++ ba [43] ++ ba _ = _
  rw [ba_app, ba_app, txt_congr (fl := fl) (gl := fl.take (k * 3)) 0 k (fun j hj => by rw [Nat.zero_add]; exact (sec_take hj).1) rfl]
  have := txt_join (fl := fl) (gl := fl.drop (k * 3)) h1 (n - k) (by omega) (fun j hj => (sec_drop k j).1)
  rw [show k + (n - k) = n by omega] at this
  rw [this]
end
end Go.Proofs.YtglknakgfnoeaaaDoor
