/-
  PLAIN LEAN, no program in sight: what the laws say of a cable: its other end, its ohms mile by mile, its plain form.
-/
import Derived.Test.YtglknakgfnoeaaaPlainL
import Derived.Test.YtglknakgfnoeaaaCableBack
import Derived.Test.YtglknakgfnoeaaaKindI
namespace Go.Proofs.Ytglknakgfnoeaaa
set_option linter.unusedVariables false
set_option linter.unusedSimpArgs false
open Go.RowKit

section
variable {fl : List Int} {n : Nat}
theorem miles_ok (h : cableOk fl n = true) : miles fl n = sumMi fl n := by simp [miles, h]
theorem cable_len (h : cableOk fl n = true) : 1 ≤ n ∧ n ≤ 8 := (cableOk_iff.1 h).1
/-- Every mile lies in a section. -/
theorem locate (h : cableOk fl n = true) {m : Int} (h0 : 0 ≤ m) : ∀ j : Nat, 1 ≤ j → j ≤ n → m ≤ sumMi fl j → ∃ k p, k < j ∧ 0 ≤ p ∧ p ≤ at0 fl (k * 3) ∧ m = sumMi fl k + p
  | 0, h1, _, _ => by omega
  | j + 1, _, hj, hm => by
    have hs := sumMi_succ fl j
    by_cases hle : 1 ≤ j ∧ m ≤ sumMi fl j
    · obtain ⟨k, p, a, b⟩ := locate h h0 j hle.1 (by omega) hle.2
      exact ⟨k, p, by omega, b⟩
    · refine ⟨j, m - sumMi fl j, by omega, ?_, by omega, by omega⟩
      by_cases hj0 : j = 0
      · subst hj0; simpa [sumMi, sumN] using h0
      · omega
theorem ohms_at (h : cableOk fl n = true) {m : Int} (h0 : 0 ≤ m) (h1 : m ≤ miles fl n) : ohms fl n m = ohmsTo fl m n := by
  have hm : inB m 0 (miles fl n) = true := inB_iff.2 ⟨h0, h1⟩
  simp only [ohms, hm, if_true]
theorem ohms_off {m : Int} (h : m < 0 ∨ miles fl n < m) : ohms fl n m = -1 := by
  have hm : inB m 0 (miles fl n) = false := by
    cases e : inB m 0 (miles fl n)
    · rfl
    · have := inB_iff.1 e; omega
  simp [ohms, hm]
theorem ohms_zero (h : cableOk fl n = true) : ohmsTo fl 0 n = 0 := by
  obtain ⟨n1, n2⟩ := cable_len h
  have v1 := (sec_bd h (show 0 < n by omega)).1
  have := ohmsTo_in h (show 0 < n by omega) (p := 0) (Int.le_refl 0) (by omega)
  simpa [sumMi, sumN, fullO] using this
/-- One mile more resists by 1 to 20 ohms. -/
theorem ohms_step (h : cableOk fl n = true) {m : Int} (h0 : 0 ≤ m) (h1 : m < sumMi fl n) : ohmsTo fl m n < ohmsTo fl (m + 1) n ∧ ohmsTo fl (m + 1) n ≤ ohmsTo fl m n + 20 := by
  obtain ⟨n1, n2⟩ := cable_len h
  obtain ⟨k, p, hk, p0, p1, hm⟩ := locate h (m := m + 1) (by omega) n n1 (Nat.le_refl n) (by omega)
  have hstep : ∀ k p, k < n → 1 ≤ p → p ≤ at0 fl (k * 3) → m + 1 = sumMi fl k + p → ohmsTo fl m n < ohmsTo fl (m + 1) n ∧ ohmsTo fl (m + 1) n ≤ ohmsTo fl m n + 20 := by
    intro k p hk p0 p1 hm
    obtain ⟨-, -, v5, v6⟩ := sec_bd h hk
    have a := ohmsTo_in h hk (p := p) (by omega) p1
    have b := ohmsTo_in h hk (p := p - 1) (by omega) (by omega)
    rw [← hm] at a
    rw [show sumMi fl k + (p - 1) = m by omega, Int.sub_mul] at b
    omega
  by_cases hp : 1 ≤ p
  · exact hstep k p hk hp p1 hm
  · obtain ⟨j, rfl⟩ : ∃ j, k = j + 1 := by
      refine ⟨k - 1, ?_⟩
      rcases Nat.eq_zero_or_pos k with e | e
      · subst e; simp [sumMi, sumN] at hm; omega
      · omega
    have hs := sumMi_succ fl j
    have v1 := (sec_bd h (show j < n by omega)).1
    exact hstep j (at0 fl (j * 3)) (by omega) (by omega) (Int.le_refl _) (by omega)
/-- Every mile resists by an ohm at least. -/
theorem ohms_ge (h : cableOk fl n = true) : ∀ m : Nat, (m : Int) ≤ sumMi fl n → (m : Int) ≤ ohmsTo fl (m : Int) n
  | 0, _ => by have := ohms_zero h; simpa using Int.le_of_eq this.symm
  | m + 1, hm => by
    have ih := ohms_ge h m (by omega)
    have := (ohms_step h (m := (m : Int)) (by omega) (by omega)).1
    rw [show ((m + 1 : Nat) : Int) = (m : Int) + 1 by omega]
    omega
/-- There is a mile of a resistance. -/
theorem where_is (h : cableOk fl n = true) {o : Int} (o0 : 0 ≤ o) : IsWhere fl n o (whereM fl n o) := by
  have hm := miles_ok h
  have key : ∀ d : Nat, ∀ M : Int, 0 ≤ M → M + (d : Int) = miles fl n → ohmsTo fl M n ≤ o → ∃ M', IsWhere fl n o M' := by
    intro d
    induction d with
    | zero => intro M h0 h1 h2; exact ⟨M, h0, by omega, h2, fun hlt => by omega⟩
    | succ d ih =>
      intro M h0 h1 h2
      by_cases hlt : o < ohmsTo fl (M + 1) n
      · exact ⟨M, h0, by omega, h2, fun _ => hlt⟩
      · exact ih (M + 1) (by omega) (by omega) (by omega)
  obtain ⟨z0, z1⟩ := miles_le h
  obtain ⟨M, hM⟩ := key (miles fl n).toNat 0 (Int.le_refl 0) (by omega) (by rw [ohms_zero h]; exact o0)
  rw [whereM_eq h hM]
  exact hM
/-- Kinds are not negative. -/
theorem kind_in (h : cableOk fl n = true) {m : Int} (h0 : 0 ≤ m) (h1 : m < miles fl n) : 0 ≤ kind fl n m := by
  obtain ⟨n1, n2⟩ := cable_len h
  have hm := miles_ok h
  have hin : inB m 0 (miles fl n - 1) = true := inB_iff.2 ⟨h0, by omega⟩
  have hloc : loc fl n m < n := by
    unfold loc
    have : (List.range n).findIdx (fun k => decide (m < sumMi fl (k + 1))) < (List.range n).length := by
      apply List.findIdx_lt_length_of_exists
      exact ⟨n - 1, by simp; omega, by rw [show n - 1 + 1 = n by omega]; simp; omega⟩
    simpa using this
  have := (sec_bd h hloc).2.1.1
  simp only [kind, hin, if_true]
  exact this
theorem kind_off {m : Int} (h : miles fl n ≤ m) : kind fl n m = -1 := by
  have hin : inB m 0 (miles fl n - 1) = false := by
    cases e : inB m 0 (miles fl n - 1)
    · rfl
    · have := inB_iff.1 e; omega
  simp [kind, hin]

/-! ### The other end -/
theorem cback_eq (h : cableOk fl n = true) : cback fl n = upto (backC fl n) (n * 3) ∧ cbackN fl n = n := by simp [cback, cbackN, h]
theorem at0_back {k c : Nat} (hk : k < n) (hc : c < 3) : at0 (upto (backC fl n) (n * 3)) (k * 3 + c) = at0 fl ((n - 1 - k) * 3 + c) := by
  rw [at0_upto _ (by omega)]
  unfold backC
  rw [show (k * 3 + c) / 3 = k by omega, show (k * 3 + c) % 3 = c by omega]
theorem secOk_back {k : Nat} (hk : k < n) : secOk (upto (backC fl n) (n * 3)) k = secOk fl (n - 1 - k) := by
  have a := at0_back (fl := fl) hk (show 0 < 3 by omega)
  rw [Nat.add_zero, Nat.add_zero] at a
  simp only [secOk, a, at0_back hk (show 1 < 3 by omega), at0_back hk (show 2 < 3 by omega)]
theorem cableOk_back (h : cableOk fl n = true) : cableOk (upto (backC fl n) (n * 3)) n = true := by
  obtain ⟨a, b⟩ := cableOk_iff.1 h
  exact cableOk_iff.2 ⟨a, fun k hk => by rw [secOk_back hk]; exact b _ (by omega)⟩
theorem sums_back : ∀ k : Nat, k ≤ n → sumMi (upto (backC fl n) (n * 3)) k = sumMi fl n - sumMi fl (n - k) ∧ fullO (upto (backC fl n) (n * 3)) k = fullO fl n - fullO fl (n - k)
  | 0, _ => by simp [sumMi, fullO, sumN]
  | k + 1, hk => by
    obtain ⟨i1, i2⟩ := sums_back k (by omega)
    have a := at0_back (fl := fl) (show k < n by omega) (show 0 < 3 by omega)
    rw [Nat.add_zero, Nat.add_zero] at a
    have c := at0_back (fl := fl) (show k < n by omega) (show 2 < 3 by omega)
    have e : n - k = n - 1 - k + 1 := by omega
    have e2 : n - (k + 1) = n - 1 - k := by omega
    rw [e] at i1 i2
    rw [sumMi_succ] at i1
    rw [fullO_succ] at i2
    rw [sumMi_succ, fullO_succ, a, c, e2]
    constructor <;> omega
theorem miles_back (h : cableOk fl n = true) : miles (upto (backC fl n) (n * 3)) n = miles fl n := by
  rw [miles_ok h, miles_ok (cableOk_back h), (sums_back n (Nat.le_refl n)).1, Nat.sub_self]
  simp [sumMi, sumN]
theorem full_back (h : cableOk fl n = true) : fullO (upto (backC fl n) (n * 3)) n = fullO fl n := by
  rw [(sums_back n (Nat.le_refl n)).2, Nat.sub_self]
  simp [fullO, sumN]
/-- From both ends, all is counted. -/
theorem ohms_back (h : cableOk fl n = true) {m : Int} (h0 : 0 ≤ m) (h1 : m ≤ sumMi fl n) : ohmsTo fl m n + ohmsTo (upto (backC fl n) (n * 3)) (sumMi fl n - m) n = fullO fl n := by
  obtain ⟨n1, n2⟩ := cable_len h
  obtain ⟨k, p, hk, p0, p1, hm⟩ := locate h h0 n n1 (Nat.le_refl n) h1
  have a := ohmsTo_in h hk p0 p1
  have hB := cableOk_back h
  have e0 := at0_back (fl := fl) (show n - 1 - k < n by omega) (show 0 < 3 by omega)
  rw [Nat.add_zero, Nat.add_zero, show n - 1 - (n - 1 - k) = k by omega] at e0
  have e2 := at0_back (fl := fl) (show n - 1 - k < n by omega) (show 2 < 3 by omega)
  rw [show n - 1 - (n - 1 - k) = k by omega] at e2
  have b := ohmsTo_in hB (show n - 1 - k < n by omega) (p := at0 fl (k * 3) - p) (by omega) (by rw [e0]; omega)
  obtain ⟨s1, s2⟩ := sums_back (fl := fl) (n := n) (n - 1 - k) (by omega)
  rw [show n - (n - 1 - k) = k + 1 by omega] at s1 s2
  rw [sumMi_succ] at s1
  rw [fullO_succ] at s2
  rw [e2, s2, Int.sub_mul, show sumMi (upto (backC fl n) (n * 3)) (n - 1 - k) + (at0 fl (k * 3) - p) = sumMi fl n - m by omega] at b
  rw [hm, a, ← hm, b]
  omega
/-- Turned twice, the cable is as it was. -/
theorem back_back (hl : fl.length = n * 3) : upto (backC (upto (backC fl n) (n * 3)) n) (n * 3) = fl := by
  apply list_eq_of_at0
  · rw [upto_length, hl]
  · intro j hj
    rw [upto_length] at hj
    rw [at0_upto _ hj]
    show at0 (upto (backC fl n) (n * 3)) ((n - 1 - j / 3) * 3 + j % 3) = _
    rw [at0_back (by omega) (by omega)]
    congr 1
    omega
theorem secs_turned {B : List Int} (h : ∀ k, k < n → ∀ c, c < 3 → at0 B (k * 3 + c) = at0 fl ((n - 1 - k) * 3 + c)) : secs B n = (secs fl n).reverse := by
  apply List.ext_getElem
  · simp [secs_len]
  · intro j h1 h2
    have hj : j < n := by simpa [secs_len] using h1
    have a := h j hj 0 (by omega)
    rw [Nat.add_zero, Nat.add_zero] at a
    simp only [secs, upto, List.getElem_map, List.getElem_range, List.getElem_reverse, List.length_map, List.length_range, sec3, a, h j hj 1 (by omega), h j hj 2 (by omega)]
/-- The sections in the opposite order. -/
theorem secs_back : secs (upto (backC fl n) (n * 3)) n = (secs fl n).reverse := secs_turned fun k hk c hc => at0_back hk hc
theorem plL_back : plL (upto (backC fl n) (n * 3)) n = (plL fl n).reverse := by
  unfold plL
  rw [secs_back, plT_rev]
/-- A flat list of sections turned. -/
theorem back_flat (L : List Sec3) : upto (backC (flatS L) L.length) (L.length * 3) = flatS L.reverse := by
  have h := secs_back (fl := flatS L) (n := L.length)
  rw [secs_flat] at h
  rw [← h, flat_secs (upto_length _ _)]
theorem cableOk_rev (L : List Sec3) : cableOk (flatS L.reverse) L.length = cableOk (flatS L) L.length := by
  rw [← back_flat]
  cases e : cableOk (flatS L) L.length
  · cases e' : cableOk (upto (backC (flatS L) L.length) (L.length * 3)) L.length
    · rfl
    · have := cableOk_back e'
      rw [back_back (flatS_len L), e] at this; cases this
  · exact cableOk_back e
theorem plainOk_back (h : cableOk fl n = true) : plainOk (upto (backC fl n) (n * 3)) n = plainOk fl n := by
  simp only [plainOk, h, cableOk_back h, plL_back, List.length_reverse, cableOk_rev]

/-! ### The plain cable -/
theorem plain_parts (h : plainOk fl n = true) : cableOk fl n = true ∧ plain fl n = flatS (plL fl n) ∧ plainN fl n = (plL fl n).length ∧ cableOk (flatS (plL fl n)) (plL fl n).length = true := by
  have h' := h
  simp only [plainOk, Bool.and_eq_true] at h'
  exact ⟨h'.1, by simp only [plain, h, if_true], by simp only [plainN, h, if_true], h'.2⟩
theorem plain_miles (h : plainOk fl n = true) : miles (plain fl n) (plainN fl n) = miles fl n := by
  obtain ⟨h1, h2, h3, h4⟩ := plain_parts h
  rw [h2, h3, miles_ok h4, miles_ok h1, (plain_keeps h1).1]
theorem plain_ohms (h : plainOk fl n = true) (m : Int) : ohms (plain fl n) (plainN fl n) m = ohms fl n m := by
  obtain ⟨h1, h2, h3, h4⟩ := plain_parts h
  have hm := plain_miles h
  rw [h2, h3] at hm ⊢
  simp only [ohms, hm, (plain_keeps h1).2.2]
theorem plain_again (h : plainOk fl n = true) : plainOk (plain fl n) (plainN fl n) = true ∧ plain (plain fl n) (plainN fl n) = plain fl n ∧ plainN (plain fl n) (plainN fl n) = plainN fl n := by
  obtain ⟨h1, h2, h3, h4⟩ := plain_parts h
  have ht := plain_twice fl n
  have hk : plainOk (flatS (plL fl n)) (plL fl n).length = true := by simp only [plainOk, ht, h4]; rfl
  rw [h2, h3]
  refine ⟨hk, ?_, ?_⟩
  · rw [(plain_parts hk).2.1, ht]
  · rw [(plain_parts hk).2.2.1, ht]
theorem all_full (h : cableOk fl n = true) : ohms fl n (miles fl n) = fullO fl n := by
  obtain ⟨z0, z1⟩ := miles_le h
  rw [ohms_at h z0 (Int.le_refl _), miles_ok h, ohmsTo_full h]
end
end Go.Proofs.Ytglknakgfnoeaaa
