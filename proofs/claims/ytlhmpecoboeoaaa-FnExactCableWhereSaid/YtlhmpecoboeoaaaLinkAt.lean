/-
  PLAIN: the links of a cable, one by one.
-/
import Derived.Test.YtlhmpecoboeoaaaLinkOf
import Derived.Test.YtlhmpecoboeoaaaCable
namespace Go.Proofs.Ytlhmpecoboeoaaa
set_option linter.unusedVariables false
set_option linter.unusedSimpArgs false
open Go.RowKit

theorem sec_bd {fl : List Int} {n k : Nat} (h : cableOk fl n = true) (hk : k < n) : (1 ≤ at0 fl (k * 3) ∧ at0 fl (k * 3) ≤ 50) ∧ (0 ≤ at0 fl (k * 3 + 1) ∧ at0 fl (k * 3 + 1) ≤ 3) ∧ (1 ≤ at0 fl (k * 3 + 2) ∧ at0 fl (k * 3 + 2) ≤ 20) := secOk_iff.1 ((cableOk_iff.1 h).2 k hk)
theorem from_succ {N k : Nat} (h : k < N) : from' N (N - k) = k :: from' N (N - (k + 1)) := by
  obtain ⟨m, hm⟩ : ∃ m, N - k = m + 1 := ⟨N - k - 1, by omega⟩
  rw [hm, show N - (k + 1) = m by omega]
  show (N - 1 - m) :: from' N m = _
  rw [show N - 1 - m = k by omega]
theorem links_at {w : World} {hi : Nat} {fl : List Int} {N k : Nat} {p : Option Addr} (h : Links w hi fl (from' N (N - k)) p) (hk : k < N) : ∃ g p', p = some ⟨g, 0, none⟩ ∧ g < hi ∧ w.cell? ⟨g, 0, none⟩ = some (.int .i64 (at0 fl (k * 3))) ∧ w.cell? ⟨g, 1, none⟩ = some (.int .i64 (at0 fl (k * 3 + 1))) ∧
    w.cell? ⟨g, 2, none⟩ = some (.int .i64 (at0 fl (k * 3 + 2))) ∧ w.cell? ⟨g, 3, none⟩ = some (.pointer p') ∧ Links w hi fl (from' N (N - (k + 1))) p' := by
  rw [from_succ hk] at h
  obtain ⟨g, p', e, hg, hc, hr⟩ := h
  exact ⟨g, p', e, hg, cell_of_row w g 0 _ _ _ hc, cell_of_row w g 1 _ _ _ hc, cell_of_row w g 2 _ _ _ hc, cell_of_row w g 3 _ _ _ hc, hr⟩
theorem links_end {w : World} {hi : Nat} {fl : List Int} {N : Nat} {p : Option Addr} (h : Links w hi fl (from' N (N - N)) p) : p = none := by
  rw [Nat.sub_self] at h; exact h
end Go.Proofs.Ytlhmpecoboeoaaa
