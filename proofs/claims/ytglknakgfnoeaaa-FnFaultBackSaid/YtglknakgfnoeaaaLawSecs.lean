/-
  WALKS: the small helpers of the laws over lists of sections.
-/
import Derived.Test.YtglknakgfnoeaaaSecI
import Derived.BigQuiet
import Derived.Deep.QuietTactic
namespace Go.Proofs.Ytglknakgfnoeaaa
set_option linter.unusedVariables false
set_option linter.unusedSimpArgs false
open Go.RowKit

theorem sec_cell3 {w : World} {b off : Nat} {fl : List Int} {n k : Nat} (hl : fl.length = n * 3) (hc : ∀ j, j < fl.length → w.cell? ⟨b, off + j, none⟩ = some (.int .i64 (at0 fl j))) (hk : k < n) :
    w.cell? ⟨b, off + k * 3, none⟩ = some (.int .i64 (at0 fl (k * 3))) ∧ w.cell? ⟨b, off + k * 3 + 1, none⟩ = some (.int .i64 (at0 fl (k * 3 + 1))) ∧ w.cell? ⟨b, off + k * 3 + 2, none⟩ = some (.int .i64 (at0 fl (k * 3 + 2))) :=
  ⟨hc (k * 3) (by omega), by have := hc (k * 3 + 1) (by omega); rwa [← Nat.add_assoc] at this, by have := hc (k * 3 + 2) (by omega); rwa [← Nat.add_assoc] at this⟩

set_option maxHeartbeats 800000 in
theorem sameSections_same (A A' : Option Addr) (fl : List Int) (n c c' : Nat) (w : World) (hl : fl.length = n * 3) (h : Ints w w.heap.size A fl) (h' : Ints w w.heap.size A' fl) (hn : n ≤ 4194304) :
    Calls Try.prog 14 #[.slice A n c, .slice A' n c'] w fun e w' => e = .returned (.bool true) ∧ Below w.heap.size w w' := by
  have H := hide h
  have H' := hide h'
  have HL := hide hl
  clear h h' hl
  go_enter Try.func14, Try.ntmps14
  go_wp2
  go_loopw [5] (fun i wr => ∃ k : Nat, k ≤ n ∧ i = .int .i64 k ∧ Hid (Below w.heap.size w wr)) (fun i _ => n - (intOf i).toNat)
  case atStart => exact ⟨0, Nat.zero_le _, rfl, Below.refl _ _⟩
  case round =>
    obtain ⟨k, hk, rfl, hbel⟩ := hrel
    by_cases hlt : k < n
    · obtain ⟨b, off, rfl, hb, hc⟩ := H.out (by have := HL.out; omega)
      obtain ⟨b', off', rfl, hb', hc'⟩ := H'.out (by have := HL.out; omega)
      obtain ⟨c0, c1, c2⟩ := sec_cell3 (w := wr) HL.out (fun j hj => (hbel.out.cell (p := ⟨b, off + j, none⟩) hb).trans (hc j hj)) hlt
      obtain ⟨d0, d1, d2⟩ := sec_cell3 (w := wr) HL.out (fun j hj => (hbel.out.cell (p := ⟨b', off' + j, none⟩) hb').trans (hc' j hj)) hlt
      clear hc hc' H H'
      have hlti : (k : Int) < (n : Int) := by omega
      have h0i : (0 : Int) ≤ (k : Int) := by omega
      go_wp2
      go_quiet (fail)
      go_wp2
      go_roundw
      case rel => exact ⟨k + 1, by omega, by go_num, by first | exact hbel.out.drew | exact below_drewN hbel.out _⟩
      case measure => simp [intOf]; omega
    · go_wp2
      go_ret
      exact ⟨rfl, hbel.out⟩
end Go.Proofs.Ytglknakgfnoeaaa
