/-
  WALKS: a cable is valid.
-/
import Derived.Test.YtglknakgfnoeaaaDoorSecBase
import Derived.Test.YtglknakgfnoeaaaDoorIn
namespace Go.Proofs.YtglknakgfnoeaaaDoor
set_option linter.unusedVariables false
set_option linter.unusedSimpArgs false
open Go.RowKit

/-- A section's numbers are in their bounds. -/
def secOk (fl : List Int) (k : Nat) : Bool := inB (at0 fl (k * 3)) 1 50 && (inB (at0 fl (k * 3 + 1)) 0 3 && inB (at0 fl (k * 3 + 2)) 1 20)
/-- A cable: one to eight sections. -/
def cableOk (fl : List Int) (n : Nat) : Bool := inB (n : Int) 1 8 && (List.range n).all (secOk fl)
theorem secOk_iff {fl : List Int} {k : Nat} : secOk fl k = true ↔ (1 ≤ at0 fl (k * 3) ∧ at0 fl (k * 3) ≤ 50) ∧ (0 ≤ at0 fl (k * 3 + 1) ∧ at0 fl (k * 3 + 1) ≤ 3) ∧ (1 ≤ at0 fl (k * 3 + 2) ∧ at0 fl (k * 3 + 2) ≤ 20) := by
  simp only [secOk, Bool.and_eq_true, inB_iff]
theorem cableOk_iff {fl : List Int} {n : Nat} : cableOk fl n = true ↔ (1 ≤ n ∧ n ≤ 8) ∧ ∀ k, k < n → secOk fl k = true := by
  simp only [cableOk, Bool.and_eq_true, inB_iff, List.all_eq_true, List.mem_range]
  constructor
  · rintro ⟨⟨a, b⟩, c⟩; exact ⟨⟨by omega, by omega⟩, c⟩
  · rintro ⟨⟨a, b⟩, c⟩; exact ⟨⟨by omega, by omega⟩, c⟩
theorem cableOk_no {fl : List Int} {n k : Nat} (hk : k < n) (h : secOk fl k = false) : cableOk fl n = false := by
  cases e : cableOk fl n
  · rfl
  · have := (cableOk_iff.1 e).2 k hk
    rw [h] at this; cases this
theorem cableOk_all {fl : List Int} {n : Nat} (h : ∀ k, k < n → secOk fl k = true) : cableOk fl n = inB (n : Int) 1 8 := by
  have : (List.range n).all (secOk fl) = true := by simpa using h
  simp [cableOk, this]
theorem sec_cells {w : World} {hi b off : Nat} {fl : List Int} {n k : Nat} (hl : fl.length = n * 3) (hc : ∀ j, j < fl.length → w.cell? ⟨b, off + j, none⟩ = some (.int .i64 (at0 fl j))) (hk : k < n) :
    w.cell? ⟨b, off + k * 3, none⟩ = some (.int .i64 (at0 fl (k * 3))) ∧ w.cell? ⟨b, off + k * 3 + 1, none⟩ = some (.int .i64 (at0 fl (k * 3 + 1))) ∧ w.cell? ⟨b, off + k * 3 + 2, none⟩ = some (.int .i64 (at0 fl (k * 3 + 2))) :=
  ⟨hc (k * 3) (by omega), by have := hc (k * 3 + 1) (by omega); rwa [← Nat.add_assoc] at this, by have := hc (k * 3 + 2) (by omega); rwa [← Nat.add_assoc] at this⟩

set_option maxHeartbeats 1600000 in
theorem specCableValid_any (A : Option Addr) (fl : List Int) (n cap : Nat) (w : World) (hl : fl.length = n * 3) (h : Ints w w.heap.size A fl) (hn : n ≤ 1048576) :
    Calls Tryd.prog 14 #[.slice A n cap] w fun e w' => e = .returned (.bool (cableOk fl n)) ∧ Below w.heap.size w w' := by
  have H := hide h
  have HL := hide hl
  clear h hl
  go_enter Tryd.func14, Tryd.ntmps14
  go_wp2
  go_loopw [3] (fun i wr => ∃ k : Nat, k ≤ n ∧ i = .int .i64 (k : Int) ∧ Hid (∀ j, j < k → secOk fl j = true) ∧ Hid (Below w.heap.size w wr)) (fun i _ => n - (intOf i).toNat)
  case atStart => exact ⟨0, Nat.zero_le _, rfl, fun j hj => absurd hj (by omega), Below.refl _ _⟩
  case round =>
    obtain ⟨k, hk, rfl, hall, hbel⟩ := hrel
    by_cases hlt : k < n
    · obtain ⟨b, off, rfl, hb, hc⟩ := H.out (by have := HL.out; omega)
      obtain ⟨c0, c1, c2⟩ := sec_cells (w := wr) (hi := 0) HL.out (fun j hj => (hbel.out.cell (p := ⟨b, off + j, none⟩) hb).trans (hc j hj)) hlt
      have hlt' : (k : Int) < (n : Int) := by omega
      have hB := hide (hbel.out.alloc hbel.out.size (.cells #[.int .i64 (at0 fl (k * 3)), .int .i64 (at0 fl (k * 3 + 1)), .int .i64 (at0 fl (k * 3 + 2))] 36))
      clear hc H
      by_cases h1 : inB (at0 fl (k * 3)) 1 50 = true
      · by_cases h2 : inB (at0 fl (k * 3 + 1)) 0 3 = true
        · by_cases h3 : inB (at0 fl (k * 3 + 2)) 1 20 = true
          · have HO := hide (show secOk fl k = true by simp [secOk, h1, h2, h3])
            go_wp2_with (go_at_call 23; refine (l6In_any _ _ _ _).mono ?_; rintro e w' ⟨rfl, rfl⟩)
            go_roundw
            case rel =>
              refine ⟨k + 1, by omega, by go_num, fun j hj => ?_, hB.out⟩
              by_cases hjk : j = k
              · rw [hjk]; exact HO.out
              · exact hall.out j (by omega)
            case measure => simp [intOf]; omega
          · have h3' : inB (at0 fl (k * 3 + 2)) 1 20 = false := by simpa using h3
            have HO := hide (cableOk_no hlt (show secOk fl k = false by simp [secOk, h3']))
            clear h3
            go_wp2_with (go_at_call 23; refine (l6In_any _ _ _ _).mono ?_; rintro e w' ⟨rfl, rfl⟩)
            go_ret
            exact ⟨ret_bool HO.out.symm, hB.out⟩
        · have h2' : inB (at0 fl (k * 3 + 1)) 0 3 = false := by simpa using h2
          have HO := hide (cableOk_no hlt (show secOk fl k = false by simp [secOk, h2']))
          clear h2
          go_wp2_with (go_at_call 23; refine (l6In_any _ _ _ _).mono ?_; rintro e w' ⟨rfl, rfl⟩)
          go_ret
          exact ⟨ret_bool HO.out.symm, hB.out⟩
      · have h1' : inB (at0 fl (k * 3)) 1 50 = false := by simpa using h1
        have HO := hide (cableOk_no hlt (show secOk fl k = false by simp [secOk, h1']))
        clear h1
        go_wp2_with (go_at_call 23; refine (l6In_any _ _ _ _).mono ?_; rintro e w' ⟨rfl, rfl⟩)
        go_ret
        exact ⟨ret_bool HO.out.symm, hB.out⟩
    · have hkk : k = n := by omega
      subst hkk
      have HO := hide (cableOk_all hall.out)
      clear hall H
      go_wp2_with (go_at_call 23; refine (l6In_any _ _ _ _).mono ?_; rintro e w' ⟨rfl, rfl⟩)
      go_ret
      exact ⟨ret_bool HO.out.symm, hbel.out⟩

set_option maxHeartbeats 1600000 in
theorem cableValid_any (A : Option Addr) (fl : List Int) (n cap : Nat) (w : World) (hl : fl.length = n * 3) (h : Ints w w.heap.size A fl) (hn : n ≤ 1048576) :
    Calls Tryd.prog 10 #[.slice A n cap] w fun e w' => e = .returned (.bool (cableOk fl n)) ∧ Below w.heap.size w w' := by
  have H := hide h
  have HL := hide hl
  clear h hl
  go_enter Tryd.func10, Tryd.ntmps10
  go_wp2
  go_loopw [7] (fun i wr => ∃ k : Nat, k ≤ n ∧ i = .int .i64 (k : Int) ∧ Hid (∀ j, j < k → secOk fl j = true) ∧ Hid (Below w.heap.size w wr)) (fun i _ => n - (intOf i).toNat)
  case atStart => exact ⟨0, Nat.zero_le _, rfl, fun j hj => absurd hj (by omega), Below.refl _ _⟩
  case round =>
    obtain ⟨k, hk, rfl, hall, hbel⟩ := hrel
    by_cases hlt : k < n
    · obtain ⟨b, off, rfl, hb, hc⟩ := H.out (by have := HL.out; omega)
      obtain ⟨c0, c1, c2⟩ := sec_cells (w := wr) (hi := 0) HL.out (fun j hj => (hbel.out.cell (p := ⟨b, off + j, none⟩) hb).trans (hc j hj)) hlt
      have hlt' : (k : Int) < (n : Int) := by omega
      have hB := hide (hbel.out.alloc hbel.out.size (.cells #[.int .i64 (at0 fl (k * 3)), .int .i64 (at0 fl (k * 3 + 1)), .int .i64 (at0 fl (k * 3 + 2))] 36))
      clear hc H
      by_cases h1 : inB (at0 fl (k * 3)) 1 50 = true
      · by_cases h2 : inB (at0 fl (k * 3 + 1)) 0 3 = true
        · by_cases h3 : inB (at0 fl (k * 3 + 2)) 1 20 = true
          · have HO := hide (show secOk fl k = true by simp [secOk, h1, h2, h3])
            go_wp2_with (go_at_call 17; refine (within_any _ _ _ _).mono ?_; rintro e w' ⟨rfl, rfl⟩)
            go_roundw
            case rel =>
              refine ⟨k + 1, by omega, by go_num, fun j hj => ?_, hB.out⟩
              by_cases hjk : j = k
              · rw [hjk]; exact HO.out
              · exact hall.out j (by omega)
            case measure => simp [intOf]; omega
          · have h3' : inB (at0 fl (k * 3 + 2)) 1 20 = false := by simpa using h3
            have HO := hide (cableOk_no hlt (show secOk fl k = false by simp [secOk, h3']))
            clear h3
            go_wp2_with (go_at_call 17; refine (within_any _ _ _ _).mono ?_; rintro e w' ⟨rfl, rfl⟩)
            go_ret
            exact ⟨ret_bool HO.out.symm, hB.out⟩
        · have h2' : inB (at0 fl (k * 3 + 1)) 0 3 = false := by simpa using h2
          have HO := hide (cableOk_no hlt (show secOk fl k = false by simp [secOk, h2']))
          clear h2
          go_wp2_with (go_at_call 17; refine (within_any _ _ _ _).mono ?_; rintro e w' ⟨rfl, rfl⟩)
          go_ret
          exact ⟨ret_bool HO.out.symm, hB.out⟩
      · have h1' : inB (at0 fl (k * 3)) 1 50 = false := by simpa using h1
        have HO := hide (cableOk_no hlt (show secOk fl k = false by simp [secOk, h1']))
        clear h1
        go_wp2_with (go_at_call 17; refine (within_any _ _ _ _).mono ?_; rintro e w' ⟨rfl, rfl⟩)
        go_ret
        exact ⟨ret_bool HO.out.symm, hB.out⟩
    · have hkk : k = n := by omega
      subst hkk
      have HO := hide (cableOk_all hall.out)
      clear hall H
      go_wp2_with (go_at_call 17; refine (within_any _ _ _ _).mono ?_; rintro e w' ⟨rfl, rfl⟩)
      go_ret
      exact ⟨ret_bool HO.out.symm, hbel.out⟩

end Go.Proofs.YtglknakgfnoeaaaDoor
