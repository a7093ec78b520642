/-
  WALKS: marking a list of sections, and asking whether the marks are held.
-/
import Derived.Test.YtlhmpecoboeoaaaSecX
import Derived.Test.YtlhmpecoboeoaaaMarkBase
namespace Go.Proofs.Ytlhmpecoboeoaaa
set_option linter.unusedVariables false
set_option linter.unusedSimpArgs false
open Go.RowKit

theorem grown3 {w wr : World} {b i j l : Nat} {u v x : Value} (h : w.grownBy wr (some b)) : w.grownBy (((wr.setCell ⟨b, i, none⟩ u).setCell ⟨b, j, none⟩ v).setCell ⟨b, l, none⟩ x) (some b) :=
  ⟨h.os, h.tape, h.output, by have := h.size; simpa [World.setCell] using this, fun k hk hne => by
    have hbk : k ≠ b := fun e => hne (by rw [e])
    exact (Below.heap_setCell _ ⟨b, l, none⟩ x k hbk).trans ((Below.heap_setCell _ ⟨b, j, none⟩ v k hbk).trans ((Below.heap_setCell wr ⟨b, i, none⟩ u k hbk).trans (h.block k hk hne)))⟩
theorem cell3 {wr : World} {b off i j : Nat} {u v x u0 u1 u2 : Value} (c0 : wr.cell? ⟨b, off + i, none⟩ = some u0) (c1 : wr.cell? ⟨b, off + i + 1, none⟩ = some u1) (c2 : wr.cell? ⟨b, off + i + 2, none⟩ = some u2) :
    (((wr.setCell ⟨b, off + i, none⟩ u).setCell ⟨b, off + i + 1, none⟩ v).setCell ⟨b, off + i + 2, none⟩ x).cell? ⟨b, off + j, none⟩ = if j = i then some u else if j = i + 1 then some v else if j = i + 2 then some x else wr.cell? ⟨b, off + j, none⟩ := by
  have o : ∀ (W : World) (p q : Nat) (y : Value), p ≠ q → (W.setCell ⟨b, p, none⟩ y).cell? ⟨b, q, none⟩ = W.cell? ⟨b, q, none⟩ := fun W p q y hpq => World.cell?_setCell_other _ _ _ _ (fun e => hpq (congrArg Addr.off e))
  by_cases h1 : j = i
  · subst h1
    rw [if_pos rfl, o _ _ _ _ (by omega), o _ _ _ _ (by omega)]
    exact World.cell?_setCell_same' _ _ _ (by rw [c0]; rfl)
  · by_cases h2 : j = i + 1
    · subst h2
      rw [if_neg h1, if_pos rfl, o _ _ _ _ (by omega)]
      exact World.cell?_setCell_same' _ _ _ (by rw [o _ _ _ _ (by omega)]; show (wr.cell? ⟨b, off + i + 1, none⟩).isSome = true; rw [c1]; rfl)
    · by_cases h3 : j = i + 2
      · subst h3
        rw [if_neg h1, if_neg h2, if_pos rfl]
        exact World.cell?_setCell_same' _ _ _ (by rw [o _ _ _ _ (by omega), o _ _ _ _ (by omega)]; show (wr.cell? ⟨b, off + i + 2, none⟩).isSome = true; rw [c2]; rfl)
      · rw [if_neg h1, if_neg h2, if_neg h3, o _ _ _ _ (by omega), o _ _ _ _ (by omega), o _ _ _ _ (by omega)]

set_option maxHeartbeats 1600000 in
theorem markSectionS_any (lo hi : Nat) (A : Option Addr) (fl : List Int) (m cap : Nat) (k : Int) (w : World) (hl : fl.length = m * 3) (h : Fresh w lo hi A fl) (hh : hi ≤ w.heap.size) (hn : m ≤ 4194304) (hk0 : 0 ≤ k) (hk : k ≤ 1000000000) :
    Calls Try.prog 29 #[.slice A m cap, .int .i64 k] w (Marked w lo hi A k (m * 3)) := by
  have HL := hide hl
  by_cases h0 : m = 0
  · subst h0
    have hx : fl = [] := List.length_eq_zero_iff.1 (by omega)
    subst hx
    clear hl
    go_enter Try.func29, Try.ntmps29
    go_wp2
    go_loop [1, 5] (fun v i => v = .int .i64 k ∧ i = .int .i64 0) (fun _ _ => 0)
    case atStart => exact ⟨rfl, rfl⟩
    case round =>
      obtain ⟨rfl, rfl⟩ := hrel
      go_wp2
      go_ret
      exact ⟨by simp, Fresh.nil _ _ _ _, rfl, none, World.grownBy.refl w _, fun g e => by cases e⟩
  · obtain ⟨b, off, rfl, hlo, hhi, hc⟩ := h (by omega)
    have HC := hide hc
    have HH := hide h
    clear h hc hl
    go_enter Try.func29, Try.ntmps29
    go_wp2
    go_loopw [1, 5] (fun v i wr => ∃ n : Nat, n ≤ m ∧ v = .int .i64 (k + 3 * (n : Int)) ∧ i = .int .i64 (n : Int) ∧ Hid (wr.heap.size = w.heap.size) ∧ Hid (w.grownBy wr (some b)) ∧
        Hid (∀ j, j < n * 3 → wr.cell? ⟨b, off + j, none⟩ = some (.int .i64 (k + (j : Int)))) ∧ Hid (∀ j, n * 3 ≤ j → j < m * 3 → wr.cell? ⟨b, off + j, none⟩ = some (.int .i64 (at0 fl j))) ∧ Hid (∀ j, j < m * 3 → wr.frozen? ⟨b, off + j, none⟩ = false))
      (fun _ i _ => m - (intOf i).toNat)
    case atStart => exact ⟨0, Nat.zero_le _, by simp, rfl, rfl, World.grownBy.refl w _, fun j hj => absurd hj (by omega), fun j _ hj => (HC.out j (by have := HL.out; omega)).1, fun j hj => (HC.out j (by have := HL.out; omega)).2⟩
    case round =>
      obtain ⟨n, hnl, rfl, rfl, hsz, hg, hold, hnew, hfz⟩ := hrel
      by_cases hlt : n < m
      · have c0 := hnew.out (n * 3) (Nat.le_refl _) (by omega)
        have c1 := hnew.out (n * 3 + 1) (by omega) (by omega)
        have c2 := hnew.out (n * 3 + 2) (by omega) (by omega)
        have f0 := hfz.out (n * 3) (by omega)
        have f1 := hfz.out (n * 3 + 1) (by omega)
        have f2 := hfz.out (n * 3 + 2) (by omega)
        rw [← Nat.add_assoc] at c1 c2 f1 f2
        have hlt' : (n : Int) < (m : Int) := by omega
        go_wp2
        go_roundw
        case rel =>
          refine ⟨n + 1, by omega, by go_num, by go_num, ?_, ?_, ?_, ?_, ?_⟩
          · show (World.setCell _ _ _).heap.size = _
            simpa [World.setCell] using hsz.out
          · exact grown3 hg.out
          · intro j hj
            show (World.setCell _ _ _).cell? _ = _
            rw [cell3 c0 c1 c2]
            by_cases h1 : j = n * 3
            · subst h1; rw [if_pos rfl]; congr 2; omega
            · by_cases h2 : j = n * 3 + 1
              · subst h2; rw [if_neg (by omega), if_pos rfl]; congr 2; omega
              · by_cases h3 : j = n * 3 + 2
                · subst h3; rw [if_neg (by omega), if_neg (by omega), if_pos rfl]; congr 2; omega
                · rw [if_neg (by omega), if_neg (by omega), if_neg (by omega)]; exact hold.out j (by omega)
          · intro j hj1 hj2
            show (World.setCell _ _ _).cell? _ = _
            rw [cell3 c0 c1 c2, if_neg (by omega), if_neg (by omega), if_neg (by omega)]
            exact hnew.out j (by omega) hj2
          · intro j hj
            show (World.setCell _ _ _).frozen? _ = _
            rw [World.frozen?_setCell, World.frozen?_setCell, World.frozen?_setCell]; exact hfz.out j hj
        case measure => simp [intOf]; omega
      · have hkk : n = m := by omega
        subst hkk
        go_wp2
        go_ret
        refine ⟨ret_int (by omega), fun hp => ⟨b, off, rfl, hlo, hhi, fun j hj => ?_⟩, hsz.out, some b, hg.out, fun g e => by cases e; exact ⟨hlo, hhi⟩⟩
        rw [marks_length] at hj
        rw [at0_marks k hj]
        exact ⟨hold.out j hj, hfz.out j hj⟩

set_option maxHeartbeats 1600000 in
theorem heldSectionS_any (A : Option Addr) (n : Nat) (cap : Nat) (k : Int) (w : World) (h : Ints w w.heap.size A (marks k (n * 3))) (hn : n ≤ 4194304) (hk0 : 0 ≤ k) (hk : k ≤ 1000000000) :
    Calls Try.prog 30 #[.slice A n cap, .int .i64 k] w fun e w' => e = .returned (.int .i64 (k + ((n * 3 : Nat) : Int))) ∧ w = w' := by
  have H := hide h
  clear h
  go_enter Try.func30, Try.ntmps30
  go_wp2
  go_loop [1, 5] (fun v i => ∃ j : Nat, j ≤ n ∧ v = .int .i64 (k + 3 * (j : Int)) ∧ i = .int .i64 (j : Int)) (fun _ i => n - (intOf i).toNat)
  case atStart => exact ⟨0, Nat.zero_le _, by simp, rfl⟩
  case round =>
    obtain ⟨j, hj, rfl, rfl⟩ := hrel
    by_cases hlt : j < n
    · obtain ⟨b, off, rfl, hb, hc⟩ := H.out (by rw [marks_length]; omega)
      have c0 := hc (j * 3) (by rw [marks_length]; omega)
      have c1 := hc (j * 3 + 1) (by rw [marks_length]; omega)
      have c2 := hc (j * 3 + 2) (by rw [marks_length]; omega)
      rw [at0_marks k (by omega)] at c0 c1 c2
      rw [← Nat.add_assoc] at c1 c2
      rw [show k + ((j * 3 : Nat) : Int) = k + 3 * (j : Int) by omega] at c0
      rw [show k + ((j * 3 + 1 : Nat) : Int) = k + 3 * (j : Int) + 1 by omega] at c1
      rw [show k + ((j * 3 + 2 : Nat) : Int) = k + 3 * (j : Int) + 1 + 1 by omega] at c2
      have hlt' : (j : Int) < (n : Int) := by omega
      clear hc H
      go_wp2
      go_round
      case rel => exact ⟨j + 1, by omega, by go_num, by go_num⟩
      case measure => simp [intOf]; omega
    · have hkk : j = n := by omega
      subst hkk
      go_wp2
      go_ret
      exact ⟨ret_int (by omega), rfl⟩
end Go.Proofs.Ytlhmpecoboeoaaa
