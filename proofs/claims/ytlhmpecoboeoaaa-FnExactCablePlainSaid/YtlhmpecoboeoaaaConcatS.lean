/-
  WALKS: two lists one behind the other ('slices.Concat').
-/
import Derived.Test.YtlhmpecoboeoaaaAppend
import Derived.Test.YtlhmpecoboeoaaaSecX
import Derived.Lib.AppendZeros
import Derived.OwnWalk
import Derived.Lib.SmallJoins
namespace Go.Proofs.Ytlhmpecoboeoaaa
set_option linter.unusedVariables false
set_option linter.unusedSimpArgs false
open Go.RowKit
attribute [local go_sem] Oper.semAt_some

set_option maxHeartbeats 2000000 in
theorem growS_any (n : Nat) (hn : n ≤ 4194304) (w : World) :
    Calls Try.prog 72 #[.slice none 0 0, .int .i64 (n : Int)] w fun e w' => ∃ v, e = .returned v ∧ w'.ownsRow w.heap.size 52 3 v 0 [] ∧ Below w.heap.size w w' := by
  obtain ⟨i0, hi, hz0, hz1, hz2⟩ := info_parts infoSec
  by_cases h0 : n = 0
  · subst h0
    go_enter Try.func72, Try.ntmps72
    go_wp2
    go_ret
    exact ⟨_, rfl, World.ownsRow_nil w _ _ _, Below.refl _ _⟩
  · have hr := Lib.run_append_nil_zeros (P := Try.prog) w 25 3 25 52 i0 (.agg #[.int .i64 0, .int .i64 0, .int .i64 0]) .i64 .i64 Try.underlying25 Try.underlying3 hi hz0 n (by omega) (by rw [hz1]; decide) (by omega) (by rw [hz2]; omega)
    have HR := hide hr
    have hp : (0 : Int) < (n : Int) := by omega
    clear hr
    go_enter Try.func72, Try.ntmps72
    go_wp2_with (at_builtin; refine Lib.wpList_append_run _ rfl _ _ _ _ rfl _ _ rfl rfl _ _ HR.out ?_)
    go_ret
    refine ⟨_, rfl, World.ownsRow_made (size := 3) w.drew _ _ (Nat.le_refl _) (grownCap_le_maxLen w n 0 _ (by unfold maxLen; omega)) ?_, (Below.refl _ _).drew.alloc (Nat.le_refl _) _⟩
    have := grownCap_ge w n 0 52
    simp only [Array.size_append, size_zeroCells]
    show n * 3 + (grownCap w n 0 52 - n) * 3 = _
    omega

set_option maxHeartbeats 4000000 in
theorem concatS_any (g : Nat) (A B : Option Addr) (n m c d : Nat) (xs ys : List Int) (w : World) (hl : xs.length = n * 3) (hl' : ys.length = m * 3) (hA : Ints w w.heap.size A xs) (hB : Ints w w.heap.size B ys)
    (hg : w.heap[g]? = some (.cells #[.slice A n c, .slice B m d] 25 (0, 0))) (hn : n ≤ 1048576) (hm : m ≤ 1048576) :
    Calls Try.prog 66 #[.slice (some ⟨g, 0, none⟩) 2 2] w fun e w' => ∃ v, e = .returned v ∧ w'.ownsRow w.heap.size 52 3 v (n + m) ((xs ++ ys).map (Value.int .i64)) ∧ Below w.heap.size w w' := by
  obtain ⟨i0, hi, hz0, hz1, hz2⟩ := info_parts infoSec
  have hgl : g < w.heap.size := by
    rcases Nat.lt_or_ge g w.heap.size with h | h
    · exact h
    · rw [Array.getElem?_eq_none h] at hg; cases hg
  have c0 : w.cell? ⟨g, 0, none⟩ = some (.slice A n c) := cell_of_row w g 0 _ _ _ hg
  have c1 : w.cell? ⟨g, 1, none⟩ = some (.slice B m d) := cell_of_row w g 1 _ _ _ hg
  have HA := hide hA
  have HB := hide hB
  have HL := hide hl
  have HL' := hide hl'
  clear hA hB hg hl hl'
  go_enter Try.func66, Try.ntmps66
  go_wp2
  go_loop [3, 11] (fun s i => ∃ k : Nat, k ≤ 2 ∧ i = .int .i64 (k : Int) ∧ s = .int .i64 (if k = 0 then 0 else if k = 1 then (n : Int) else (n : Int) + (m : Int))) (fun _ i => 2 - (intOf i).toNat)
  case atStart => exact ⟨0, by omega, rfl, rfl⟩
  case round =>
    obtain ⟨k, hk, rfl, rfl⟩ := hrel
    obtain rfl | rfl | rfl : k = 0 ∨ k = 1 ∨ k = 2 := by omega
    · go_wp2
      go_round
      case rel => exact ⟨1, by omega, by simp, by simp⟩
      case measure => simp [intOf]
    · go_wp2
      go_round
      case rel => exact ⟨2, by omega, by simp, by simp⟩
      case measure => simp [intOf]
    · simp only [show ¬ (2 = 0) by omega, show ¬ (2 = 1) by omega, if_false]
      go_wp2_with fail
      rw [show (n : Int) + (m : Int) = ((n + m : Nat) : Int) by omega]
      refine (growS_any (n + m) (by omega) _).mono ?_
      rintro e w1 ⟨v, rfl, hown, hb1⟩
      have HO := hide hown
      have HB1 := hide hb1
      have d0 := (hb1.cell (p := ⟨g, 0, none⟩) hgl).trans c0
      have d1 := (hb1.cell (p := ⟨g, 1, none⟩) hgl).trans c1
      have HC0 := hide c0
      have HC1 := hide c1
      clear hown hb1 c0 c1
      go_wp2_with fail
      go_loopw [6, 27] (fun v i wr => ∃ k : Nat, k ≤ 2 ∧ i = .int .i64 (k : Int) ∧ wr.ownsRow w.heap.size 52 3 v (if k = 0 then 0 else if k = 1 then n else n + m) (if k = 0 then [] else if k = 1 then xs.map (Value.int .i64) else (xs ++ ys).map (Value.int .i64)) ∧ Hid (Below w.heap.size w wr)) (fun _ i _ => 2 - (intOf i).toNat)
      case atStart => exact ⟨0, by omega, rfl, HO.out, HB1.out⟩
      case round =>
        obtain ⟨k, hk, rfl, hown, hbel⟩ := hrel
        have d0 := (hbel.out.cell (p := ⟨g, 0, none⟩) hgl).trans HC0.out
        have d1 := (hbel.out.cell (p := ⟨g, 1, none⟩) hgl).trans HC1.out
        obtain rfl | rfl | rfl : k = 0 ∨ k = 1 ∨ k = 2 := by omega
        · simp only [if_true] at hown
          have HO2 := hide hown
          clear hown
          obtain ⟨v', w2, hr, h2, h3⟩ := run_append_flat (P := Try.prog) wr w.heap.size 25 25 52 i0 (.agg #[.int .i64 0, .int .i64 0, .int .i64 0]) 3 24 Try.underlying25 hi hz0 hz1 hz2 rfl (by decide) _ _ _ HO2.out w.heap.size A n c xs HL.out (HA.out.below hbel.out) (by unfold maxLen; omega) (by omega) hbel.out.size
          have HR := hide hr
          clear hr
          go_wp2_with (at_builtin; refine Lib.wpList_append_run _ rfl _ _ _ _ rfl _ _ rfl rfl _ _ HR.out ?_)
          go_roundw
          case rel => exact ⟨1, by omega, by simp, by simpa using h2, hbel.out.trans (append_own_below HO2.out h3 hbel.out.size)⟩
          case measure => simp [intOf]
        · simp only [show ¬ (1 = 0) by omega, if_false, if_true] at hown
          have HO2 := hide hown
          clear hown
          obtain ⟨v', w2, hr, h2, h3⟩ := run_append_flat (P := Try.prog) wr w.heap.size 25 25 52 i0 (.agg #[.int .i64 0, .int .i64 0, .int .i64 0]) 3 24 Try.underlying25 hi hz0 hz1 hz2 rfl (by decide) _ _ _ HO2.out w.heap.size B m d ys HL'.out (HB.out.below hbel.out) (by unfold maxLen; omega) (by omega) hbel.out.size
          have HR := hide hr
          clear hr
          go_wp2_with (at_builtin; refine Lib.wpList_append_run _ rfl _ _ _ _ rfl _ _ rfl rfl _ _ HR.out ?_)
          go_roundw
          case rel => exact ⟨2, by omega, by simp, by simpa using h2, hbel.out.trans (append_own_below HO2.out h3 hbel.out.size)⟩
          case measure => simp [intOf]
        · simp only [show ¬ (2 = 0) by omega, show ¬ (2 = 1) by omega, if_false] at hown
          have HO2 := hide hown
          clear hown
          go_wp2
          go_ret
          exact ⟨_, rfl, HO2.out, hbel.out⟩

theorem concatS_new (W : World) (A B : Option Addr) (n m c d : Nat) (xs ys : List Int) (hl : xs.length = n * 3) (hl' : ys.length = m * 3) (hA : Ints W W.heap.size A xs) (hB : Ints W W.heap.size B ys) (hn : n ≤ 1048576) (hm : m ≤ 1048576) :
    Calls Try.prog 66 #[.slice (some ⟨W.heap.size, 0, none⟩) 2 2] (W.alloc (.cells #[.slice A n c, .slice B m d] 25)) fun e w' => ∃ v, e = .returned v ∧ w'.ownsRow W.heap.size 52 3 v (n + m) ((xs ++ ys).map (Value.int .i64)) ∧ Below W.heap.size W w' := by
  have hb : Below W.heap.size W (W.alloc (.cells #[.slice A n c, .slice B m d] 25)) := (Below.refl _ _).alloc (Nat.le_refl _) _
  refine (concatS_any W.heap.size A B n m c d xs ys _ hl hl' (hA.next hb) (hB.next hb) (heap_alloc_new W _) hn hm).mono ?_
  rintro e w' ⟨v, rfl, hown, hbel⟩
  exact ⟨v, rfl, Go.Joins.ownsRow_le hown hb.size, bt hb hbel⟩
end Go.Proofs.Ytlhmpecoboeoaaa
