/-
  WALKS: the floor between two points: the reference's.
-/
import Derived.Test.YtoelajocacpmgaaPartI
import Derived.Test.YtoelajocacpmgaaAppend
namespace Go.Proofs.Ytoelajocacpmgaa
set_option linter.unusedVariables false
set_option linter.unusedSimpArgs false
open Go.RowKit

set_option maxHeartbeats 1600000 in
theorem specFloorPart_any (A : Option Addr) (xs : List Int) (cap : Nat) (f t : Int) (w : World) (h : Ints w w.heap.size A xs) (hn : xs.length ≤ 1048576) (hcap : xs.length ≤ cap) (hcm : cap ≤ 9223372036854775807) :
    Calls Try.prog 35 #[.slice A xs.length cap, .int .i64 f, .int .i64 t] w (RetList w (part xs f t) (partOk xs f t)) := by
  have H := hide h
  obtain ⟨i0, hi, hz0, hz1, hz2⟩ := info_parts infoInt
  by_cases hp : ptsOk xs f t = true
  · by_cases hft : f = t
    · have hq : partOk xs f t = false := by simp [partOk, hft]
      have HN := hide (show part xs f t = [] by simp [part, hq])
      have HP := hide hp
      rw [HN.out, hq]
      subst hft
      clear h hp hq
      go_enter Try.func35, Try.ntmps35
      go_wp2_with fail
      refine (l1Two_any _ xs cap f f _ H.out hn).mono ?_
      rintro e w1 ⟨rfl, rfl⟩
      rw [HP.out]
      go_wp2
      go_ret2
      exact ⟨_, 0, rfl, Nat.le_refl _, by omega, Fresh.nil _ _ _ _, (Below.refl _ _).alloc (Nat.le_refl _) _⟩
    · obtain ⟨hf, h0, h1, h2⟩ := ptsOk_iff.1 hp
      obtain ⟨f, rfl⟩ := Int.eq_ofNat_of_zero_le h0
      obtain ⟨t, rfl⟩ := Int.eq_ofNat_of_zero_le (show 0 ≤ t by omega)
      obtain ⟨hl1, hl2⟩ := floorOk_len hf
      have hq : partOk xs (f : Int) (t : Int) = true := by simp [partOk, hp]; omega
      have HN := hide (show part xs (f : Int) (t : Int) = (xs.drop f).take (t + 1 - f) by simp [part, hq])
      have HP := hide hp
      rw [HN.out, hq]
      obtain ⟨b, off, rfl, hb, hc⟩ := h (by omega)
      have hne : ((f : Int) == (t : Int)) = false := beq_eq_false_iff_ne.2 hft
      have e1 : (f : Int) ≤ (t : Int) + 1 := by omega
      have e2 : (t : Int) + 1 ≤ (cap : Int) := by omega
      have e3 : ¬ cap = f := by omega
      obtain ⟨pt, hpt⟩ : ∃ pt, pt = (xs.drop f).take (t + 1 - f) := ⟨_, rfl⟩
      have hpl : t + 1 - f = pt.length := by rw [hpt]; simp; omega
      have hpa : ∀ i, i < pt.length → at0 pt i = at0 xs (f + i) := fun i hi => by
        rw [hpt]; simp [at0, show i < t + 1 - f by omega]
      have hpi : Ints w w.heap.size (some ⟨b, off + f, none⟩) pt := fun _ => by
        refine ⟨b, off + f, rfl, hb, fun j hj => ?_⟩
        rw [Nat.add_assoc, hc (f + j) (by omega), hpa j hj]
      rw [← hpt]
      have hB0 : Below w.heap.size w (w.alloc (.cells #[] 3)) := (Below.refl _ w).alloc (Nat.le_refl _) _
      obtain ⟨v', w2, hr, g2, g3⟩ := run_append_flat (P := Try.prog) (w.alloc (.cells #[] 3)) w.heap.size 23 23 3 i0 (.int .i64 0) 1 8 Try.underlying23 hi hz0 hz1 hz2 rfl (by decide) _ 0 [] (own_empty w _ 1)
        w.heap.size (some ⟨b, off + f, none⟩) pt.length (cap - f) pt (by simp) (hpi.below hB0) (by unfold maxLen; omega) (by omega) (by simp)
      have HR := hide hr
      have HPL := hide hpl
      have HG := hide (append_own_below (own_empty w 3 1) g3 (by simp))
      have G2 := hide g2
      clear hpt hpl hpa hpi h hc hf hp hq hft hr g2 g3
      go_enter Try.func35, Try.ntmps35
      go_wp2_with fail
      refine (l1Two_any _ xs cap f t _ H.out hn).mono ?_
      rintro e w1 ⟨rfl, rfl⟩
      rw [HP.out]
      go_wp2_with (at_builtin; rw [HPL.out]; refine Lib.wpList_append_run _ rfl _ _ _ _ rfl _ _ rfl rfl _ _ HR.out ?_)
      go_ret2
      have hown := G2.out
      simp only [Nat.zero_add, List.nil_append] at hown
      obtain ⟨A2, c2, rfl, k1, k2⟩ := own_form hown
      unfold maxLen at k2
      exact ⟨A2, c2, rfl, k1, by omega, Fresh.of_own hown, hB0.trans HG.out⟩
  · have hp' : ptsOk xs f t = false := by simpa using hp
    have hq : partOk xs f t = false := by simp [partOk, hp']
    have HN := hide (show part xs f t = [] by simp [part, hq])
    rw [HN.out, hq]
    clear h hp hq
    go_enter Try.func35, Try.ntmps35
    go_wp2_with (go_at_call 68; refine (l1Two_any _ xs cap f t _ H.out hn).mono ?_; rintro e w1 ⟨rfl, rfl⟩)
    go_ret2
    exact ⟨_, 0, rfl, Nat.le_refl _, by omega, Fresh.nil _ _ _ _, (Below.refl _ _).alloc (Nat.le_refl _) _⟩
end Go.Proofs.Ytoelajocacpmgaa
