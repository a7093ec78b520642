/-
  WALKS: the floor of two floors: the reference's.
-/
import Derived.Test.YtoelajocacpmgaaSpecNeeds
import Derived.Test.YtoelajocacpmgaaConcat
import Derived.Deep.RegionHeld3
namespace Go.Proofs.Ytoelajocacpmgaa
set_option linter.unusedVariables false
set_option linter.unusedSimpArgs false
open Go.RowKit

/-- Two floors fit: the one ends where the other begins, and what they give is a floor. -/
def joinOk (xs ys : List Int) : Bool := (floorOk xs && floorOk ys) && ((at0 xs (xs.length - 1) == at0 ys 0) && floorOk (xs ++ ys.drop 1))
def join (xs ys : List Int) : List Int := if joinOk xs ys = true then xs ++ ys.drop 1 else []
theorem join_le (xs ys : List Int) : (join xs ys).length ≤ xs.length + ys.length := by
  unfold join; split
  · simp only [List.length_append, List.length_drop]; omega
  · exact Nat.zero_le _
theorem Ints.drop1 {w : World} {hi b off : Nat} {ys : List Int} (h : Ints w hi (some ⟨b, off, none⟩) ys) (hy : 0 < ys.length) : Ints w hi (some ⟨b, off + 1, none⟩) (ys.drop 1) := fun hp => by
  obtain ⟨b', off', e, hb, hc⟩ := h hy
  cases e
  refine ⟨b, off + 1, rfl, hb, fun j hj => ?_⟩
  rw [Nat.add_assoc, hc (1 + j) (by simp at hj; omega)]
  simp [at0, Nat.add_comm]

set_option maxHeartbeats 3200000 in
theorem specFloorJoin_any (A B : Option Addr) (xs ys : List Int) (c d : Nat) (w : World) (h : Ints w w.heap.size A xs) (h' : Ints w w.heap.size B ys) (hn : xs.length ≤ 1048576) (hn' : ys.length ≤ 1048576)
    (hc : xs.length ≤ c) (hcm : c ≤ 9223372036854775807) (hd : ys.length ≤ d) (hdm : d ≤ 9223372036854775807) :
    Calls Try.prog 56 #[.slice A xs.length c, .slice B ys.length d] w (RetList w (join xs ys) (joinOk xs ys)) := by
  have H := hide h
  have H' := hide h'
  clear h h'
  obtain ⟨i0, hi, hz0, hz1, hz2⟩ := info_parts infoInt
  have hV : ∀ m, Calls Try.prog 71 #[.slice A xs.length c] (w.drewN m) fun e w' => e = .returned (.bool (floorOk xs)) ∧ w' = w.drewN m := fun m =>
    (specFloorValid_any A xs c (w.drewN m) (H.out.next (below_drewN (Below.refl _ _) m)) hn).mono (by rintro e w' ⟨rfl, rfl⟩; exact ⟨rfl, rfl⟩)
  have hV' : ∀ m, Calls Try.prog 71 #[.slice B ys.length d] (w.drewN m) fun e w' => e = .returned (.bool (floorOk ys)) ∧ w' = w.drewN m := fun m =>
    (specFloorValid_any B ys d (w.drewN m) (H'.out.next (below_drewN (Below.refl _ _) m)) hn').mono (by rintro e w' ⟨rfl, rfl⟩; exact ⟨rfl, rfl⟩)
  by_cases h1 : floorOk xs = true
  · rw [h1] at hV
    have HV := hide hV
    clear hV
    by_cases h2 : floorOk ys = true
    · rw [h2] at hV'
      have HV' := hide hV'
      clear hV'
      obtain ⟨l1, l2⟩ := floorOk_len h1
      obtain ⟨k1, k2⟩ := floorOk_len h2
      obtain ⟨b, off, rfl, hb, hcx⟩ := H.out (by omega)
      obtain ⟨b', off', rfl, hb', hcy⟩ := H'.out (by omega)
      have c1 := hcx (xs.length - 1) (by omega)
      have c2 := hcy 0 (by omega)
      rw [Nat.add_zero] at c2
      have e1 : (0 : Int) ≤ (xs.length : Int) - 1 := by omega
      have e2 : (xs.length : Int) - 1 < (xs.length : Int) := by omega
      have e3 : ((xs.length : Int) - 1).toNat = xs.length - 1 := by omega
      have e4 : (0 : Int) < (ys.length : Int) := by omega
      have s1 : IntKind.i64.wrap ((xs.length : Int) - 1) = (xs.length : Int) - 1 := IntWalk.i64_in _ ⟨by omega, by omega⟩
      by_cases h3 : at0 xs (xs.length - 1) = at0 ys 0
      · have heq : (at0 xs (xs.length - 1) != at0 ys 0) = false := by simp [h3]
        obtain ⟨L, hL⟩ : ∃ L, L = xs ++ ys.drop 1 := ⟨_, rfl⟩
        have hj1 : L.length = xs.length + (ys.length - 1) := by rw [hL]; simp
        have HJ1 := hide hj1
        have H'd := hide (H'.out.drop1 (by omega))
        have hld := hide (show (ys.drop 1).length = (ys.length - 1) * 1 by simp)
        have e5 : (1 : Int) ≤ (ys.length : Int) := by omega
        have e6 : (1 : Int) ≤ (d : Int) := by omega
        have e7 : (ys.length : Int) ≤ (d : Int) := by omega
        have e8 : ¬ d = 1 := by omega
        by_cases h4 : floorOk L = true
        · have hok : joinOk xs ys = true := by rw [hL] at h4; unfold joinOk; rw [h1, h2, h3, h4]; simp
          have HN := hide (show join xs ys = L by rw [hL]; unfold join; rw [if_pos hok])
          have H4 := hide h4
          rw [HN.out, hok]
          have HL := hide hL
          clear hcx hcy h1 h2 h3 h4 hok hj1 hL
          go_enter Try.func56, Try.ntmps56
          go_wp2_with fail
          go_quiet ((go_at_call 71; first | with_reducible exact Calls.quiet_of_same (HV.out _) | with_reducible exact Calls.quiet_of_same (HV'.out _)))
          clear s1
          go_wp2_with fail
          go_region_held3 (fun w' => True) (trivial)
            ((first
              | (refine step_append_flat _ (by rfl) _ _ _ (by rfl) w.heap.size 3 i0 (.int .i64 0) 1 8 Try.underlying23 hi hz0 hz1 hz2 rfl (by decide) (.slice (some ⟨w.heap.size, 0, none⟩) 0 0) 0 [] (by rfl) (own_empty _ _ _) w.heap.size (some ⟨b, off, none⟩) xs.length c xs (by rfl) (by simp) (H.out.below (by repeat (first | (with_reducible exact Below.refl _ _) | (with_reducible refine below_drewN ?_ _) | (with_reducible refine Below.drew ?_) | (with_reducible refine Below.alloc ?_ (by simp) _)))) (by unfold maxLen; omega) (by omega) (by simp) ?_
                 intro v1 w1 hown1 hg1
                 have hB1 : Below w.heap.size w w1 := by
                   refine Below.trans ?_ (append_own_below (base := w.heap.size) (own_empty (w.drewN _) 3 1) hg1 (by simp))
                   repeat (first | (with_reducible exact Below.refl _ _) | (with_reducible refine below_drewN ?_ _) | (with_reducible refine Below.drew ?_) | (with_reducible refine Below.alloc ?_ (by simp) _)))
              | (refine step_append_flat _ (by rfl) _ _ _ (by rfl) w.heap.size 3 i0 (.int .i64 0) 1 8 Try.underlying23 hi hz0 hz1 hz2 rfl (by decide) v1 _ _ (by rfl) hown1 w.heap.size (some ⟨b', off' + 1, none⟩) (ys.length - 1) (d - 1) (ys.drop 1) (by rfl) hld (H'd.out.below hB1) (by unfold maxLen; omega) (by omega) hB1.size ?_
                 intro v2 w2 hown2 hg2
                 have hB2 : Below w.heap.size w w2 := hB1.trans (append_own_below hown1 hg2 hB1.size))))
          have hown3 : w2.ownsRow w.heap.size 3 1 v2 L.length (L.map (Value.int .i64)) := by rw [HJ1.out, HL.out]; simpa using hown2
          obtain ⟨A2, c2, rfl, g1, g2⟩ := own_form hown3
          unfold maxLen at g2
          have hfr := Fresh.of_own hown3
          have HG1 := hide g1
          clear hown1 hown2 hown3 g1
          go_wp2_with fail
          refine (specFloorValid_any A2 L c2 _ hfr.ints (by rw [HJ1.out]; omega)).mono ?_
          rintro e w' ⟨rfl, rfl⟩
          rw [H4.out]
          go_wp2
          go_ret2
          exact ⟨A2, c2, rfl, HG1.out, g2, hfr, hB2⟩
        · have h4' : floorOk L = false := by simpa using h4
          have hok : joinOk xs ys = false := by rw [hL] at h4'; unfold joinOk; rw [h4']; simp
          have HN := hide (show join xs ys = [] by simp [join, hok])
          clear h4
          have h4 := h4'
          clear h4'
          have H4 := hide h4
          rw [HN.out, hok]
          have HL := hide hL
          clear hcx hcy h1 h2 h3 h4 hok hj1 hL
          go_enter Try.func56, Try.ntmps56
          go_wp2_with fail
          go_quiet ((go_at_call 71; first | with_reducible exact Calls.quiet_of_same (HV.out _) | with_reducible exact Calls.quiet_of_same (HV'.out _)))
          clear s1
          go_wp2_with fail
          go_region_held3 (fun w' => True) (trivial)
            ((first
              | (refine step_append_flat _ (by rfl) _ _ _ (by rfl) w.heap.size 3 i0 (.int .i64 0) 1 8 Try.underlying23 hi hz0 hz1 hz2 rfl (by decide) (.slice (some ⟨w.heap.size, 0, none⟩) 0 0) 0 [] (by rfl) (own_empty _ _ _) w.heap.size (some ⟨b, off, none⟩) xs.length c xs (by rfl) (by simp) (H.out.below (by repeat (first | (with_reducible exact Below.refl _ _) | (with_reducible refine below_drewN ?_ _) | (with_reducible refine Below.drew ?_) | (with_reducible refine Below.alloc ?_ (by simp) _)))) (by unfold maxLen; omega) (by omega) (by simp) ?_
                 intro v1 w1 hown1 hg1
                 have hB1 : Below w.heap.size w w1 := by
                   refine Below.trans ?_ (append_own_below (base := w.heap.size) (own_empty (w.drewN _) 3 1) hg1 (by simp))
                   repeat (first | (with_reducible exact Below.refl _ _) | (with_reducible refine below_drewN ?_ _) | (with_reducible refine Below.drew ?_) | (with_reducible refine Below.alloc ?_ (by simp) _)))
              | (refine step_append_flat _ (by rfl) _ _ _ (by rfl) w.heap.size 3 i0 (.int .i64 0) 1 8 Try.underlying23 hi hz0 hz1 hz2 rfl (by decide) v1 _ _ (by rfl) hown1 w.heap.size (some ⟨b', off' + 1, none⟩) (ys.length - 1) (d - 1) (ys.drop 1) (by rfl) hld (H'd.out.below hB1) (by unfold maxLen; omega) (by omega) hB1.size ?_
                 intro v2 w2 hown2 hg2
                 have hB2 : Below w.heap.size w w2 := hB1.trans (append_own_below hown1 hg2 hB1.size))))
          have hown3 : w2.ownsRow w.heap.size 3 1 v2 L.length (L.map (Value.int .i64)) := by rw [HJ1.out, HL.out]; simpa using hown2
          obtain ⟨A2, c2, rfl, g1, g2⟩ := own_form hown3
          unfold maxLen at g2
          have hfr := Fresh.of_own hown3
          have HG1 := hide g1
          clear hown1 hown2 hown3 g1
          go_wp2_with fail
          refine (specFloorValid_any A2 L c2 _ hfr.ints (by rw [HJ1.out]; omega)).mono ?_
          rintro e w' ⟨rfl, rfl⟩
          rw [H4.out]
          go_wp2
          go_ret2
          exact ⟨_, 0, rfl, Nat.le_refl _, by omega, Fresh.nil _ _ _ _, hB2.alloc hB2.size _⟩
      · have hne : (at0 xs (xs.length - 1) != at0 ys 0) = true := by simpa using h3
        have hne' : (at0 xs (xs.length - 1) == at0 ys 0) = false := by simpa using h3
        have hok : joinOk xs ys = false := by simp [joinOk, hne']
        have HN := hide (show join xs ys = [] by simp [join, hok])
        rw [HN.out, hok]
        clear hcx hcy h1 h2 h3 hok
        go_enter Try.func56, Try.ntmps56
        go_wp2_with fail
        go_quiet ((go_at_call 71; first | with_reducible exact Calls.quiet_of_same (HV.out _) | with_reducible exact Calls.quiet_of_same (HV'.out _)))
        clear s1
        go_wp2
        go_ret2
        exact ⟨_, 0, rfl, Nat.le_refl _, by omega, Fresh.nil _ _ _ _, (below_drewN (Below.refl _ _) _).alloc (Nat.le_refl _) _⟩
    · have h2' : floorOk ys = false := by simpa using h2
      rw [h2'] at hV'
      have HV' := hide hV'
      have hok : joinOk xs ys = false := by simp [joinOk, h2']
      have HN := hide (show join xs ys = [] by simp [join, hok])
      rw [HN.out, hok]
      clear h1 h2 h2' hV' hok
      go_enter Try.func56, Try.ntmps56
      go_wp2_with fail
      go_quiet ((go_at_call 71; first | with_reducible exact Calls.quiet_of_same (HV.out _) | with_reducible exact Calls.quiet_of_same (HV'.out _)))
      go_wp2
      go_ret2
      exact ⟨_, 0, rfl, Nat.le_refl _, by omega, Fresh.nil _ _ _ _, (below_drewN (Below.refl _ _) _).alloc (Nat.le_refl _) _⟩
  · have h1' : floorOk xs = false := by simpa using h1
    rw [h1'] at hV
    have HV := hide hV
    have hok : joinOk xs ys = false := by simp [joinOk, h1']
    have HN := hide (show join xs ys = [] by simp [join, hok])
    rw [HN.out, hok]
    clear h1 h1' hV hV' hok
    go_enter Try.func56, Try.ntmps56
    go_wp2_with fail
    go_quiet ((go_at_call 71; exact Calls.quiet_of_same (HV.out _)))
    go_wp2
    go_ret2
    exact ⟨_, 0, rfl, Nat.le_refl _, by omega, Fresh.nil _ _ _ _, (below_drewN (Below.refl _ _) _).alloc (Nat.le_refl _) _⟩
end Go.Proofs.Ytoelajocacpmgaa
