/-
  WALKS: the steepest mile, the level: both the program's and the reference's.
-/
import Derived.Test.YtoelajocacpmgaaFirst
namespace Go.Proofs.Ytoelajocacpmgaa
set_option linter.unusedVariables false
set_option linter.unusedSimpArgs false
open Go.RowKit

theorem floorSteepest_any (A : Option Addr) (xs : List Int) (cap : Nat) (w : World) (h : Ints w w.heap.size A xs) (hn : xs.length ≤ 1048576) :
    Calls Try.prog 37 #[.slice A xs.length cap] w fun e w' => e = .returned (.int .i64 (steepest xs)) ∧ Below w.heap.size w w' := by
  have H := hide h
  clear h
  by_cases hf : floorOk xs = true
  · have HF := hide (show (firstMax (needs xs) : Int) = steepest xs by simp [steepest, hf])
    have HV := hide hf
    have hl := floorOk_len hf
    have hpos : 0 < (needs xs).length := by rw [needs_length]; omega
    have hn2 : (needs xs).length ≤ 1048576 := by rw [needs_length]; omega
    clear hf
    go_enter Try.func37, Try.ntmps37
    go_wp2_with fail
    refine (floorValid_any _ xs _ _ H.out hn).mono ?_
    rintro e w1 ⟨rfl, hb1⟩
    rw [HV.out]
    go_wp2_with fail
    refine (needs_any _ xs _ _ (H.out.next hb1) HV.out).mono ?_
    rintro e w2 ⟨A2, c2, rfl, h1, h2, hfr, hb2⟩
    go_wp2_with fail
    refine (firstMost_any _ (needs xs) _ _ (hfr.ints) hn2 hpos).mono ?_
    rintro e w' ⟨rfl, rfl⟩
    go_wp2
    go_ret
    exact ⟨ret_int HF.out, bt hb1 hb2⟩
  · have hf' : floorOk xs = false := by simpa using hf
    have HF := hide (show -1 = steepest xs by simp [steepest, hf'])
    clear hf
    go_enter Try.func37, Try.ntmps37
    go_wp2_with (go_at_call 63; refine (floorValid_any _ _ _ _ H.out hn).mono ?_; rintro e w1 ⟨rfl, hb1⟩)
    go_ret
    exact ⟨ret_int HF.out, hb1⟩

theorem specFloorSteepest_any (A : Option Addr) (xs : List Int) (cap : Nat) (w : World) (h : Ints w w.heap.size A xs) (hn : xs.length ≤ 1048576) :
    Calls Try.prog 38 #[.slice A xs.length cap] w fun e w' => e = .returned (.int .i64 (steepest xs)) ∧ Below w.heap.size w w' := by
  have H := hide h
  clear h
  by_cases hf : floorOk xs = true
  · have HF := hide (show (firstMax (needs xs) : Int) = steepest xs by simp [steepest, hf])
    have HV := hide hf
    have HO := hide (show needsOf xs = needs xs by simp [needsOf, hf])
    have hl := floorOk_len hf
    have hpos : 0 < (needs xs).length := by rw [needs_length]; omega
    have hn2 : (needs xs).length ≤ 1048576 := by rw [needs_length]; omega
    clear hf
    go_enter Try.func38, Try.ntmps38
    go_wp2_with fail
    refine (specFloorNeeds_any _ xs _ _ H.out hn).mono ?_
    rintro e w1 ⟨A2, c2, rfl, h1, h2, hfr, hb1⟩
    rw [HV.out]
    rw [HO.out] at h1 hfr ⊢
    go_wp2_with fail
    refine (l1First_any _ (needs xs) _ _ (hfr.ints) hn2 hpos).mono ?_
    rintro e w2 ⟨rfl, hb2⟩
    go_wp2
    go_ret
    exact ⟨ret_int HF.out, bt hb1 hb2⟩
  · have hf' : floorOk xs = false := by simpa using hf
    have HF := hide (show -1 = steepest xs by simp [steepest, hf'])
    clear hf
    go_enter Try.func38, Try.ntmps38
    go_wp2_with fail
    refine (specFloorNeeds_any _ xs _ _ H.out hn).mono ?_
    rintro e w1 ⟨A2, c2, rfl, h1, h2, hfr, hb1⟩
    go_wp2
    go_ret
    exact ⟨ret_int HF.out, hb1⟩

theorem payLevel_any (A : Option Addr) (xs : List Int) (cap : Nat) (w : World) (h : Ints w w.heap.size A xs) (hn : xs.length ≤ 1048576) :
    Calls Try.prog 39 #[.slice A xs.length cap] w fun e w' => e = .returned (.int .i64 (level xs)) ∧ Below w.heap.size w w' := by
  have H := hide h
  clear h
  by_cases hf : floorOk xs = true
  · have HF := hide (show at0 (needs xs) (firstMax (needs xs)) = level xs by simp [level, hf])
    have HV := hide hf
    have hl := floorOk_len hf
    have hpos : 0 < (needs xs).length := by rw [needs_length]; omega
    have hn2 : (needs xs).length ≤ 1048576 := by rw [needs_length]; omega
    clear hf
    go_enter Try.func39, Try.ntmps39
    go_wp2_with fail
    refine (floorValid_any _ xs _ _ H.out hn).mono ?_
    rintro e w1 ⟨rfl, hb1⟩
    rw [HV.out]
    go_wp2_with fail
    refine (needs_any _ xs _ _ (H.out.next hb1) HV.out).mono ?_
    rintro e w2 ⟨A2, c2, rfl, h1, h2, hfr, hb2⟩
    go_wp2_with fail
    refine (max_any _ (needs xs) _ _ (hfr.ints) hn2 hpos).mono ?_
    rintro e w' ⟨rfl, rfl⟩
    go_wp2
    go_ret
    exact ⟨ret_int HF.out, bt hb1 hb2⟩
  · have hf' : floorOk xs = false := by simpa using hf
    have HF := hide (show -1 = level xs by simp [level, hf'])
    clear hf
    go_enter Try.func39, Try.ntmps39
    go_wp2_with (go_at_call 63; refine (floorValid_any _ _ _ _ H.out hn).mono ?_; rintro e w1 ⟨rfl, hb1⟩)
    go_ret
    exact ⟨ret_int HF.out, hb1⟩

theorem specPayLevel_any (A : Option Addr) (xs : List Int) (cap : Nat) (w : World) (h : Ints w w.heap.size A xs) (hn : xs.length ≤ 1048576) :
    Calls Try.prog 41 #[.slice A xs.length cap] w fun e w' => e = .returned (.int .i64 (level xs)) ∧ Below w.heap.size w w' := by
  have H := hide h
  clear h
  by_cases hf : floorOk xs = true
  · have hl := floorOk_len hf
    have HD := hide (floorOk_deep hf)
    have hpos : 0 < (needs xs).length := by rw [needs_length]; omega
    have hlt : firstMax (needs xs) < (needs xs).length := firstTo_lt _ _ hpos
    rw [needs_length] at hlt
    have HF := hide (show needF xs (firstMax (needs xs)) = level xs by
      simp only [level, hf, if_true]
      rw [show at0 (needs xs) (firstMax (needs xs)) = needF xs (firstMax (needs xs)) from at0_upto _ hlt])
    have HS := hide (show steepest xs = (firstMax (needs xs) : Int) by simp [steepest, hf])
    clear hf hpos
    go_enter Try.func41, Try.ntmps41
    go_wp2_with fail
    refine (specFloorSteepest_any _ xs _ _ H.out hn).mono ?_
    rintro e w1 ⟨rfl, hb1⟩
    rw [HS.out]
    go_wp2_with fail
    refine (l1Need_any _ xs _ (firstMax (needs xs)) _ (H.out.next hb1) HD.out (by omega) (by omega)).mono ?_
    rintro e w2 ⟨nq, rfl, rfl⟩
    go_wp2
    go_ret
    exact ⟨ret_int HF.out, below_drewN hb1 _⟩
  · have hf' : floorOk xs = false := by simpa using hf
    have HF := hide (show -1 = level xs by simp [level, hf'])
    have HS := hide (show steepest xs = -1 by simp [steepest, hf'])
    clear hf
    go_enter Try.func41, Try.ntmps41
    go_wp2_with fail
    refine (specFloorSteepest_any _ xs _ _ H.out hn).mono ?_
    rintro e w1 ⟨rfl, hb1⟩
    rw [HS.out]
    go_wp2
    go_ret
    exact ⟨ret_int HF.out, hb1⟩
end Go.Proofs.Ytoelajocacpmgaa
