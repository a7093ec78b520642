/-
  WALKS: two points of a floor, and the length between them: the reference's; the law FnExactFloorLength.
-/
import Derived.Test.YtoelajocacpmgaaSpecNeeds
namespace Go.Proofs.Ytoelajocacpmgaa
set_option linter.unusedVariables false
set_option linter.unusedSimpArgs false
open Go.RowKit

theorem ptsOk_two {xs : List Int} {f t : Int} (h1 : floorOk xs = true) : ptsOk xs f t = (inB f 0 ((xs.length : Int) - 1) && inB t f ((xs.length : Int) - 1)) := by
  rw [Bool.eq_iff_iff, ptsOk_iff]
  simp only [Bool.and_eq_true, inB_iff, h1, true_and]
  omega

theorem l1Two_any (A : Option Addr) (xs : List Int) (cap : Nat) (f t : Int) (w : World) (h : Ints w w.heap.size A xs) (hn : xs.length ≤ 1048576) :
    Calls Try.prog 68 #[.slice A xs.length cap, .int .i64 f, .int .i64 t] w fun e w' => e = .returned (.bool (ptsOk xs f t)) ∧ w = w' := by
  have H := hide h
  clear h
  by_cases h1 : floorOk xs = true
  · have HP := hide (ptsOk_two (f := f) (t := t) h1)
    rw [HP.out]
    by_cases h2 : inB f 0 ((xs.length : Int) - 1) = true
    · go_enter Try.func68, Try.ntmps68
      go_wp2_with (first | (go_at_call 71; refine (specFloorValid_any _ _ _ _ H.out hn).mono ?_; rintro e w1 ⟨rfl, rfl⟩) | (go_at_call 78; refine (l6In_any _ _ _ _).mono ?_; rintro e w' ⟨rfl, rfl⟩))
      go_ret
      exact ⟨ret_bool (by simp [h2]), rfl⟩
    · have h2' : inB f 0 ((xs.length : Int) - 1) = false := by simpa using h2
      clear h2
      go_enter Try.func68, Try.ntmps68
      go_wp2_with (first | (go_at_call 71; refine (specFloorValid_any _ _ _ _ H.out hn).mono ?_; rintro e w1 ⟨rfl, rfl⟩) | (go_at_call 78; refine (l6In_any _ _ _ _).mono ?_; rintro e w' ⟨rfl, rfl⟩))
      go_ret
      exact ⟨ret_bool (by simp [h2']), rfl⟩
  · have h1' : floorOk xs = false := by simpa using h1
    have HF := hide (show false = ptsOk xs f t by simp [ptsOk, h1'])
    clear h1
    go_enter Try.func68, Try.ntmps68
    go_wp2_with (go_at_call 71; refine (specFloorValid_any _ _ _ _ H.out hn).mono ?_; rintro e w1 ⟨rfl, rfl⟩)
    go_ret
    exact ⟨ret_bool HF.out, rfl⟩

set_option maxHeartbeats 800000 in
theorem specFloorLength_any (A : Option Addr) (xs : List Int) (cap : Nat) (f t : Int) (w : World) (h : Ints w w.heap.size A xs) (hn : xs.length ≤ 1048576) :
    Calls Try.prog 25 #[.slice A xs.length cap, .int .i64 f, .int .i64 t] w fun e w' => e = .returned (.int .i64 (floorLen xs f t)) ∧ Below w.heap.size w w' := by
  by_cases hp : ptsOk xs f t = true
  · obtain ⟨hf, h0, h1, h2⟩ := ptsOk_iff.1 hp
    obtain ⟨f, rfl⟩ := Int.eq_ofNat_of_zero_le h0
    obtain ⟨t, rfl⟩ := Int.eq_ofNat_of_zero_le (show 0 ≤ t by omega)
    obtain ⟨hl1, hl2⟩ := floorOk_len hf
    have hft : f ≤ t := by omega
    have htl : t < xs.length := by omega
    have HF := hide (show sumN (fun i => needF xs (f + i)) (t - f) = floorLen xs f t by simp [floorLen, hp])
    have HD := hide (floorOk_deep hf)
    have HP := hide hp
    have HB := hide (fun k (hk : k ≤ t - f) => sumN_bd (f := fun i => needF xs (f + i)) (lo := 10) (hi := 50) (n := t - f) (fun j hj => needF_bd (floorOk_deep hf) (i := f + j) (by omega)) hk)
    have H := hide h
    clear h hf hp
    go_enter Try.func25, Try.ntmps25
    go_wp2_with fail
    refine (l1Two_any _ xs _ _ _ _ H.out hn).mono ?_
    rintro e w' ⟨rfl, rfl⟩
    rw [HP.out]
    go_wp2_with fail
    clear h0 h1 h2
    go_loopw [7, 8] (fun v i wr => ∃ k m : Nat, f ≤ k ∧ k ≤ t ∧ v = .int .i64 (sumN (fun i => needF xs (f + i)) (k - f)) ∧ i = .int .i64 (k : Int) ∧ wr = w.drewN m)
      (fun _ i _ => t - (intOf i).toNat)
    case atStart => exact ⟨f, 0, Nat.le_refl _, hft, by rw [Nat.sub_self]; rfl, rfl, rfl⟩
    case round =>
      obtain ⟨k, m, hk1, hk, rfl, rfl, rfl⟩ := hrel
      have hbd := HB.out (k - f) (by omega)
      by_cases hlt : k < t
      · obtain ⟨n1, n2⟩ := needF_bd HD.out (i := k) (by omega)
        have HS := hide (show sumN (fun i => needF xs (f + i)) (k + 1 - f) = sumN (fun i => needF xs (f + i)) (k - f) + needF xs k by
          rw [show k + 1 - f = k - f + 1 by omega]
          show _ + needF xs (f + (k - f)) = _
          rw [show f + (k - f) = k by omega])
        obtain ⟨b1, b2⟩ := hbd
        have b3 : -1 ≤ sumN (fun i => needF xs (f + i)) (k - f) ∧ sumN (fun i => needF xs (f + i)) (k - f) ≤ 10000 := by omega
        obtain ⟨b4, b5⟩ := b3
        clear b1 b2
        go_wp2_with fail
        refine (l1Need_any _ xs _ k _ (H.out.next (below_drewN (Below.refl _ w) m)) HD.out (by omega) hl2).mono ?_
        rintro e w' ⟨nq, rfl, rfl⟩
        go_wp2
        go_roundw
        case rel => exact ⟨k + 1, _, by omega, by omega, by rw [HS.out], by go_num, rfl⟩
        case measure => simp [intOf]; omega
      · have hkk : k = t := by omega
        clear hbd
        go_wp2
        go_ret
        exact ⟨ret_int (by rw [hkk]; exact HF.out), below_drewN (Below.refl _ _) _⟩
  · have hp' : ptsOk xs f t = false := by simpa using hp
    have HF := hide (show -1 = floorLen xs f t by simp [floorLen, hp'])
    have H := hide h
    clear h hp
    go_enter Try.func25, Try.ntmps25
    go_wp2_with (go_at_call 68; refine (l1Two_any _ xs _ _ _ _ H.out hn).mono ?_; rintro e w1 ⟨rfl, rfl⟩)
    go_ret
    exact ⟨ret_int HF.out, Below.refl _ _⟩
end Go.Proofs.Ytoelajocacpmgaa
