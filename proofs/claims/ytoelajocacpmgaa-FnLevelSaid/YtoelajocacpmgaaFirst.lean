/-
  WALKS: the first greatest of a list; the deepest point, the steepest mile, the level: both the program's and the reference's.
-/
import Derived.Test.YtoelajocacpmgaaSpecNeeds
import Derived.WalkLawsBesides
namespace Go.Proofs.Ytoelajocacpmgaa
set_option linter.unusedVariables false
set_option linter.unusedSimpArgs false
open Go.RowKit

theorem firstTo_in (xs : List Int) {k : Nat} (h : k < xs.length) : firstTo xs k < xs.length := by
  by_cases h0 : k = 0
  · subst h0; simpa [firstTo] using h
  · have := firstTo_lt xs k (by omega); omega

set_option maxHeartbeats 800000 in
theorem l1First_any (A : Option Addr) (xs : List Int) (cap : Nat) (w : World) (h : Ints w w.heap.size A xs) (hn : xs.length ≤ 1048576) (hpos : 0 < xs.length) :
    Calls Try.prog 72 #[.slice A xs.length cap] w fun e w' => e = .returned (.int .i64 (firstMax xs : Int)) ∧ Below w.heap.size w w' := by
  obtain ⟨b, off, rfl, hb, hc⟩ := h hpos
  have HC := hide hc
  clear h hc
  go_enter Try.func72, Try.ntmps72
  go_wp2
  go_loopw [3, 4] (fun v i wr => ∃ k m : Nat, k ≤ xs.length ∧ v = .int .i64 (firstTo xs k : Int) ∧ i = .int .i64 (k : Int) ∧ wr = w.drewN m)
    (fun _ i _ => xs.length - (intOf i).toNat)
  case atStart => exact ⟨0, 0, Nat.zero_le _, rfl, rfl, rfl⟩
  case round =>
    obtain ⟨k, m, hk, rfl, rfl, rfl⟩ := hrel
    by_cases hlt : k < xs.length
    · have c1 := HC.out k hlt
      have hin := firstTo_in xs hlt
      have c2 := HC.out _ hin
      have HS := hide (show firstTo xs (k + 1) = if at0 xs (firstTo xs k) < at0 xs k then k else firstTo xs k from rfl)
      obtain ⟨q, hq⟩ : ∃ q, q = firstTo xs k := ⟨_, rfl⟩
      rw [← hq] at c2 hin HS ⊢
      clear hq
      have e1 : (k : Int) < (xs.length : Int) := by omega
      have e2 : (0 : Int) ≤ (k : Int) := by omega
      have e3 : (q : Int) < (xs.length : Int) := by omega
      have e4 : (0 : Int) ≤ (q : Int) := by omega
      by_cases hg : at0 xs q < at0 xs k
      · go_wp2
        go_quiet (fail)
        go_wp2
        go_roundw
        case rel => exact ⟨k + 1, _, by omega, by rw [HS.out, if_pos hg], by go_num, rfl⟩
        case measure => simp [intOf]; omega
      · go_wp2
        go_quiet (fail)
        go_wp2
        go_roundw
        case rel => exact ⟨k + 1, _, by omega, by rw [HS.out, if_neg (by omega)], by go_num, rfl⟩
        case measure => simp [intOf]; omega
    · have hkk : k = xs.length := by omega
      subst hkk
      go_wp2
      go_ret
      exact ⟨rfl, below_drewN (Below.refl _ _) _⟩

set_option maxHeartbeats 800000 in
theorem max_any (A : Option Addr) (xs : List Int) (cap : Nat) (w : World) (h : Ints w w.heap.size A xs) (hn : xs.length ≤ 1048576) (hpos : 0 < xs.length) :
    Calls Try.prog 75 #[.slice A xs.length cap] w fun e w' => e = .returned (.int .i64 (at0 xs (firstMax xs))) ∧ w = w' := by
  obtain ⟨b, off, rfl, hb, hc⟩ := h hpos
  have HC := hide hc
  have c0 : w.cell? ⟨b, off, none⟩ = some (.int .i64 (at0 xs 0)) := hc 0 hpos
  have HF := hide (show at0 xs (firstTo xs 1) = at0 xs 0 by
    have : firstTo xs 1 = 0 := by simp [firstTo]
    rw [this])
  clear h hc
  have e0 : ¬ (xs.length : Int) < 1 := by omega
  have e0' : (0 : Int) < (xs.length : Int) := by omega
  go_enter Try.func75, Try.ntmps75
  go_wp2
  go_loop [3, 4] (fun v i => ∃ k : Nat, 1 ≤ k ∧ k ≤ xs.length ∧ v = .int .i64 (at0 xs (firstTo xs k)) ∧ i = .int .i64 (k : Int))
    (fun _ i => xs.length - (intOf i).toNat)
  case atStart => exact ⟨1, Nat.le_refl _, hpos, by rw [HF.out], rfl⟩
  case round =>
    obtain ⟨k, hk1, hk, rfl, rfl⟩ := hrel
    by_cases hlt : k < xs.length
    · have c1 := HC.out k hlt
      have HS := hide (show firstTo xs (k + 1) = if at0 xs (firstTo xs k) < at0 xs k then k else firstTo xs k from rfl)
      obtain ⟨q, hq⟩ : ∃ q, q = firstTo xs k := ⟨_, rfl⟩
      rw [← hq] at HS ⊢
      clear hq
      by_cases hg : at0 xs q < at0 xs k
      · go_wp2
        go_round
        case rel => exact ⟨k + 1, by omega, by omega, by rw [HS.out, if_pos hg], by go_num⟩
        case measure => simp [intOf]; omega
      · go_wp2
        go_round
        case rel => exact ⟨k + 1, by omega, by omega, by rw [HS.out, if_neg (by omega)], by go_num⟩
        case measure => simp [intOf]; omega
    · have hkk : k = xs.length := by omega
      subst hkk
      go_wp2
      go_ret
      exact ⟨rfl, rfl⟩

set_option maxHeartbeats 800000 in
theorem index_any (A : Option Addr) (xs : List Int) (cap m : Nat) (w : World) (h : Ints w w.heap.size A xs) (hn : xs.length ≤ 1048576) (hm : m < xs.length) (hne : ∀ j, j < m → ¬ at0 xs m = at0 xs j) :
    Calls Try.prog 83 #[.slice A xs.length cap, .int .i64 (at0 xs m)] w fun e w' => e = .returned (.int .i64 (m : Int)) ∧ w = w' := by
  obtain ⟨b, off, rfl, hb, hc⟩ := h (by omega)
  have HC := hide hc
  have HN := hide hne
  clear h hc hne
  go_enter Try.func83, Try.ntmps83
  go_wp2
  go_loop [8] (fun i => ∃ k : Nat, k ≤ m ∧ i = .int .i64 (k : Int)) (fun i => xs.length - (intOf i).toNat)
  case atStart => exact ⟨0, Nat.zero_le _, rfl⟩
  case round =>
    obtain ⟨k, hk, rfl⟩ := hrel
    have c1 := HC.out k (by omega)
    have hlt : (k : Int) < (xs.length : Int) := by omega
    by_cases hkm : k = m
    · subst hkm
      go_wp2
      go_ret
      exact ⟨rfl, rfl⟩
    · have hq : (at0 xs m == at0 xs k) = false := beq_eq_false_iff_ne.2 (HN.out k (by omega))
      go_wp2
      go_round
      case rel => exact ⟨k + 1, by omega, by go_num⟩
      case measure => simp [intOf]; omega

theorem firstMost_any (A : Option Addr) (xs : List Int) (cap : Nat) (w : World) (h : Ints w w.heap.size A xs) (hn : xs.length ≤ 1048576) (hpos : 0 < xs.length) :
    Calls Try.prog 70 #[.slice A xs.length cap] w fun e w' => e = .returned (.int .i64 (firstMax xs : Int)) ∧ w = w' := by
  have H := hide h
  have HU := hide (fun j (hj : j < firstMax xs) => show ¬ at0 xs (firstMax xs) = at0 xs j by have := (firstTo_spec xs xs.length).2 j hj; unfold firstMax at *; omega)
  have hlt : firstMax xs < xs.length := firstTo_lt _ _ hpos
  clear h
  go_enter Try.func70, Try.ntmps70
  go_wp2_with (first | (go_at_call 75; refine (max_any _ xs _ _ H.out hn hpos).mono ?_; rintro e w' ⟨rfl, rfl⟩) | (go_at_call 83; refine (index_any _ xs _ _ _ H.out hn hlt HU.out).mono ?_; rintro e w' ⟨rfl, rfl⟩))
  go_ret
  exact ⟨rfl, rfl⟩

def deepest (xs : List Int) : Int := if floorOk xs = true then (firstMax xs : Int) else -1
def steepest (xs : List Int) : Int := if floorOk xs = true then (firstMax (needs xs) : Int) else -1
def level (xs : List Int) : Int := if floorOk xs = true then at0 (needs xs) (firstMax (needs xs)) else -1

theorem floorDeepest_any (A : Option Addr) (xs : List Int) (cap : Nat) (w : World) (h : Ints w w.heap.size A xs) (hn : xs.length ≤ 1048576) :
    Calls Try.prog 27 #[.slice A xs.length cap] w fun e w' => e = .returned (.int .i64 (deepest xs)) ∧ Below w.heap.size w w' := by
  have H := hide h
  clear h
  by_cases hf : floorOk xs = true
  · have HF := hide (show (firstMax xs : Int) = deepest xs by simp [deepest, hf])
    have hpos : 0 < xs.length := by have := floorOk_len hf; omega
    go_enter Try.func27, Try.ntmps27
    go_wp2_with (first | (go_at_call 63; refine (floorValid_any _ _ _ _ H.out hn).mono ?_; rintro e w1 ⟨rfl, hb1⟩) | (go_at_call 70; refine (firstMost_any _ xs _ _ (H.out.next hb1) hn hpos).mono ?_; rintro e w' ⟨rfl, rfl⟩))
    go_ret
    exact ⟨ret_int HF.out, hb1⟩
  · have hf' : floorOk xs = false := by simpa using hf
    have HF := hide (show -1 = deepest xs by simp [deepest, hf'])
    clear hf
    go_enter Try.func27, Try.ntmps27
    go_wp2_with (go_at_call 63; refine (floorValid_any _ _ _ _ H.out hn).mono ?_; rintro e w1 ⟨rfl, hb1⟩)
    go_ret
    exact ⟨ret_int HF.out, hb1⟩

theorem specFloorDeepest_any (A : Option Addr) (xs : List Int) (cap : Nat) (w : World) (h : Ints w w.heap.size A xs) (hn : xs.length ≤ 1048576) :
    Calls Try.prog 28 #[.slice A xs.length cap] w fun e w' => e = .returned (.int .i64 (deepest xs)) ∧ Below w.heap.size w w' := by
  have H := hide h
  clear h
  by_cases hf : floorOk xs = true
  · have HF := hide (show (firstMax xs : Int) = deepest xs by simp [deepest, hf])
    have hpos : 0 < xs.length := by have := floorOk_len hf; omega
    go_enter Try.func28, Try.ntmps28
    go_wp2_with (first | (go_at_call 71; refine (specFloorValid_any _ _ _ _ H.out hn).mono ?_; rintro e w1 ⟨rfl, rfl⟩) | (go_at_call 72; refine (l1First_any _ xs _ _ H.out hn hpos).mono ?_; rintro e w1 ⟨rfl, hb1⟩))
    go_ret
    exact ⟨ret_int HF.out, hb1⟩
  · have hf' : floorOk xs = false := by simpa using hf
    have HF := hide (show -1 = deepest xs by simp [deepest, hf'])
    clear hf
    go_enter Try.func28, Try.ntmps28
    go_wp2_with (go_at_call 71; refine (specFloorValid_any _ _ _ _ H.out hn).mono ?_; rintro e w1 ⟨rfl, rfl⟩)
    go_ret
    exact ⟨ret_int HF.out, Below.refl _ _⟩
end Go.Proofs.Ytoelajocacpmgaa
