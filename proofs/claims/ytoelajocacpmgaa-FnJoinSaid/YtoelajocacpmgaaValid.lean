/-
  WALKS: a number between two others; lists of them; floors and pay-outs that are valid: the program's functions and the reference's return the same plain Lean values.
-/
import Derived.Test.YtoelajocacpmgaaBase
import Derived.Test.YtoelajocacpmgaaProg
namespace Go.Proofs.Ytoelajocacpmgaa
set_option linter.unusedVariables false
set_option linter.unusedSimpArgs false
open Go.RowKit

theorem l6In_any (n lo hi : Int) (w : World) :
    Calls Try.prog 78 #[.int .i64 n, .int .i64 lo, .int .i64 hi] w fun e w' => e = .returned (.bool (inB n lo hi)) ∧ w = w' := by
  by_cases h1 : lo ≤ n
  · by_cases h2 : n ≤ hi
    · go_enter Try.func78, Try.ntmps78
      go_wp2
      go_ret
      exact ⟨ret_bool (by simp [inB, h1, h2]), rfl⟩
    · go_enter Try.func78, Try.ntmps78
      go_wp2
      go_ret
      exact ⟨ret_bool (by simp [inB, h1, h2]), rfl⟩
  · go_enter Try.func78, Try.ntmps78
    go_wp2
    go_ret
    exact ⟨ret_bool (by simp [inB]; omega), rfl⟩

theorem within_any (n lo hi : Int) (w : World) :
    Calls Try.prog 79 #[.int .i64 n, .int .i64 lo, .int .i64 hi] w fun e w' => e = .returned (.bool (inB n lo hi)) ∧ w = w' := by
  by_cases h1 : lo ≤ n
  · by_cases h2 : n ≤ hi
    · go_enter Try.func79, Try.ntmps79
      go_wp2
      go_ret
      exact ⟨ret_bool (by simp [inB, h1, h2]), rfl⟩
    · go_enter Try.func79, Try.ntmps79
      go_wp2
      go_ret
      exact ⟨ret_bool (by simp [inB, h1, h2]), rfl⟩
  · go_enter Try.func79, Try.ntmps79
    go_wp2
    go_ret
    exact ⟨ret_bool (by simp [inB]; omega), rfl⟩

/-- A floor: two to sixteen points, each from 0 to 40. -/
def floorOk (xs : List Int) : Bool := inB xs.length 2 16 && allIn xs 0 40
theorem floorOk_iff {xs : List Int} : floorOk xs = true ↔ (2 ≤ xs.length ∧ xs.length ≤ 16) ∧ allIn xs 0 40 = true := by
  simp only [floorOk, Bool.and_eq_true, inB_iff]
  constructor
  · rintro ⟨⟨a, b⟩, c⟩; exact ⟨⟨by omega, by omega⟩, c⟩
  · rintro ⟨⟨a, b⟩, c⟩; exact ⟨⟨by omega, by omega⟩, c⟩
theorem floorOk_len {xs : List Int} (h : floorOk xs = true) : 2 ≤ xs.length ∧ xs.length ≤ 16 := (floorOk_iff.1 h).1
theorem floorOk_get {xs : List Int} (h : floorOk xs = true) {k : Nat} (hk : k < xs.length) : 0 ≤ at0 xs k ∧ at0 xs k ≤ 40 := allIn_get (floorOk_iff.1 h).2 hk

set_option maxHeartbeats 400000 in
theorem specFloorValid_any (A : Option Addr) (xs : List Int) (cap : Nat) (w : World) (h : Ints w w.heap.size A xs) (hn : xs.length ≤ 1048576) :
    Calls Try.prog 71 #[.slice A xs.length cap] w fun e w' => e = .returned (.bool (floorOk xs)) ∧ w = w' := by
  have H := hide h
  clear h
  go_enter Try.func71, Try.ntmps71
  go_wp2
  go_loop [3] (fun i => ∃ k : Nat, k ≤ xs.length ∧ i = .int .i64 k ∧ Hid (∀ j, j < k → inB (at0 xs j) 0 40 = true)) (fun i => xs.length - (intOf i).toNat)
  case atStart => exact ⟨0, Nat.zero_le _, rfl, fun j hj => absurd hj (by omega)⟩
  case round =>
    obtain ⟨k, hk, rfl, hall⟩ := hrel
    by_cases hlt : k < xs.length
    · obtain ⟨b, off, rfl, hb, hc⟩ := H.out (by omega)
      have hcell := hc k hlt
      clear hc H
      by_cases hin : inB (at0 xs k) 0 40 = true
      · have Hin := hide hin
        go_wp2_with (go_at_call 78; refine (l6In_any _ _ _ _).mono ?_; rintro e w' ⟨rfl, rfl⟩)
        go_round
        case rel =>
          refine ⟨k + 1, by omega, by go_num, fun j hj => ?_⟩
          by_cases hj2 : j < k
          · exact hall j hj2
          · have : j = k := by omega
            subst this; exact Hin.out
        case measure => simp [intOf]; omega
      · have hin' : inB (at0 xs k) 0 40 = false := by simpa using hin
        have HF := hide (show false = floorOk xs by simp [floorOk, allIn_false hlt hin'])
        clear hin
        go_wp2_with (go_at_call 78; refine (l6In_any _ _ _ _).mono ?_; rintro e w' ⟨rfl, rfl⟩)
        go_ret
        exact ⟨ret_bool HF.out, rfl⟩
    · have hkk : k = xs.length := by omega
      subst hkk
      have HF := hide (show inB xs.length 2 16 = floorOk xs by simp [floorOk, allIn_true hall])
      clear hall H
      go_wp2_with (go_at_call 78; refine (l6In_any _ _ _ _).mono ?_; rintro e w' ⟨rfl, rfl⟩)
      go_ret
      exact ⟨ret_bool HF.out, rfl⟩

/-- The first place of a list that does not lie between two numbers, or -1. -/
def badIdx (xs : List Int) (lo hi : Int) : Int := if allIn xs lo hi = true then -1 else ((xs.findIdx fun n => !inB n lo hi : Nat) : Int)
theorem badIdx_here {xs : List Int} {lo hi : Int} {k : Nat} (hk : k < xs.length) (h : inB (at0 xs k) lo hi = false) (hb : ∀ j, j < k → inB (at0 xs j) lo hi = true) : (k : Int) = badIdx xs lo hi := by
  rw [badIdx, if_neg (by rw [allIn_false hk h]; simp)]
  congr 1
  symm
  rw [List.findIdx_eq hk]
  rw [at0_lt hk] at h
  refine ⟨by simp [h], fun j hj => ?_⟩
  have := hb j hj
  rw [at0_lt (by omega)] at this
  simp [this]
theorem badIdx_none {xs : List Int} {lo hi : Int} (h : ∀ j, j < xs.length → inB (at0 xs j) lo hi = true) : -1 = badIdx xs lo hi := by
  rw [badIdx, if_pos (allIn_true h)]
theorem badIdx_neg (xs : List Int) (lo hi : Int) : decide (0 ≤ badIdx xs lo hi) = !allIn xs lo hi := by
  unfold badIdx
  cases h : allIn xs lo hi <;> simp

/-- allWithin's own closure: 'not within'. -/
theorem notWithin_any (n lo hi : Int) (b1 b2 : Nat) (w : World) (h1 : w.cell? ⟨b1, 0, none⟩ = some (.int .i64 lo)) (h2 : w.cell? ⟨b2, 0, none⟩ = some (.int .i64 hi)) :
    Calls Try.prog 85 #[.int .i64 n, .pointer (some ⟨b1, 0, none⟩), .pointer (some ⟨b2, 0, none⟩)] w fun e w' => e = .returned (.bool (!inB n lo hi)) ∧ w = w' := by
  go_enter Try.func85, Try.ntmps85
  go_wp2_with (go_at_call 79; refine (within_any _ _ _ _).mono ?_; rintro e w' ⟨rfl, rfl⟩)
  go_ret
  exact ⟨rfl, rfl⟩

set_option maxHeartbeats 400000 in
theorem indexBad_any (A : Option Addr) (xs : List Int) (cap : Nat) (lo hi : Int) (b1 b2 : Nat) (w : World) (h : Ints w w.heap.size A xs) (hn : xs.length ≤ 1048576)
    (h1 : w.cell? ⟨b1, 0, none⟩ = some (.int .i64 lo)) (h2 : w.cell? ⟨b2, 0, none⟩ = some (.int .i64 hi)) :
    Calls Try.prog 87 #[.slice A xs.length cap, .func (.func 85) #[] #[.pointer (some ⟨b1, 0, none⟩), .pointer (some ⟨b2, 0, none⟩)]] w
      fun e w' => e = .returned (.int .i64 (badIdx xs lo hi)) ∧ w = w' := by
  have H := hide h
  have H1 := hide h1
  have H2 := hide h2
  clear h h1 h2
  go_enter Try.func87, Try.ntmps87
  go_wp2
  go_loop [8] (fun i => ∃ k : Nat, k ≤ xs.length ∧ i = .int .i64 k ∧ Hid (∀ j, j < k → inB (at0 xs j) lo hi = true)) (fun i => xs.length - (intOf i).toNat)
  case atStart => exact ⟨0, Nat.zero_le _, rfl, fun j hj => absurd hj (by omega)⟩
  case round =>
    obtain ⟨k, hk, rfl, hall⟩ := hrel
    by_cases hlt : k < xs.length
    · obtain ⟨b, off, rfl, hb, hc⟩ := H.out (by omega)
      have hcell := hc k hlt
      clear hc H
      by_cases hin : inB (at0 xs k) lo hi = true
      · have Hin := hide hin
        go_wp2_with (go_at_call 85; refine (notWithin_any _ _ _ _ _ _ H1.out H2.out).mono ?_; rintro e w' ⟨rfl, rfl⟩)
        go_round
        case rel =>
          refine ⟨k + 1, by omega, by go_num, fun j hj => ?_⟩
          by_cases hj2 : j < k
          · exact hall j hj2
          · have : j = k := by omega
            subst this; exact Hin.out
        case measure => simp [intOf]; omega
      · have hin' : inB (at0 xs k) lo hi = false := by simpa using hin
        have HF := hide (badIdx_here hlt hin' hall)
        clear hin
        go_wp2_with (go_at_call 85; refine (notWithin_any _ _ _ _ _ _ H1.out H2.out).mono ?_; rintro e w' ⟨rfl, rfl⟩)
        go_ret
        exact ⟨ret_int HF.out, rfl⟩
    · have hkk : k = xs.length := by omega
      subst hkk
      have HF := hide (badIdx_none hall)
      clear hall H
      go_wp2
      go_ret
      exact ⟨ret_int HF.out, rfl⟩

theorem containsBad_any (A : Option Addr) (xs : List Int) (cap : Nat) (lo hi : Int) (b1 b2 : Nat) (w : World) (h : Ints w w.heap.size A xs) (hn : xs.length ≤ 1048576)
    (h1 : w.cell? ⟨b1, 0, none⟩ = some (.int .i64 lo)) (h2 : w.cell? ⟨b2, 0, none⟩ = some (.int .i64 hi)) :
    Calls Try.prog 84 #[.slice A xs.length cap, .func (.func 85) #[] #[.pointer (some ⟨b1, 0, none⟩), .pointer (some ⟨b2, 0, none⟩)]] w
      fun e w' => e = .returned (.bool (!allIn xs lo hi)) ∧ w = w' := by
  have H := hide h
  have H1 := hide h1
  have H2 := hide h2
  have HB := hide (badIdx_neg xs lo hi)
  clear h h1 h2
  go_enter Try.func84, Try.ntmps84
  go_wp2_with (go_at_call 87; refine (indexBad_any _ _ _ _ _ _ _ _ H.out hn H1.out H2.out).mono ?_; rintro e w' ⟨rfl, rfl⟩)
  go_ret
  exact ⟨ret_bool HB.out, rfl⟩

theorem allWithin_any (A : Option Addr) (xs : List Int) (cap : Nat) (lo hi : Int) (w : World) (h : Ints w w.heap.size A xs) (hn : xs.length ≤ 1048576) :
    Calls Try.prog 76 #[.slice A xs.length cap, .int .i64 lo, .int .i64 hi] w
      fun e w' => e = .returned (.bool (allIn xs lo hi)) ∧ Below w.heap.size w w' := by
  have hb : Below w.heap.size w ((w.alloc (.cells #[.int .i64 lo] 3)).alloc (.cells #[.int .i64 hi] 3)) := ((Below.refl _ w).alloc (Nat.le_refl _) _).alloc (by simp) _
  have H := hide (h.next hb)
  clear h
  go_enter Try.func76, Try.ntmps76
  go_wp2_with fail
  refine (containsBad_any _ _ _ lo hi _ _ _ H.out hn (by go_cell) (by go_cell)).mono ?_
  rintro e w' ⟨rfl, rfl⟩
  go_wp2
  go_ret
  exact ⟨ret_bool (by simp), hb⟩

theorem floorValid_any (A : Option Addr) (xs : List Int) (cap : Nat) (w : World) (h : Ints w w.heap.size A xs) (hn : xs.length ≤ 1048576) :
    Calls Try.prog 63 #[.slice A xs.length cap] w fun e w' => e = .returned (.bool (floorOk xs)) ∧ Below w.heap.size w w' := by
  have H := hide h
  clear h
  by_cases hin : inB xs.length 2 16 = true
  · have HF := hide (show allIn xs 0 40 = floorOk xs by simp [floorOk, hin])
    go_enter Try.func63, Try.ntmps63
    go_wp2_with (first | (go_at_call 79; refine (within_any _ _ _ _).mono ?_; rintro e w' ⟨rfl, rfl⟩) | (go_at_call 76; refine (allWithin_any _ _ _ _ _ _ H.out hn).mono ?_; rintro e w' ⟨rfl, hb⟩))
    go_ret
    exact ⟨ret_bool HF.out, hb⟩
  · have hin' : inB xs.length 2 16 = false := by simpa using hin
    have HF := hide (show false = floorOk xs by simp [floorOk, hin'])
    clear hin
    go_enter Try.func63, Try.ntmps63
    go_wp2_with (go_at_call 79; refine (within_any _ _ _ _).mono ?_; rintro e w' ⟨rfl, rfl⟩)
    go_ret
    exact ⟨ret_bool HF.out, Below.refl _ _⟩
end Go.Proofs.Ytoelajocacpmgaa
