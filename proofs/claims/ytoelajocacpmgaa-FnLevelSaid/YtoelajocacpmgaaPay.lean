/-
  WALKS: pay-outs that are valid: the program's and the reference's.
-/
import Derived.Test.YtoelajocacpmgaaValid
namespace Go.Proofs.Ytoelajocacpmgaa
set_option linter.unusedVariables false
set_option linter.unusedSimpArgs false
open Go.RowKit

/-- A pay-out of a floor: a length for each mile, each from 0 to 60. -/
def payOk (f p : List Int) : Bool := floorOk f && (decide (p.length + 1 = f.length) && allIn p 0 60)
theorem payOk_no1 {f p : List Int} (h : floorOk f = false) : payOk f p = false := by simp [payOk, h]
theorem payOk_no2 {f p : List Int} (h : ¬ p.length + 1 = f.length) : payOk f p = false := by simp [payOk, h]
theorem payOk_no3 {f p : List Int} (h : allIn p 0 60 = false) : payOk f p = false := by simp [payOk, h]
theorem payOk_yes {f p : List Int} (h1 : floorOk f = true) (h2 : p.length + 1 = f.length) : payOk f p = allIn p 0 60 := by simp [payOk, h1, h2]
theorem payOk_iff {f p : List Int} : payOk f p = true ↔ floorOk f = true ∧ p.length + 1 = f.length ∧ allIn p 0 60 = true := by simp [payOk]

set_option maxHeartbeats 400000 in
theorem specPayValid_any (A A' : Option Addr) (f p : List Int) (c c' : Nat) (w : World) (h : Ints w w.heap.size A f) (h' : Ints w w.heap.size A' p) (hn : f.length ≤ 1048576) (hn' : p.length ≤ 1048576) :
    Calls Try.prog 49 #[.slice A f.length c, .slice A' p.length c'] w fun e w' => e = .returned (.bool (payOk f p)) ∧ w = w' := by
  have H := hide h
  have H' := hide h'
  clear h h'
  go_enter Try.func49, Try.ntmps49
  go_wp2
  go_loop [5] (fun i => ∃ k : Nat, k ≤ p.length ∧ i = .int .i64 k ∧ Hid (∀ j, j < k → inB (at0 p j) 0 60 = true)) (fun i => p.length - (intOf i).toNat)
  case atStart => exact ⟨0, Nat.zero_le _, rfl, fun j hj => absurd hj (by omega)⟩
  case round =>
    obtain ⟨k, hk, rfl, hall⟩ := hrel
    by_cases hlt : k < p.length
    · obtain ⟨b, off, rfl, hb, hc⟩ := H'.out (by omega)
      have hcell := hc k hlt
      clear hc H'
      by_cases hin : inB (at0 p k) 0 60 = true
      · have Hin := hide hin
        go_wp2_with (go_at_call 78; refine (l6In_any _ _ _ _).mono ?_; rintro e w' ⟨rfl, rfl⟩)
        go_round
        case rel =>
          refine ⟨k + 1, by omega, by go_num, fun j hj => ?_⟩
          by_cases hj2 : j < k
          · exact hall j hj2
          · have : j = k := by omega
            subst this; exact Hin.out
        case measure => simp [intOf]; omega
      · have hin' : inB (at0 p k) 0 60 = false := by simpa using hin
        have HF := hide (show false = payOk f p from (payOk_no3 (allIn_false hlt hin')).symm)
        clear hin
        go_wp2_with (go_at_call 78; refine (l6In_any _ _ _ _).mono ?_; rintro e w' ⟨rfl, rfl⟩)
        go_ret
        exact ⟨ret_bool HF.out, rfl⟩
    · have hkk : k = p.length := by omega
      subst hkk
      have hp := allIn_true hall
      clear hall H'
      by_cases hf : floorOk f = true
      · by_cases hl : p.length + 1 = f.length
        · have HF := hide (show true = payOk f p by rw [payOk_yes hf hl, hp])
          have he : ((p.length : Int) == (f.length : Int) - 1) = true := by simp; omega
          clear hl hp
          go_wp2_with (go_at_call 71; refine (specFloorValid_any _ _ _ _ H.out hn).mono ?_; rintro e w' ⟨rfl, rfl⟩)
          go_ret
          exact ⟨ret_bool HF.out, rfl⟩
        · have HF := hide (show false = payOk f p by rw [payOk_no2 hl])
          have he : ((p.length : Int) == (f.length : Int) - 1) = false := by simp; omega
          clear hl hp
          go_wp2_with (go_at_call 71; refine (specFloorValid_any _ _ _ _ H.out hn).mono ?_; rintro e w' ⟨rfl, rfl⟩)
          go_ret
          exact ⟨ret_bool HF.out, rfl⟩
      · have hf' : floorOk f = false := by simpa using hf
        have HF := hide (show false = payOk f p by rw [payOk_no1 hf'])
        clear hf hp
        go_wp2_with (go_at_call 71; refine (specFloorValid_any _ _ _ _ H.out hn).mono ?_; rintro e w' ⟨rfl, rfl⟩)
        go_ret
        exact ⟨ret_bool HF.out, rfl⟩

set_option maxHeartbeats 400000 in
theorem payValid_any (A A' : Option Addr) (f p : List Int) (c c' : Nat) (w : World) (h : Ints w w.heap.size A f) (h' : Ints w w.heap.size A' p) (hn : f.length ≤ 1048576) (hn' : p.length ≤ 1048576) :
    Calls Try.prog 42 #[.slice A f.length c, .slice A' p.length c'] w fun e w' => e = .returned (.bool (payOk f p)) ∧ Below w.heap.size w w' := by
  have H := hide h
  have H' := hide h'
  clear h h'
  by_cases hf : floorOk f = true
  · by_cases hl : p.length + 1 = f.length
    · have HF := hide (show allIn p 0 60 = payOk f p by rw [payOk_yes hf hl])
      have he : ((p.length : Int) == (f.length : Int) - 1) = true := by simp; omega
      clear hl
      go_enter Try.func42, Try.ntmps42
      go_wp2_with (first
        | (go_at_call 63; refine (floorValid_any _ _ _ _ H.out hn).mono ?_; rintro e w1 ⟨rfl, hb1⟩)
        | (go_at_call 76; refine (allWithin_any _ _ _ _ _ _ (H'.out.next hb1) hn').mono ?_; rintro e w2 ⟨rfl, hb2⟩))
      go_ret
      exact ⟨ret_bool HF.out, hb1.trans (hb2.mono hb1.size)⟩
    · have HF := hide (show false = payOk f p by rw [payOk_no2 hl])
      have he : ((p.length : Int) == (f.length : Int) - 1) = false := by simp; omega
      clear hl
      go_enter Try.func42, Try.ntmps42
      go_wp2_with (go_at_call 63; refine (floorValid_any _ _ _ _ H.out hn).mono ?_; rintro e w1 ⟨rfl, hb1⟩)
      go_ret
      exact ⟨ret_bool HF.out, hb1⟩
  · have hf' : floorOk f = false := by simpa using hf
    have HF := hide (show false = payOk f p by rw [payOk_no1 hf'])
    clear hf
    go_enter Try.func42, Try.ntmps42
    go_wp2_with (go_at_call 63; refine (floorValid_any _ _ _ _ H.out hn).mono ?_; rintro e w1 ⟨rfl, hb1⟩)
    go_ret
    exact ⟨ret_bool HF.out, hb1⟩

end Go.Proofs.Ytoelajocacpmgaa
