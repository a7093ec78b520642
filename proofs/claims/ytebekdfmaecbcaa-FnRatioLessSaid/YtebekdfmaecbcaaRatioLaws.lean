/-
  WALKS: the reference's ratios; comparing; the laws FnExactConstants, FnExactRatioOf, FnExactRatioLess.
-/
import Derived.Test.YtebekdfmaecbcaaRatio
import Derived.Deep.RegionHeld3
namespace Go.Proofs.Ytebekdfmaecbcaa
set_option linter.unusedVariables false
set_option linter.unusedSimpArgs false
open Go.RowKit

set_option maxHeartbeats 800000 in
theorem specRatioOf_any (t l : Int) (w : World) (ht : t ≤ 9223372036854775807) (hl : l ≤ 9223372036854775807) :
    Calls Try.prog 13 #[.int .i64 t, .int .i64 l] w fun e w' =>
      e = .returned (.tuple #[.agg #[.int .i64 (rTop t l), .int .i64 (rLow t l)], .bool (rOk t l)]) ∧ Below w.heap.size w w' := by
  by_cases h1 : t < 0
  · obtain ⟨r1, r2, r3⟩ := rNot (t := t) (l := l) (by omega)
    rw [r1, r2, r3]
    clear r1 r2 r3
    go_enter Try.func13, Try.ntmps13
    go_wp2
    go_returns
    exact ⟨rfl, by go_grown⟩
  · by_cases h2 : l < 1
    · obtain ⟨r1, r2, r3⟩ := rNot (t := t) (l := l) (by omega)
      rw [r1, r2, r3]
      clear r1 r2 r3
      go_enter Try.func13, Try.ntmps13
      go_wp2
      go_returns
      exact ⟨rfl, by go_grown⟩
    · obtain ⟨t, rfl⟩ := Int.eq_ofNat_of_zero_le (show 0 ≤ t by omega)
      obtain ⟨l, rfl⟩ := Int.eq_ofNat_of_zero_le (show 0 ≤ l by omega)
      have hl1 : 1 ≤ l := by omega
      have ht2 : t ≤ 9223372036854775807 := by omega
      have hl2 : l ≤ 9223372036854775807 := by omega
      rw [rOk_nat t l hl1, rTop_nat t l hl1, rLow_nat t l hl1]
      go_enter Try.func13, Try.ntmps13
      go_wp2
      go_loop [6, 7, 8] (fun a b c => ∃ x y : Nat, a = .int .i64 (x : Int) ∧ b = .int .i64 (y : Int) ∧ Hid (Nat.gcd x y = Nat.gcd t l) ∧ x ≤ 9223372036854775807 ∧ y ≤ 9223372036854775807)
        (fun _ b _ => (intOf b).toNat)
      case atStart => exact ⟨t, l, rfl, rfl, rfl, ht2, hl2⟩
      case round =>
        obtain ⟨x, y, rfl, rfl, hg, hx, hy⟩ := hrel
        by_cases h0 : y = 0
        · subst h0
          have hgx : Nat.gcd t l = x := by rw [← hg.out, Nat.gcd_zero_right]
          have hx1 : 1 ≤ x := by
            rw [← hgx]; exact Nat.gcd_pos_of_pos_right _ hl1
          have HG := hide hgx
          clear hgx hg
          have h1 : (1 : Int) ≤ (x : Int) := by omega
          go_wp2
          go_region
          go_wp2
          all_goals
            go_returns
            refine ⟨?_, by go_grown; all_goals (refine below_drewN ?_ _; go_grown)⟩
            rw [HG.out]
            simp only [quo_in t x ht2 hx1, quo_in l x hl2 hx1]
        · have h1 : (1 : Int) ≤ (y : Int) := by omega
          have hne : ((y : Int) != 0) = true := by simp; omega
          go_wp2
          go_round
          case rel => exact ⟨y, x % y, rfl, by simp, by rw [← hg.out]; exact gcd_step x y, hy, by have := Nat.mod_lt x (show 0 < y by omega); omega⟩
          case measure =>
            have := Nat.mod_lt x (show 0 < y by omega)
            simp [intOf]; omega

/-- A ratio may be compared. -/
def cmpOk (t l : Int) : Bool := inB l 1 1000000 && inB t 0 1000000
/-- Crosswise. -/
def crossLess (t l t' l' : Int) : Bool := decide (wrap64 (t * l') < wrap64 (t' * l))
def rLess (t l t' l' : Int) : Bool := cmpOk t l && (cmpOk t' l' && crossLess t l t' l')

theorem comparable_any (t l : Int) (w : World) :
    Calls Try.prog 25 #[.agg #[.int .i64 t, .int .i64 l]] w fun e w' => e = .returned (.bool (cmpOk t l)) ∧ Below w.heap.size w w' := by
  by_cases h1 : inB l 1 1000000 = true
  · have HF := hide (show inB t 0 1000000 = cmpOk t l by simp [cmpOk, h1])
    go_enter Try.func25, Try.ntmps25
    go_wp2_with (go_at_call 30; refine (within_any _ _ _ _).mono ?_; rintro e w' ⟨rfl, rfl⟩)
    go_ret
    exact ⟨ret_bool HF.out, by go_grown⟩
  · have h1' : inB l 1 1000000 = false := by simpa using h1
    have HF := hide (show false = cmpOk t l by simp [cmpOk, h1'])
    clear h1
    go_enter Try.func25, Try.ntmps25
    go_wp2_with (go_at_call 30; refine (within_any _ _ _ _).mono ?_; rintro e w' ⟨rfl, rfl⟩)
    go_ret
    exact ⟨ret_bool HF.out, by go_grown⟩

theorem less_any (t l t' l' : Int) (w : World) :
    Calls Try.prog 26 #[.agg #[.int .i64 t, .int .i64 l], .agg #[.int .i64 t', .int .i64 l']] w fun e w' => e = .returned (.bool (crossLess t l t' l')) ∧ Below w.heap.size w w' := by
  go_enter Try.func26, Try.ntmps26
  go_wp2
  all_goals go_ret
  all_goals exact ⟨by first | rfl | simp_all [crossLess], by go_grown⟩

set_option maxHeartbeats 800000 in
theorem ratioLess_any (t l t' l' : Int) (w : World) :
    Calls Try.prog 12 #[.agg #[.int .i64 t, .int .i64 l], .agg #[.int .i64 t', .int .i64 l']] w fun e w' => e = .returned (.bool (rLess t l t' l')) ∧ Below w.heap.size w w' := by
  have b0 : Below w.heap.size w ((w.alloc (.cells #[.int .i64 t, .int .i64 l] 26)).alloc (.cells #[.int .i64 t', .int .i64 l'] 26)) := ((Below.refl _ w).alloc (Nat.le_refl _) _).alloc (by simp) _
  by_cases h1 : cmpOk t l = true
  · by_cases h2 : cmpOk t' l' = true
    · have HF := hide (show crossLess t l t' l' = rLess t l t' l' by simp [rLess, h1, h2])
      go_enter Try.func12, Try.ntmps12
      go_wp2_with fail
      refine (comparable_any t l _).mono ?_
      rintro e w1 ⟨rfl, hb1⟩
      have hk1 := (hb1.cell (p := ⟨w.heap.size, 0, none⟩) (by simp; omega)).trans (show _ = some (.int .i64 t) by go_cell)
      have hk2 := (hb1.cell (p := ⟨w.heap.size, 1, none⟩) (by simp; omega)).trans (show _ = some (.int .i64 l) by go_cell)
      have hk3 := (hb1.cell (p := ⟨w.heap.size + 1, 0, none⟩) (by simp)).trans (show _ = some (.int .i64 t') by go_cell)
      have hk4 := (hb1.cell (p := ⟨w.heap.size + 1, 1, none⟩) (by simp)).trans (show _ = some (.int .i64 l') by go_cell)
      have hz : w.heap.size + 1 < w1.heap.size := by have := hb1.size; simp at this; omega
      go_wp2_with fail
      refine (comparable_any t' l' _).mono ?_
      rintro e w2 ⟨rfl, hb2⟩
      have hk5 := (hb2.cell (p := ⟨w.heap.size, 0, none⟩) (by simp; omega)).trans hk1
      have hk6 := (hb2.cell (p := ⟨w.heap.size, 1, none⟩) (by simp; omega)).trans hk2
      have hk7 := (hb2.cell (p := ⟨w.heap.size + 1, 0, none⟩) (by simp; omega)).trans hk3
      have hk8 := (hb2.cell (p := ⟨w.heap.size + 1, 1, none⟩) (by simp; omega)).trans hk4
      go_wp2_with fail
      refine (less_any t l t' l' _).mono ?_
      rintro e w3 ⟨rfl, hb3⟩
      go_wp2
      go_ret
      exact ⟨ret_bool HF.out, bt (bt (bt b0 hb1) hb2) hb3⟩
    · have h2' : cmpOk t' l' = false := by simpa using h2
      have HF := hide (show false = rLess t l t' l' by simp [rLess, h2'])
      clear h2
      go_enter Try.func12, Try.ntmps12
      go_wp2_with fail
      refine (comparable_any t l _).mono ?_
      rintro e w1 ⟨rfl, hb1⟩
      have hk3 := (hb1.cell (p := ⟨w.heap.size + 1, 0, none⟩) (by simp)).trans (show _ = some (.int .i64 t') by go_cell)
      have hk4 := (hb1.cell (p := ⟨w.heap.size + 1, 1, none⟩) (by simp)).trans (show _ = some (.int .i64 l') by go_cell)
      go_wp2_with fail
      refine (comparable_any t' l' _).mono ?_
      rintro e w2 ⟨rfl, hb2⟩
      go_wp2
      go_ret
      exact ⟨ret_bool HF.out, bt (bt b0 hb1) hb2⟩
  · have h1' : cmpOk t l = false := by simpa using h1
    have HF := hide (show false = rLess t l t' l' by simp [rLess, h1'])
    clear h1
    go_enter Try.func12, Try.ntmps12
    go_wp2_with fail
    refine (comparable_any t l _).mono ?_
    rintro e w1 ⟨rfl, hb1⟩
    go_wp2
    go_ret
    exact ⟨ret_bool HF.out, bt b0 hb1⟩

theorem rLess_not {t l t' l' : Int} (h : inB t 0 1000000 = false ∨ inB t' 0 1000000 = false ∨ inB l 1 1000000 = false ∨ inB l' 1 1000000 = false) : false = rLess t l t' l' := by
  rcases h with h | h | h | h <;> simp [rLess, cmpOk, h]

set_option maxHeartbeats 1600000 in
theorem specRatioLess_any (t l t' l' : Int) (w : World) :
    Calls Try.prog 10 #[.agg #[.int .i64 t, .int .i64 l], .agg #[.int .i64 t', .int .i64 l']] w fun e w' => e = .returned (.bool (rLess t l t' l')) ∧ Below w.heap.size w w' := by
  by_cases h1 : inB t 0 1000000 = true
  · by_cases h2 : inB t' 0 1000000 = true
    · by_cases h3 : inB l 1 1000000 = true
      · by_cases h4 : inB l' 1 1000000 = true
        · have HF := hide (show crossLess t l t' l' = rLess t l t' l' by simp [rLess, cmpOk, h1, h2, h3, h4])
          go_enter Try.func10, Try.ntmps10
          go_wp2_with (go_at_call 24; refine (l6In_any _ _ _ _).mono ?_; rintro e w' ⟨rfl, rfl⟩)
          all_goals go_ret
          all_goals exact ⟨by first | exact ret_bool HF.out | (rw [← HF.out]; simp_all [crossLess]), by go_grown⟩
        · have h4' : inB l' 1 1000000 = false := by simpa using h4
          have HF := hide (rLess_not (t := t) (l := l) (t' := t') (l' := l') (.inr (.inr (.inr h4'))))
          clear h4
          go_enter Try.func10, Try.ntmps10
          go_wp2_with (go_at_call 24; refine (l6In_any _ _ _ _).mono ?_; rintro e w' ⟨rfl, rfl⟩)
          go_ret
          exact ⟨ret_bool HF.out, by go_grown⟩
      · have h3' : inB l 1 1000000 = false := by simpa using h3
        have HF := hide (rLess_not (t := t) (l := l) (t' := t') (l' := l') (.inr (.inr (.inl h3'))))
        clear h3
        go_enter Try.func10, Try.ntmps10
        go_wp2_with (go_at_call 24; refine (l6In_any _ _ _ _).mono ?_; rintro e w' ⟨rfl, rfl⟩)
        go_ret
        exact ⟨ret_bool HF.out, by go_grown⟩
    · have h2' : inB t' 0 1000000 = false := by simpa using h2
      have HF := hide (rLess_not (t := t) (l := l) (t' := t') (l' := l') (.inr (.inl h2')))
      clear h2
      go_enter Try.func10, Try.ntmps10
      go_wp2_with (go_at_call 24; refine (l6In_any _ _ _ _).mono ?_; rintro e w' ⟨rfl, rfl⟩)
      go_ret
      exact ⟨ret_bool HF.out, by go_grown⟩
  · have h1' : inB t 0 1000000 = false := by simpa using h1
    have HF := hide (rLess_not (t := t) (l := l) (t' := t') (l' := l') (.inl h1'))
    clear h1
    go_enter Try.func10, Try.ntmps10
    go_wp2_with (go_at_call 24; refine (l6In_any _ _ _ _).mono ?_; rintro e w' ⟨rfl, rfl⟩)
    go_ret
    exact ⟨ret_bool HF.out, by go_grown⟩

theorem toRatio_any (t l : Int) (w : World) :
    Calls Try.prog 11 #[.agg #[.int .i64 t, .int .i64 l]] w fun e w' => e = .returned (.agg #[.int .i64 t, .int .i64 l]) ∧ Below w.heap.size w w' := by
  go_enter Try.func11, Try.ntmps11
  go_wp2
  go_returns
  exact ⟨rfl, by go_grown⟩

theorem eqRatio_same (t l : Int) (w : World) :
    Calls Try.prog 15 #[.agg #[.int .i64 t, .int .i64 l], .agg #[.int .i64 t, .int .i64 l]] w fun e w' => e = .returned (.bool true) ∧ Below w.heap.size w w' := by
  go_enter Try.func15, Try.ntmps15
  go_wp2
  go_ret
  exact ⟨rfl, by go_grown⟩

theorem walk_FnExactConstants (w : World) :
    Calls Try.prog 3 #[] w fun e w' => e = .returned (.bool true) ∧ Below w.heap.size w w' := by
  go_enter Try.func3, Try.ntmps3
  go_wp2
  go_ret
  exact ⟨rfl, Below.refl _ _⟩

set_option maxHeartbeats 1600000 in
theorem walk_FnExactRatioOf (w : World) (t : Int) (wt : (Lit.int .i64 t).wf = true) (l : Int) (wl : (Lit.int .i64 l).wf = true) :
    Calls Try.prog 5 #[.int .i64 t, .int .i64 l] w fun e w' => e = .returned (.bool true) ∧ Below w.heap.size w w' := by
  have ht := (bd_i64 wt).2
  have hl := (bd_i64 wl).2
  go_enter Try.func5, Try.ntmps5
  go_wp2_with fail
  refine (specRatioOf_any t l _ ht hl).mono ?_
  rintro e w1 ⟨rfl, hb1⟩
  go_wp2_with fail
  refine (ratioOf_any t l _ ht hl).mono ?_
  rintro e w2 ⟨rfl, hb2⟩
  have hk1 := (hb2.cell (p := ⟨w1.heap.size, 0, none⟩) (by simp)).trans (show _ = some (.int .i64 (rTop t l)) by go_cell)
  have hk2 := (hb2.cell (p := ⟨w1.heap.size, 1, none⟩) (by simp)).trans (show _ = some (.int .i64 (rLow t l)) by go_cell)
  have hz : w1.heap.size < w2.heap.size := by have := hb2.size; simp at this; omega
  go_wp2_with fail
  refine (eqRatio_same (rTop t l) (rLow t l) _).mono ?_
  rintro e w3 ⟨rfl, hb3⟩
  go_wp2
  go_ret
  exact ⟨rfl, bt (bt (bt hb1 ((Below.refl _ _).alloc (Nat.le_refl _) _)) (bt hb2 ((Below.refl _ _).alloc (Nat.le_refl _) _))) hb3⟩

set_option maxHeartbeats 1600000 in
theorem walk_FnExactRatioLess (w : World) (t l : Int) (wt : (Lit.int .i64 t).wf = true) (wl : (Lit.int .i64 l).wf = true) (t' l' : Int) (wt' : (Lit.int .i64 t').wf = true) (wl' : (Lit.int .i64 l').wf = true) :
    Calls Try.prog 4 #[.agg #[.int .i64 t, .int .i64 l], .agg #[.int .i64 t', .int .i64 l']] w fun e w' => e = .returned (.bool true) ∧ Below w.heap.size w w' := by
  go_enter Try.func4, Try.ntmps4
  go_wp2_with fail
  go_region_held3 (fun w' => w'.cell? ⟨w.heap.size, 0, none⟩ = some (.int .i64 t) ∧ w'.cell? ⟨w.heap.size, 1, none⟩ = some (.int .i64 l) ∧ w'.cell? ⟨w.heap.size + 1, 0, none⟩ = some (.int .i64 t') ∧ w'.cell? ⟨w.heap.size + 1, 1, none⟩ = some (.int .i64 l') ∧ w.heap.size + 1 < w'.heap.size ∧ Below w.heap.size w w')
    (first
      | (exact ⟨by go_cell, by go_cell, by go_cell, by go_cell, by simp, by go_grown⟩)
      | (go_split_ands; refine ⟨(hb1.cell (p := ⟨w.heap.size, 0, none⟩) (by show w.heap.size < _; omega)).trans (by assumption), (hb1.cell (p := ⟨w.heap.size, 1, none⟩) (by show w.heap.size < _; omega)).trans (by assumption), (hb1.cell (p := ⟨w.heap.size + 1, 0, none⟩) (by show w.heap.size + 1 < _; omega)).trans (by assumption), (hb1.cell (p := ⟨w.heap.size + 1, 1, none⟩) (by show w.heap.size + 1 < _; omega)).trans (by assumption), ?_, bt (by assumption) hb1⟩; have := hb1.size; omega)
      | go_keep)
    (first
      | (go_at_call 11; refine (toRatio_any _ _ _).mono ?_; rintro e w1 ⟨rfl, hb1⟩)
      | (go_at_call 10; refine (specRatioLess_any _ _ _ _ _).mono ?_; rintro e w1 ⟨rfl, hb1⟩))
  rename_i hS
  obtain ⟨k1, k2, k3, k4, hz, hB⟩ := hS
  clear hb1
  generalize w1 = w2 at *
  go_wp2_with fail
  go_region_held3 (fun w' => w'.cell? ⟨w.heap.size, 0, none⟩ = some (.int .i64 t) ∧ w'.cell? ⟨w.heap.size, 1, none⟩ = some (.int .i64 l) ∧ w'.cell? ⟨w.heap.size + 1, 0, none⟩ = some (.int .i64 t') ∧ w'.cell? ⟨w.heap.size + 1, 1, none⟩ = some (.int .i64 l') ∧ w.heap.size + 1 < w'.heap.size ∧ Below w.heap.size w w')
    (first
      | (exact ⟨k1, k2, k3, k4, hz, hB.drew⟩)
      | (go_split_ands; refine ⟨(hb1.cell (p := ⟨w.heap.size, 0, none⟩) (by show w.heap.size < _; omega)).trans (by assumption), (hb1.cell (p := ⟨w.heap.size, 1, none⟩) (by show w.heap.size < _; omega)).trans (by assumption), (hb1.cell (p := ⟨w.heap.size + 1, 0, none⟩) (by show w.heap.size + 1 < _; omega)).trans (by assumption), (hb1.cell (p := ⟨w.heap.size + 1, 1, none⟩) (by show w.heap.size + 1 < _; omega)).trans (by assumption), ?_, bt (by assumption) hb1⟩; have := hb1.size; omega)
      | go_keep)
    (first
      | (go_at_call 11; refine (toRatio_any _ _ _).mono ?_; rintro e w1 ⟨rfl, hb1⟩)
      | (go_at_call 12; refine (ratioLess_any _ _ _ _ _).mono ?_; rintro e w1 ⟨rfl, hb1⟩))
  rename_i hS
  obtain ⟨-, -, -, -, -, hB2⟩ := hS
  go_wp2
  go_ret
  exact ⟨rfl, hB2⟩
end Go.Proofs.Ytebekdfmaecbcaa
