/-
  WALKS: ratios: lowest terms, comparing; the program's functions and the reference's return the same plain Lean values.
-/
import Derived.Test.YtebekdfmaecbcaaValid
import Derived.Deep.QuietTactic
import Derived.BigQuiet
import Derived.RegionTactic
namespace Go.Proofs.Ytebekdfmaecbcaa
set_option linter.unusedVariables false
set_option linter.unusedSimpArgs false
open Go.RowKit

def rOk (t l : Int) : Bool := decide (0 ≤ t) && decide (1 ≤ l)
def rTop (t l : Int) : Int := if rOk t l = true then ((t.toNat / Nat.gcd t.toNat l.toNat : Nat) : Int) else 0
def rLow (t l : Int) : Int := if rOk t l = true then ((l.toNat / Nat.gcd t.toNat l.toNat : Nat) : Int) else 0
theorem rOk_nat (t l : Nat) (h : 1 ≤ l) : rOk (t : Int) (l : Int) = true := by simp [rOk]; omega
theorem rTop_nat (t l : Nat) (h : 1 ≤ l) : rTop (t : Int) (l : Int) = ((t / Nat.gcd t l : Nat) : Int) := by simp [rTop, rOk_nat t l h]
theorem rLow_nat (t l : Nat) (h : 1 ≤ l) : rLow (t : Int) (l : Int) = ((l / Nat.gcd t l : Nat) : Int) := by simp [rLow, rOk_nat t l h]
theorem rNot {t l : Int} (h : ¬ (0 ≤ t ∧ 1 ≤ l)) : rOk t l = false ∧ rTop t l = 0 ∧ rLow t l = 0 := by
  have : rOk t l = false := by
    cases e : rOk t l
    · rfl
    · simp [rOk] at e; exact absurd e h
  simp [rTop, rLow, this]
theorem gcd_step (x y : Nat) : Nat.gcd y (x % y) = Nat.gcd x y := by
  rw [Nat.gcd_comm x y, Nat.gcd_rec y x, Nat.gcd_comm]

theorem quo_in (t x : Nat) (ht : t ≤ 9223372036854775807) (hx : 1 ≤ x) : wrap64 ((t : Int) / (x : Int)) = ((t / x : Nat) : Int) := by
  have h := Nat.div_le_self t x
  rw [← Int.natCast_ediv]
  generalize t / x = q at *
  exact IntWalk.wrap64_in _ ⟨by omega, by omega⟩

set_option maxHeartbeats 800000 in
theorem reduced_any (t l : Nat) (w : World) (hl : 1 ≤ l) (ht2 : t ≤ 9223372036854775807) (hl2 : l ≤ 9223372036854775807) :
    Calls Try.prog 27 #[.agg #[.int .i64 (t : Int), .int .i64 (l : Int)]] w fun e w' =>
      e = .returned (.agg #[.int .i64 ((t / Nat.gcd t l : Nat) : Int), .int .i64 ((l / Nat.gcd t l : Nat) : Int)]) ∧ Below w.heap.size w w' := by
  go_enter Try.func27, Try.ntmps27
  go_wp2
  go_quiet (fail)
  go_wp2
  go_loopw [3, 4] (fun a b wr => ∃ x y n : Nat, a = .int .i64 (x : Int) ∧ b = .int .i64 (y : Int) ∧ Hid (Nat.gcd x y = Nat.gcd t l) ∧ x ≤ 9223372036854775807 ∧ y ≤ 9223372036854775807 ∧
      wr = ((w.alloc (.cells #[.int .i64 (t : Int), .int .i64 (l : Int)] 26)).alloc (.cells #[.int .i64 0, .int .i64 0] 26)).drewN n)
    (fun _ b _ => (intOf b).toNat)
  case atStart => exact ⟨t, l, _, rfl, rfl, rfl, ht2, hl2, rfl⟩
  case round =>
    obtain ⟨x, y, n, rfl, rfl, hg, hx, hy, rfl⟩ := hrel
    by_cases h0 : y = 0
    · subst h0
      have hgx : Nat.gcd t l = x := by rw [← hg.out, Nat.gcd_zero_right]
      have hx1 : 1 ≤ x := by
        rw [← hgx]; exact Nat.gcd_pos_of_pos_right _ hl
      have HG := hide hgx
      clear hgx hg
      have h1 : (1 : Int) ≤ (x : Int) := by omega
      go_wp2
      go_region
      go_wp2
      all_goals
        go_returns
        refine ⟨?_, by go_grown; all_goals (refine below_drewN ?_ _; go_grown)⟩
        rw [HG.out]
        simp only [quo_in t x ht2 hx1, quo_in l x hl2 hx1]
    · have h1 : (1 : Int) ≤ (y : Int) := by omega
      have hne : ((y : Int) != 0) = true := by simp; omega
      go_wp2
      go_quiet (fail)
      go_wp2
      go_roundw
      case rel => exact ⟨y, x % y, _, rfl, by simp, by rw [← hg.out]; exact gcd_step x y, hy, by have := Nat.mod_lt x (show 0 < y by omega); omega, World.drewN_drewN _ _ _⟩
      case measure =>
        have := Nat.mod_lt x (show 0 < y by omega)
        simp [intOf]; omega

theorem ratioOf_any (t l : Int) (w : World) (ht : t ≤ 9223372036854775807) (hl : l ≤ 9223372036854775807) :
    Calls Try.prog 14 #[.int .i64 t, .int .i64 l] w fun e w' =>
      e = .returned (.tuple #[.agg #[.int .i64 (rTop t l), .int .i64 (rLow t l)], .bool (rOk t l)]) ∧ Below w.heap.size w w' := by
  by_cases h1 : t < 0
  · obtain ⟨r1, r2, r3⟩ := rNot (t := t) (l := l) (by omega)
    rw [r1, r2, r3]
    clear r1 r2 r3
    go_enter Try.func14, Try.ntmps14
    go_wp2
    go_returns
    exact ⟨rfl, by go_grown⟩
  · by_cases h2 : l < 1
    · obtain ⟨r1, r2, r3⟩ := rNot (t := t) (l := l) (by omega)
      rw [r1, r2, r3]
      clear r1 r2 r3
      go_enter Try.func14, Try.ntmps14
      go_wp2
      go_returns
      exact ⟨rfl, by go_grown⟩
    · obtain ⟨t, rfl⟩ := Int.eq_ofNat_of_zero_le (show 0 ≤ t by omega)
      obtain ⟨l, rfl⟩ := Int.eq_ofNat_of_zero_le (show 0 ≤ l by omega)
      have hl1 : 1 ≤ l := by omega
      rw [rOk_nat t l hl1, rTop_nat t l hl1, rLow_nat t l hl1]
      go_enter Try.func14, Try.ntmps14
      go_wp2_with fail
      refine (reduced_any t l _ hl1 (by omega) (by omega)).mono ?_
      rintro e w1 ⟨rfl, hb1⟩
      have hc0 := (hb1.cell (p := ⟨w.heap.size, 0, none⟩) (by simp)).trans (show (w.alloc (.cells #[.int .i64 0, .int .i64 0] 26)).cell? ⟨w.heap.size, 0, none⟩ = some (.int .i64 0) by go_cell)
      have hc1 := (hb1.cell (p := ⟨w.heap.size, 1, none⟩) (by simp)).trans (show (w.alloc (.cells #[.int .i64 0, .int .i64 0] 26)).cell? ⟨w.heap.size, 1, none⟩ = some (.int .i64 0) by go_cell)
      have hf0 := (hb1.frozen (p := ⟨w.heap.size, 0, none⟩) (by simp)).trans (show (w.alloc (.cells #[.int .i64 0, .int .i64 0] 26)).frozen? ⟨w.heap.size, 0, none⟩ = false by go_simp)
      have hf1 := (hb1.frozen (p := ⟨w.heap.size, 1, none⟩) (by simp)).trans (show (w.alloc (.cells #[.int .i64 0, .int .i64 0] 26)).frozen? ⟨w.heap.size, 1, none⟩ = false by go_simp)
      have hbb := bt ((Below.refl _ w).alloc (Nat.le_refl _) _) hb1
      obtain ⟨q0, q1⟩ := two_set (a := .int .i64 ((t / Nat.gcd t l : Nat) : Int)) (b := .int .i64 ((l / Nat.gcd t l : Nat) : Int)) hc0 hc1
      have Q0 := hide q0
      have Q1 := hide q1
      clear q0 q1
      go_wp2
      have q0 := Q0.out
      have q1 := Q1.out
      refine bodyPost_ret (v := .tuple #[.agg #[.int .i64 ((t / Nat.gcd t l : Nat) : Int), .int .i64 ((l / Nat.gcd t l : Nat) : Int)], .bool true]) (by simp [results, Try.results14, go_sem] at q0 q1 ⊢; simp [q0, q1]) rfl ?_
      exact ⟨rfl, (hbb.setCell (p := ⟨w.heap.size, 0, none⟩) (Nat.le_refl _) _).setCell (p := ⟨w.heap.size, 1, none⟩) (Nat.le_refl _) _⟩
end Go.Proofs.Ytebekdfmaecbcaa
