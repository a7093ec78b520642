/-
  WALK: the draw of a ratio's two numbers (a statement of it may be carried out in some ninety orders: each is walked).
-/
import Derived.RegionTactic
import Derived.Test.YtebekdfmaecbcaaDraw
import Derived.Deep.RegionWith
import Derived.Deep.DeepCutAuto
namespace Go.Proofs.Ytebekdfmaecbcaa
set_option linter.unusedVariables false
set_option linter.unusedSimpArgs false
open Go.RowKit

def DrawTwo (w : World) (e : Ending) (w' : World) : Prop :=
  ∃ t l : Int, e = .returned (.tuple #[.int .i64 t, .int .i64 l]) ∧ (-9223372036854775808 ≤ t ∧ t ≤ 9223372036854775807) ∧ (-9223372036854775808 ≤ l ∧ l ≤ 9223372036854775807) ∧ Below w.heap.size w w'

/-- The k-th of three, four. -/
def val3 (a b c : Int) : Nat → Int | 0 => a | 1 => b | _ => c
def val4 (a b c d : Int) : Nat → Int | 0 => a | 1 => b | 2 => c | _ => d
theorem val3_at (a b c : Int) (k : Nat) (h : k < [Value.int .i64 a, .int .i64 b, .int .i64 c].length) : [Value.int .i64 a, .int .i64 b, .int .i64 c][k]'h = .int .i64 (val3 a b c k) := by
  match k, h with
  | 0, _ => rfl
  | 1, _ => rfl
  | 2, _ => rfl
theorem val4_at (a b c d : Int) (k : Nat) (h : k < [Value.int .i64 a, .int .i64 b, .int .i64 c, .int .i64 d].length) : [Value.int .i64 a, .int .i64 b, .int .i64 c, .int .i64 d][k]'h = .int .i64 (val4 a b c d k) := by
  match k, h with
  | 0, _ => rfl
  | 1, _ => rfl
  | 2, _ => rfl
  | 3, _ => rfl
theorem val3_bd (k : Nat) : -9223372036854775808 ≤ val3 (-1) 0 9223372036854775807 k ∧ val3 (-1) 0 9223372036854775807 k ≤ 9223372036854775807 := by
  match k with
  | 0 => simp [val3]
  | 1 => simp [val3]
  | _ + 2 => simp [val3]
theorem val4_bd (k : Nat) : -9223372036854775808 ≤ val4 0 1 9223372036854775807 (-3) k ∧ val4 0 1 9223372036854775807 (-3) k ≤ 9223372036854775807 := by
  match k with
  | 0 => simp [val4]
  | 1 => simp [val4]
  | 2 => simp [val4]
  | _ + 3 => simp [val4]
theorem rd_new {w : World} {A : Option Addr} {n cap : Nat} {p : Int} : Rd (w.alloc (.cells #[.slice A n cap, .int .i64 p] 50)) w.heap.size A n cap p := heap_alloc_new w _
theorem rd_newE {w : World} {A : Option Addr} {n cap : Nat} {p : Int} : RdE (w.alloc (.cells #[.slice A n cap, .int .i64 p] 50)) w.heap.size A n cap := ⟨p, rd_new⟩

set_option maxHeartbeats 12000000 in
theorem drawRatioOf_any (A : Option Addr) (bs : List Int) (cap : Nat) (w : World) (hB : Byts w w.heap.size A bs) (hc : bs.length ≤ cap) (hn : cap ≤ 9223372036854775807) :
    Calls Try.prog 21 #[.slice A bs.length cap] w (DrawTwo w) := by
  obtain ⟨b2, hb2⟩ : ∃ b2, b2 = bs.take 2000 := ⟨_, rfl⟩
  have hl2 : b2.length ≤ 2000 := by rw [hb2]; simp; omega
  have hB2 : Byts w w.heap.size A b2 := by rw [hb2]; exact hB.take 2000
  have HO := l6Open_any A bs cap w hc hn
  rw [← hb2] at HO
  clear hb2 hB
  have hO := hide HO
  clear HO
  have hBw : ∀ (W : World), Below w.heap.size w W → Byts W w.heap.size A b2 := fun W h => hB2.below h
  have HBw := hide hBw
  clear hBw
  go_enter Try.func21, Try.ntmps21
  go_wp2_with fail
  refine hO.out.mono ?_
  rintro e w' ⟨rfl, rfl⟩
  go_wp2_with fail
  refine (pick_exact w.heap.size A b2 cap 0 10 _ rd_new (HBw.out _ (by go_grown)) (by omega) (by omega) hl2 (by omega) (by omega)).mono ?_
  rintro e w1 ⟨x, n, hx0, hx1, rfl, rfl⟩
  by_cases hx : x = 0
  · subst hx
    clear hx0 hx1
    have hv3 := val3_at (-1) 0 9223372036854775807
    have hv4 := val4_at 0 1 9223372036854775807 (-3)
    go_wp2_with fail
    go_region_with (first
      | (go_at_call_of 29 (Value.int .i64 3); refine (pick_exact w.heap.size A b2 cap 1 3 _ (by repeat (first | (with_reducible exact rd_new) | (with_reducible refine Rd.drewN ?_ _) | (with_reducible refine Rd.drew ?_) | (with_reducible refine Rd.alloc ?_ _) | (with_reducible refine RdE.set ?_ _) | (with_reducible exact rd_newE) | (with_reducible refine RdE.drewN ?_ _) | (with_reducible refine RdE.drew ?_) | (with_reducible refine RdE.alloc ?_ _) | (with_reducible refine RdE.again ?_ _))) (HBw.out _ (by repeat (first | (with_reducible exact Below.refl _ _) | (with_reducible refine below_drewN ?_ _) | (with_reducible refine Below.drew ?_) | (with_reducible refine Below.setCell (p := ⟨w.heap.size, 1, none⟩) ?_ (Nat.le_refl _) _) | (with_reducible refine Below.alloc ?_ (by simp; try omega) _)))) (by omega) (by omega) hl2 (by omega) (by omega)).mono ?_; rintro e w1 ⟨y, n1, hy0, hy1, rfl, rfl⟩)
      | (go_at_call_of 29 (Value.int .i64 4); refine (pick_exact w.heap.size A b2 cap 2 4 _ (by repeat (first | (with_reducible exact rd_new) | (with_reducible refine Rd.drewN ?_ _) | (with_reducible refine Rd.drew ?_) | (with_reducible refine Rd.alloc ?_ _) | (with_reducible refine RdE.set ?_ _) | (with_reducible exact rd_newE) | (with_reducible refine RdE.drewN ?_ _) | (with_reducible refine RdE.drew ?_) | (with_reducible refine RdE.alloc ?_ _) | (with_reducible refine RdE.again ?_ _))) (HBw.out _ (by repeat (first | (with_reducible exact Below.refl _ _) | (with_reducible refine below_drewN ?_ _) | (with_reducible refine Below.drew ?_) | (with_reducible refine Below.setCell (p := ⟨w.heap.size, 1, none⟩) ?_ (Nat.le_refl _) _) | (with_reducible refine Below.alloc ?_ (by simp; try omega) _)))) (by omega) (by omega) hl2 (by omega) (by omega)).mono ?_; rintro e w1 ⟨z, n2, hz0, hz1, rfl, rfl⟩))
    all_goals go_wp2
    all_goals go_returns
    all_goals exact ⟨_, _, rfl, val3_bd _, val4_bd _, by repeat (first | (with_reducible exact Below.refl _ _) | (with_reducible refine below_drewN ?_ _) | (with_reducible refine Below.drew ?_) | (with_reducible refine Below.setCell (p := ⟨w.heap.size, 1, none⟩) ?_ (Nat.le_refl _) _) | (with_reducible refine Below.alloc ?_ (by simp; try omega) _))⟩
  · have hx' : (x == 0) = false := beq_eq_false_iff_ne.2 hx
    clear hx
    go_wp2_with fail
    refine (pick_exact w.heap.size A b2 cap 1 60 _ (by repeat (first | (with_reducible exact rd_new) | (with_reducible refine Rd.drewN ?_ _) | (with_reducible refine Rd.drew ?_) | (with_reducible refine Rd.alloc ?_ _) | (with_reducible refine RdE.set ?_ _) | (with_reducible exact rd_newE) | (with_reducible refine RdE.drewN ?_ _) | (with_reducible refine RdE.drew ?_) | (with_reducible refine RdE.alloc ?_ _) | (with_reducible refine RdE.again ?_ _))) (HBw.out _ (by repeat (first | (with_reducible exact Below.refl _ _) | (with_reducible refine below_drewN ?_ _) | (with_reducible refine Below.drew ?_) | (with_reducible refine Below.setCell (p := ⟨w.heap.size, 1, none⟩) ?_ (Nat.le_refl _) _) | (with_reducible refine Below.alloc ?_ (by simp; try omega) _)))) (by omega) (by omega) hl2 (by omega) (by omega)).mono ?_
    rintro e w1 ⟨a, n1, ha0, ha1, rfl, rfl⟩
    go_wp2_with fail
    refine (pick_exact w.heap.size A b2 cap 2 5 _ (by repeat (first | (with_reducible exact rd_new) | (with_reducible refine Rd.drewN ?_ _) | (with_reducible refine Rd.drew ?_) | (with_reducible refine Rd.alloc ?_ _) | (with_reducible refine RdE.set ?_ _) | (with_reducible exact rd_newE) | (with_reducible refine RdE.drewN ?_ _) | (with_reducible refine RdE.drew ?_) | (with_reducible refine RdE.alloc ?_ _) | (with_reducible refine RdE.again ?_ _))) (HBw.out _ (by repeat (first | (with_reducible exact Below.refl _ _) | (with_reducible refine below_drewN ?_ _) | (with_reducible refine Below.drew ?_) | (with_reducible refine Below.setCell (p := ⟨w.heap.size, 1, none⟩) ?_ (Nat.le_refl _) _) | (with_reducible refine Below.alloc ?_ (by simp; try omega) _)))) (by omega) (by omega) hl2 (by omega) (by omega)).mono ?_
    rintro e w1 ⟨b, n2, hb0, hb1, rfl, rfl⟩
    go_wp2_with fail
    refine (pick_exact w.heap.size A b2 cap 3 60 _ (by repeat (first | (with_reducible exact rd_new) | (with_reducible refine Rd.drewN ?_ _) | (with_reducible refine Rd.drew ?_) | (with_reducible refine Rd.alloc ?_ _) | (with_reducible refine RdE.set ?_ _) | (with_reducible exact rd_newE) | (with_reducible refine RdE.drewN ?_ _) | (with_reducible refine RdE.drew ?_) | (with_reducible refine RdE.alloc ?_ _) | (with_reducible refine RdE.again ?_ _))) (HBw.out _ (by repeat (first | (with_reducible exact Below.refl _ _) | (with_reducible refine below_drewN ?_ _) | (with_reducible refine Below.drew ?_) | (with_reducible refine Below.setCell (p := ⟨w.heap.size, 1, none⟩) ?_ (Nat.le_refl _) _) | (with_reducible refine Below.alloc ?_ (by simp; try omega) _)))) (by omega) (by omega) hl2 (by omega) (by omega)).mono ?_
    rintro e w1 ⟨c, n3, hc0, hc1, rfl, rfl⟩
    go_wp2
    go_returns
    exact ⟨_, _, rfl, bd_i64 (wrap64_wf _), by omega, by repeat (first | (with_reducible exact Below.refl _ _) | (with_reducible refine below_drewN ?_ _) | (with_reducible refine Below.drew ?_) | (with_reducible refine Below.setCell (p := ⟨w.heap.size, 1, none⟩) ?_ (Nat.le_refl _) _) | (with_reducible refine Below.alloc ?_ (by simp; try omega) _))⟩
end Go.Proofs.Ytebekdfmaecbcaa
