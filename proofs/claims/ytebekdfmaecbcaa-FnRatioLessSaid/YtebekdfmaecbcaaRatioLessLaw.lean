/-
  THE LAW FnRatioLess: its plain part, and its walk.
-/
import Derived.Test.YtebekdfmaecbcaaRatioLaws
import Derived.Test.YtebekdfmaecbcaaDrawRatioLess
namespace Go.Proofs.Ytebekdfmaecbcaa
set_option linter.unusedVariables false
set_option linter.unusedSimpArgs false
open Go.RowKit

theorem mul_bd {x y : Int} (hx : 0 ≤ x) (hx' : x ≤ 1000000) (hy : 0 ≤ y) (hy' : y ≤ 1000000) : 0 ≤ x * y ∧ x * y ≤ 1000000000000 := by
  refine ⟨Int.mul_nonneg hx hy, ?_⟩
  have h1 : x * y ≤ 1000000 * y := Int.mul_le_mul_of_nonneg_right hx' hy
  omega
theorem cmpOk_iff {t l : Int} : cmpOk t l = true ↔ (1 ≤ l ∧ l ≤ 1000000) ∧ (0 ≤ t ∧ t ≤ 1000000) := by simp [cmpOk, inB]
theorem rLess_iff {t l t' l' : Int} : rLess t l t' l' = true ↔ cmpOk t l = true ∧ cmpOk t' l' = true ∧ t * l' < t' * l := by
  by_cases h1 : cmpOk t l = true
  · by_cases h2 : cmpOk t' l' = true
    · obtain ⟨⟨a1, a2⟩, a3, a4⟩ := cmpOk_iff.1 h1
      obtain ⟨⟨b1, b2⟩, b3, b4⟩ := cmpOk_iff.1 h2
      have m1 := mul_bd a3 a4 (show (0 : Int) ≤ l' by omega) b2
      have m2 := mul_bd b3 b4 (show (0 : Int) ≤ l by omega) a2
      have e1 := IntWalk.wrap64_in (t * l') ⟨by omega, by omega⟩
      have e2 := IntWalk.wrap64_in (t' * l) ⟨by omega, by omega⟩
      simp [rLess, h1, h2, crossLess, e1, e2]
    · simp [rLess, h2]
  · simp [rLess, h1]
theorem rLess_asym {t l t' l' : Int} (h : rLess t l t' l' = true) : rLess t' l' t l = false := by
  obtain ⟨h1, h2, h3⟩ := rLess_iff.1 h
  cases e : rLess t' l' t l
  · rfl
  · have := (rLess_iff.1 e).2.2; omega
theorem rLess_irrefl (t l : Int) : rLess t l t l = false := by
  cases e : rLess t l t l
  · rfl
  · have := (rLess_iff.1 e).2.2; omega
theorem rLess_more {t l t' l' : Int} (h : rLess t l t' l' = true) (ht : t' + 1 ≤ 1000000) : rLess t l (t' + 1) l' = true := by
  obtain ⟨h1, h2, h3⟩ := rLess_iff.1 h
  obtain ⟨⟨a1, a2⟩, a3, a4⟩ := cmpOk_iff.1 h1
  obtain ⟨⟨b1, b2⟩, b3, b4⟩ := cmpOk_iff.1 h2
  refine rLess_iff.2 ⟨h1, cmpOk_iff.2 ⟨⟨b1, b2⟩, by omega, ht⟩, ?_⟩
  rw [Int.add_mul]
  omega

set_option maxHeartbeats 1600000 in
theorem walk_FnRatioLess (w : World) (A : Option Addr) (len cap : Nat) (bs : List Int) (h0 : IsList .u8 w A len cap bs) :
    Calls Try.prog 6 #[.slice A len cap] w fun e w' => e = .returned (.bool true) ∧ Below w.heap.size w w' := by
  have hB := hide h0.byts
  obtain ⟨rfl, hc, hm, -⟩ := h0
  unfold maxLen at hm
  by_cases hbig : (1048576 : Int) < (bs.length : Int)
  · go_enter Try.func6, Try.ntmps6
    go_wp2
    go_ret
    exact ⟨rfl, Below.refl _ _⟩
  · go_enter Try.func6, Try.ntmps6
    go_wp2_with fail
    refine (drawRatioLess_any A bs cap w hB.out hc hm).mono ?_
    rintro e w1 ⟨t, l, t', l', rfl, hb1⟩
    go_wp2_with fail
    refine (ratioLess_any t l t' l' _).mono ?_
    rintro e w2 ⟨rfl, hb2⟩
    have k1 := (hb2.cell (p := ⟨w1.heap.size, 0, none⟩) (by simp; omega)).trans (show _ = some (.int .i64 t) by go_cell)
    have k2 := (hb2.cell (p := ⟨w1.heap.size, 1, none⟩) (by simp; omega)).trans (show _ = some (.int .i64 l) by go_cell)
    have k3 := (hb2.cell (p := ⟨w1.heap.size + 1, 0, none⟩) (by simp)).trans (show _ = some (.int .i64 t') by go_cell)
    have k4 := (hb2.cell (p := ⟨w1.heap.size + 1, 1, none⟩) (by simp)).trans (show _ = some (.int .i64 l') by go_cell)
    have hz2 : w1.heap.size + 1 < w2.heap.size := by have := hb2.size; simp at this; omega
    have hb2' : Below w.heap.size w w2 := bt (bt (bt hb1 ((Below.refl _ _).alloc (Nat.le_refl _) _)) ((Below.refl _ _).alloc (Nat.le_refl _) _)) hb2
    clear hb2
    go_wp2_with fail
    refine (specRatioLess_any t l t' l' _).mono ?_
    rintro e w3 ⟨rfl, hb3⟩
    have j1 := (hb3.cell (p := ⟨w1.heap.size, 0, none⟩) (by simp; omega)).trans k1
    have j2 := (hb3.cell (p := ⟨w1.heap.size, 1, none⟩) (by simp; omega)).trans k2
    have j3 := (hb3.cell (p := ⟨w1.heap.size + 1, 0, none⟩) (by simp; omega)).trans k3
    have j4 := (hb3.cell (p := ⟨w1.heap.size + 1, 1, none⟩) (by simp; omega)).trans k4
    have hz3 : w1.heap.size + 1 < w3.heap.size := by have := hb3.size; omega
    have hz3a : w1.heap.size < w3.heap.size := by omega
    have hb3' := bt hb2' hb3
    clear k1 k2 k3 k4 hb3 hb2' hz2
    by_cases hr : rLess t l t' l' = true
    · have hr1 := rLess_asym hr
      have hr2 := rLess_irrefl t l
      obtain ⟨-, g2, -⟩ := rLess_iff.1 hr
      obtain ⟨-, g3, g4⟩ := cmpOk_iff.1 g2
      have HM := hide (fun ht => rLess_more hr ht)
      clear g2
      go_wp2_with fail
      refine (ratioLess_any t' l' t l _).mono ?_
      rintro e w4 ⟨rfl, hb4⟩
      have i1 := (hb4.cell (p := ⟨w1.heap.size, 0, none⟩) (by simp; omega)).trans (show _ = some (.int .i64 t) by go_cell)
      have i2 := (hb4.cell (p := ⟨w1.heap.size, 1, none⟩) (by simp; omega)).trans (show _ = some (.int .i64 l) by go_cell)
      have i5 := (hb4.cell (p := ⟨w3.heap.size, 0, none⟩) (by simp)).trans (show _ = some (.int .i64 (t' + 1)) by go_cell)
      have i6 := (hb4.cell (p := ⟨w3.heap.size, 1, none⟩) (by simp)).trans (show _ = some (.int .i64 l') by go_cell)
      have hz4 : w1.heap.size + 1 < w4.heap.size ∧ w3.heap.size < w4.heap.size := by have := hb4.size; simp at this; omega
      have hz4a : w1.heap.size < w4.heap.size := by omega
      have hb4' := bt (bt hb3' ((Below.refl _ _).alloc (Nat.le_refl _) _)) hb4
      clear hb4 j1 j2 j3 j4
      go_wp2_with fail
      refine (ratioLess_any t l t l _).mono ?_
      rintro e w5 ⟨rfl, hb5⟩
      have o1 := (hb5.cell (p := ⟨w1.heap.size, 0, none⟩) (by simp; omega)).trans i1
      have o2 := (hb5.cell (p := ⟨w1.heap.size, 1, none⟩) (by simp; omega)).trans i2
      have o5 := (hb5.cell (p := ⟨w3.heap.size, 0, none⟩) (by simp; omega)).trans i5
      have o6 := (hb5.cell (p := ⟨w3.heap.size, 1, none⟩) (by simp; omega)).trans i6
      have hb5' := bt hb4' hb5
      clear hb5 i1 i2 i5 i6
      by_cases hgt : (1000000 : Int) < t' + 1
      · go_wp2
        go_ret
        exact ⟨rfl, hb5'⟩
      · have hm := HM.out (by omega)
        go_wp2_with fail
        refine (ratioLess_any t l (t' + 1) l' _).mono ?_
        rintro e w6 ⟨rfl, hb6⟩
        go_wp2
        go_ret
        exact ⟨rfl, bt hb5' hb6⟩
    · have hr' : rLess t l t' l' = false := by simpa using hr
      clear hr
      go_wp2
      go_ret
      exact ⟨rfl, hb3'⟩
end Go.Proofs.Ytebekdfmaecbcaa
