/-
  THE LAW FnRatio: its plain part, and its walk.
-/
import Derived.Test.YtebekdfmaecbcaaRatioLaws
import Derived.Test.YtebekdfmaecbcaaDrawRatioOf
namespace Go.Proofs.Ytebekdfmaecbcaa
set_option linter.unusedVariables false
set_option linter.unusedSimpArgs false
open Go.RowKit

theorem rOk_iff {t l : Int} : rOk t l = true ↔ 0 ≤ t ∧ 1 ≤ l := by simp [rOk]
theorem low_nat (t l : Nat) (h : 1 ≤ l) : 1 ≤ l / Nat.gcd t l :=
  (Nat.one_le_div_iff (Nat.gcd_pos_of_pos_right _ h)).2 (Nat.gcd_le_right _ h)
theorem coprime_nat (t l : Nat) (h : 1 ≤ l) : Nat.gcd (t / Nat.gcd t l) (l / Nat.gcd t l) = 1 :=
  Nat.gcd_div_gcd_div_gcd_of_pos_right h
theorem cross_nat (t l : Nat) : t / Nat.gcd t l * l = t * (l / Nat.gcd t l) := by
  obtain ⟨a, ha⟩ := Nat.gcd_dvd_left t l
  obtain ⟨b, hb⟩ := Nat.gcd_dvd_right t l
  by_cases h0 : Nat.gcd t l = 0
  · rw [h0, Nat.zero_mul] at ha hb
    subst ha hb
    simp
  · have hp : 0 < Nat.gcd t l := Nat.pos_of_ne_zero h0
    have e1 : t / Nat.gcd t l = a := by rw [Nat.div_eq_iff_eq_mul_right hp (Nat.gcd_dvd_left t l)]; exact ha
    have e2 : l / Nat.gcd t l = b := by rw [Nat.div_eq_iff_eq_mul_right hp (Nat.gcd_dvd_right t l)]; exact hb
    rw [e1, e2]
    calc a * l = a * (Nat.gcd t l * b) := by rw [← hb]
      _ = Nat.gcd t l * a * b := by rw [← Nat.mul_assoc, Nat.mul_comm a]
      _ = t * b := by rw [← ha]

/-- What the law asks of a ratio in lowest terms. -/
theorem ratio_law {t l : Int} (h : rOk t l = true) : (1 ≤ rLow t l ∧ 0 ≤ rTop t l ∧ rTop t l ≤ t ∧ rLow t l ≤ l) ∧
    rOk (rTop t l) (rLow t l) = true ∧ rTop (rTop t l) (rLow t l) = rTop t l ∧ rLow (rTop t l) (rLow t l) = rLow t l ∧
    rOk (2 * t) (2 * l) = true ∧ rTop (2 * t) (2 * l) = rTop t l ∧ rLow (2 * t) (2 * l) = rLow t l ∧ rTop t l * l = t * rLow t l := by
  obtain ⟨h0, h1⟩ := rOk_iff.1 h
  obtain ⟨t, rfl⟩ := Int.eq_ofNat_of_zero_le h0
  obtain ⟨l, rfl⟩ := Int.eq_ofNat_of_zero_le (show 0 ≤ l by omega)
  have hl : 1 ≤ l := by omega
  have e1 := rTop_nat t l hl
  have e2 := rLow_nat t l hl
  have hlow := low_nat t l hl
  have hc := coprime_nat t l hl
  have m1 := Nat.div_le_self t (Nat.gcd t l)
  have m2 := Nat.div_le_self l (Nat.gcd t l)
  have hx := cross_nat t l
  have e3 := rTop_nat (t / Nat.gcd t l) (l / Nat.gcd t l) hlow
  have e4 := rLow_nat (t / Nat.gcd t l) (l / Nat.gcd t l) hlow
  rw [hc, Nat.div_one] at e3 e4
  have hg : Nat.gcd (2 * t) (2 * l) = 2 * Nat.gcd t l := Nat.gcd_mul_left _ _ _
  have e5 := rTop_nat (2 * t) (2 * l) (by omega)
  have e6 := rLow_nat (2 * t) (2 * l) (by omega)
  rw [hg, Nat.mul_div_mul_left _ _ (by omega)] at e5 e6
  have c1 : (2 : Int) * (t : Int) = ((2 * t : Nat) : Int) := by omega
  have c2 : (2 : Int) * (l : Int) = ((2 * l : Nat) : Int) := by omega
  rw [c1, c2, e1, e2]
  generalize t / Nat.gcd t l = a at *
  generalize l / Nat.gcd t l = b at *
  refine ⟨⟨by omega, by omega, by omega, by omega⟩, rOk_nat _ _ hlow, e3, e4, rOk_nat _ _ (by omega), e5, e6, ?_⟩
  rw [← Int.natCast_mul, ← Int.natCast_mul, hx]

set_option maxHeartbeats 1600000 in
set_option maxRecDepth 100000 in
theorem walk_FnRatio (w : World) (A : Option Addr) (len cap : Nat) (bs : List Int) (h0 : IsList .u8 w A len cap bs) :
    Calls Try.prog 8 #[.slice A len cap] w fun e w' => e = .returned (.bool true) ∧ Below w.heap.size w w' := by
  have hB := hide (IsList.byts h0)
  obtain ⟨rfl, hc, hm, -⟩ := h0
  unfold maxLen at hm
  by_cases hbig : (1048576 : Int) < (bs.length : Int)
  · go_enter Try.func8, Try.ntmps8
    go_wp2
    go_ret
    exact ⟨rfl, Below.refl _ _⟩
  · go_enter Try.func8, Try.ntmps8
    go_wp2_with fail
    refine (drawRatioOf_any A bs cap w hB.out hc hm).mono ?_
    rintro e w1 ⟨t, l, rfl, ⟨ht1, ht2⟩, ⟨hl1, hl2⟩, hb1⟩
    go_wp2_with fail
    refine (ratioOf_any t l _ ht2 hl2).mono ?_
    rintro e w2 ⟨rfl, hb2⟩
    have B2 := bt hb1 hb2
    clear hb2
    go_wp2_with fail
    refine (specRatioOf_any t l _ ht2 hl2).mono ?_
    rintro e w3 ⟨rfl, hb3⟩
    have k1 := (hb3.cell (p := ⟨w2.heap.size, 0, none⟩) (by simp)).trans (show _ = some (.int .i64 (rTop t l)) by go_cell)
    have k2 := (hb3.cell (p := ⟨w2.heap.size, 1, none⟩) (by simp)).trans (show _ = some (.int .i64 (rLow t l)) by go_cell)
    have hz3 : w2.heap.size < w3.heap.size := by have := hb3.size; simp at this; omega
    have B3 := bt (bt B2 ((Below.refl _ _).alloc (Nat.le_refl _) _)) hb3
    clear hb3
    by_cases hr : rOk t l = true
    · obtain ⟨⟨g1, g2, g3, g4⟩, r1, r2, r3, r4, r5, r6, r7⟩ := ratio_law hr
      have C1 : ∀ W, Calls Try.prog 14 #[.int .i64 (rTop t l), .int .i64 (rLow t l)] W fun e w' => e = .returned (.tuple #[.agg #[.int .i64 (rTop t l), .int .i64 (rLow t l)], .bool true]) ∧ Below W.heap.size W w' := fun W => by
        have := ratioOf_any (rTop t l) (rLow t l) W (by omega) (by omega)
        rw [r1, r2, r3] at this
        exact this
      have D1 := hide C1
      have C2 : t ≤ 1000000 → l ≤ 1000000 → ∀ W, Calls Try.prog 14 #[.int .i64 (2 * t), .int .i64 (2 * l)] W fun e w' => e = .returned (.tuple #[.agg #[.int .i64 (rTop t l), .int .i64 (rLow t l)], .bool true]) ∧ Below W.heap.size W w' := fun a b W => by
        have := ratioOf_any (2 * t) (2 * l) W (by omega) (by omega)
        rw [r4, r5, r6] at this
        exact this
      have D2 := hide C2
      have R7 := hide (show (wrap64 (rTop t l * l) == wrap64 (t * rLow t l)) = true by rw [r7]; simp)
      obtain ⟨h0t, h1l⟩ := rOk_iff.1 hr
      clear r1 r2 r3 r4 r5 r6 r7 C1 C2
      go_wp2_with fail
      refine (D1.out _).mono ?_
      rintro e w4 ⟨rfl, hb4⟩
      have j1 := (hb4.cell (p := ⟨w2.heap.size, 0, none⟩) (by simp; omega)).trans (show _ = some (.int .i64 (rTop t l)) by go_cell)
      have j2 := (hb4.cell (p := ⟨w2.heap.size, 1, none⟩) (by simp; omega)).trans (show _ = some (.int .i64 (rLow t l)) by go_cell)
      have hz4 : w2.heap.size < w4.heap.size := by have := hb4.size; simp at this; omega
      have B4 := bt (bt B3 ((Below.refl _ _).alloc (Nat.le_refl _) _)) hb4
      clear hb4 k1 k2
      by_cases ct : (1000000 : Int) < t
      · go_wp2
        go_ret
        exact ⟨rfl, B4.alloc B4.size _⟩
      · by_cases cl : (1000000 : Int) < l
        · go_wp2
          go_ret
          exact ⟨rfl, B4.alloc B4.size _⟩
        · have D3 := hide (D2.out (by omega) (by omega))
          clear D2
          go_wp2_with fail
          refine (D3.out _).mono ?_
          rintro e w5 ⟨rfl, hb5⟩
          have o1 := (hb5.cell (p := ⟨w2.heap.size, 0, none⟩) (by simp; omega)).trans (show _ = some (.int .i64 (rTop t l)) by go_cell)
          have o2 := (hb5.cell (p := ⟨w2.heap.size, 1, none⟩) (by simp; omega)).trans (show _ = some (.int .i64 (rLow t l)) by go_cell)
          have o3 := (hb5.cell (p := ⟨w4.heap.size, 0, none⟩) (by simp)).trans (show _ = some (.int .i64 (rTop t l)) by go_cell)
          have o4 := (hb5.cell (p := ⟨w4.heap.size, 1, none⟩) (by simp)).trans (show _ = some (.int .i64 (rLow t l)) by go_cell)
          have hz5 : w2.heap.size < w5.heap.size := by have := hb5.size; simp at this; omega
          have hz6 : w4.heap.size < w5.heap.size := by have := hb5.size; simp at this; omega
          have B5 := bt (bt B4 ((Below.refl _ _).alloc (Nat.le_refl _) _)) hb5
          clear hb5 j1 j2
          have q7 := R7.out
          go_wp2
          go_ret
          exact ⟨rfl, B5.alloc B5.size _⟩
    · have hr' : rOk t l = false := by simpa using hr
      clear hr
      go_wp2
      go_ret
      exact ⟨rfl, B3.alloc B3.size _⟩
end Go.Proofs.Ytebekdfmaecbcaa
