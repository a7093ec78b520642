/-
  WALK: the law FnWhere.
-/
import Derived.Test.YtglknakgfnoeaaaLawCableP
import Derived.Test.YtglknakgfnoeaaaDrawWhere
import Derived.Test.YtglknakgfnoeaaaLawSecs
namespace Go.Proofs.Ytglknakgfnoeaaa
set_option linter.unusedVariables false
set_option linter.unusedSimpArgs false
open Go.RowKit

set_option maxRecDepth 100000 in
set_option maxHeartbeats 4000000 in
theorem walk_FnWhere (w0 : World) (A0 : Option Addr) (len0 cap0 : Nat) (bs0 : List Int) (i0 : IsList .u8 w0 A0 len0 cap0 bs0) :
    Calls Try.prog 7 #[.slice A0 len0 cap0] w0 fun e w' => e = .returned (.bool true) ∧ Below w0.heap.size w0 w' := by
  have hB0 := hide (IsList.byts i0)
  obtain ⟨rfl, hbc0, hbm0, -⟩ := i0
  unfold maxLen at hbm0
  by_cases big0 : (1048576 : Int) < (bs0.length : Int)
  · go_enter Try.func7, Try.ntmps7
    go_wp2
    go_ret
    exact ⟨rfl, Below.refl _ _⟩
  · skip
    have T := Below.refl w0.heap.size w0
    go_enter Try.func7, Try.ntmps7
    go_wp2_with fail
    (with_reducible refine (drawCableWhere_any A0 bs0 cap0 w0 hB0.out hbc0 hbm0).mono ?_)
    rintro e w1 ⟨D0, cD0, f, n, a, rfl, hlf, hcD0, hdD0, hn11, ⟨a0, a1⟩, d0, hb1⟩
    have sz1 := hb1.size
    replace T := bt T hb1
    have hn : n ≤ 1048576 := by omega
    by_cases hw : whOk f n a = true
    · have HW := hide hw
      have hk : cableOk f n = true ∧ 0 ≤ a := by simpa [whOk] using hw
      obtain ⟨hk, a2⟩ := hk
      obtain ⟨m0, m1, r1, r2⟩ := where_is hk a2
      obtain ⟨z0, z1⟩ := miles_le hk
      obtain ⟨M, hM⟩ : ∃ M, M = whereM f n a := ⟨_, rfl⟩
      rw [← hM] at m0 m1 r1 r2
      obtain ⟨r, hr⟩ : ∃ r, r = ohmsTo f M n := ⟨_, rfl⟩
      rw [← hr] at r1
      have hrb := ohmsTo_bd hk m0 (show M ≤ 400 by omega) (Nat.le_refl n)
      rw [← hr] at hrb
      obtain ⟨q0, q1⟩ := hrb
      have HW1 := hide (show whM f n a = M by simp only [whM, hw, if_true, hM])
      have HW2 := hide (show whL f n a = a - r by simp only [whL, hw, if_true, hr, hM])
      have HO := hide (show ohms f n M = r by rw [ohms_at hk m0 m1, hr])
      obtain ⟨x, hx⟩ : ∃ x, x = ohms f n (M + 1) := ⟨_, rfl⟩
      have HX := hide hx
      have hxx : x = -1 ∨ (x == -1) = false ∧ a < x := by
        by_cases hlt : M < miles f n
        · right
          have := r2 hlt
          rw [hx, ohms_at hk (by omega) (by omega)]
          exact ⟨beq_eq_false_iff_ne.2 (by omega), this⟩
        · left; rw [hx]; exact ohms_off (by omega)
      clear hk hw hM hr hx r2 z0
      have s1 : r + (a - r) = a := by omega
      have s2 : (0 : Int) ≤ a - r := by omega
      have hM4 : M ≤ 400 := by omega
      go_wp2_with fail
      (with_reducible refine (cableWhere_any _ f n _ a _ hlf (d0.ints.mono (by omega)) hn a1).mono ?_)
      rintro e w2 ⟨rfl, hb2⟩
      have sz2 := hb2.size
      replace d0 := d0.below (hb2.mono (by omega))
      replace T := bt T hb2
      rw [HW.out, HW1.out, HW2.out]
      go_wp2_with fail
      (with_reducible refine (specCableWhere_any _ f n _ a _ hlf (d0.ints.mono (by omega)) hn a1).mono ?_)
      rintro e w3 ⟨rfl, hb3⟩
      have sz3 := hb3.size
      replace d0 := d0.below (hb3.mono (by omega))
      replace T := bt T hb3
      rw [HW.out, HW1.out, HW2.out]
      go_wp2_with fail
      (with_reducible refine (cableOhms_any _ f n _ _ _ hlf (d0.ints.mono (by omega)) hn).mono ?_)
      rintro e w4 ⟨rfl, hb4⟩
      have sz4 := hb4.size
      replace d0 := d0.below (hb4.mono (by omega))
      replace T := bt T hb4
      rw [← HX.out]
      go_wp2_with fail
      (with_reducible refine (cableOhms_any _ f n _ _ _ hlf (d0.ints.mono (by omega)) hn).mono ?_)
      rintro e w5 ⟨rfl, hb5⟩
      have sz5 := hb5.size
      replace d0 := d0.below (hb5.mono (by omega))
      replace T := bt T hb5
      rw [HO.out]
      rcases hxx with rfl | ⟨hx1, hx2⟩
      · go_wp2
        go_ret
        exact ⟨rfl, T⟩
      · go_wp2
        go_ret
        exact ⟨rfl, T⟩
    · have hw' : whOk f n a = false := by simpa using hw
      have HW := hide hw'
      have HW1 := hide (show whM f n a = 0 by simp [whM, hw'])
      have HW2 := hide (show whL f n a = 0 by simp [whL, hw'])
      clear hw hw'
      go_wp2_with fail
      (with_reducible refine (cableWhere_any _ f n _ a _ hlf (d0.ints.mono (by omega)) hn a1).mono ?_)
      rintro e w2 ⟨rfl, hb2⟩
      have sz2 := hb2.size
      replace d0 := d0.below (hb2.mono (by omega))
      replace T := bt T hb2
      rw [HW.out, HW1.out, HW2.out]
      go_wp2_with fail
      (with_reducible refine (specCableWhere_any _ f n _ a _ hlf (d0.ints.mono (by omega)) hn a1).mono ?_)
      rintro e w3 ⟨rfl, hb3⟩
      have sz3 := hb3.size
      replace d0 := d0.below (hb3.mono (by omega))
      replace T := bt T hb3
      rw [HW.out, HW1.out, HW2.out]
      go_wp2
      go_ret
      exact ⟨rfl, T⟩
end Go.Proofs.Ytglknakgfnoeaaa
