/-
  WALK: the law FnOhms.
-/
import Derived.Test.YtglknakgfnoeaaaLawCableP
import Derived.Test.YtglknakgfnoeaaaDrawMile
import Derived.Test.YtglknakgfnoeaaaLawSecs
namespace Go.Proofs.Ytglknakgfnoeaaa
set_option linter.unusedVariables false
set_option linter.unusedSimpArgs false
open Go.RowKit

set_option maxRecDepth 100000 in
set_option maxHeartbeats 4000000 in
theorem walk_FnOhms (w0 : World) (A0 : Option Addr) (len0 cap0 : Nat) (bs0 : List Int) (i0 : IsList .u8 w0 A0 len0 cap0 bs0) :
    Calls Try.prog 8 #[.slice A0 len0 cap0] w0 fun e w' => e = .returned (.bool true) ∧ Below w0.heap.size w0 w' := by
  have hB0 := hide (IsList.byts i0)
  obtain ⟨rfl, hbc0, hbm0, -⟩ := i0
  unfold maxLen at hbm0
  by_cases big0 : (1048576 : Int) < (bs0.length : Int)
  · go_enter Try.func8, Try.ntmps8
    go_wp2
    go_ret
    exact ⟨rfl, Below.refl _ _⟩
  · skip
    have T := Below.refl w0.heap.size w0
    go_enter Try.func8, Try.ntmps8
    go_wp2_with fail
    (with_reducible refine (drawCableOhms_any A0 bs0 cap0 w0 hB0.out hbc0 hbm0).mono ?_)
    rintro e w1 ⟨D0, cD0, f, n, a, rfl, hlf, hcD0, hdD0, hn11, ⟨a0, a1⟩, d0, hb1⟩
    have sz1 := hb1.size
    replace T := bt T hb1
    have hn : n ≤ 1048576 := by omega
    by_cases hm : inB a 0 (miles f n) = true
    · have HF := hide (inB_miles hm).1
      obtain ⟨hf, m0, m1⟩ := inB_miles hm
      obtain ⟨-, m2⟩ := inB_iff.1 hm
      have hmi := miles_ok hf
      obtain ⟨z0, z1⟩ := miles_le hf
      obtain ⟨r, hr⟩ : ∃ r, r = ohms f n a := ⟨_, rfl⟩
      have hr' : r = ohmsTo f a n := by rw [hr, ohms_at hf m0 m2]
      have HO := hide hr.symm
      obtain ⟨q0, q1⟩ := ohmsTo_bd hf m0 m1 (Nat.le_refl n)
      rw [← hr'] at q0 q1
      obtain ⟨x, hx⟩ : ∃ x, x = ohms f n (a + 1) := ⟨_, rfl⟩
      have HX := hide hx.symm
      obtain ⟨M, hM⟩ : ∃ M, M = miles f n := ⟨_, rfl⟩
      have HM := hide hM.symm
      obtain ⟨e1, e2⟩ := cback_eq hf
      have E1 := hide e1
      have E2 := hide e2
      have hb := ohms_back hf m0 (by rw [← hmi]; exact m2)
      have hB := cableOk_back hf
      obtain ⟨y, hy⟩ : ∃ y, y = ohms (upto (backC f n) (n * 3)) n (M - a) := ⟨_, rfl⟩
      have HY := hide hy.symm
      have hy' : y = ohmsTo (upto (backC f n) (n * 3)) (M - a) n := by rw [hy]; exact ohms_at hB (by omega) (by rw [miles_back hf]; omega)
      rw [← hr', ← hmi, ← hM, ← hy'] at hb
      obtain ⟨v0, v1⟩ := fullO_bd hf (Nat.le_refl n)
      have HT := hide (show ohms f n M = r + y by rw [hM, all_full hf]; exact hb.symm)
      have HTM := hide (show ohms f n (miles f n) = r + y by rw [all_full hf]; exact hb.symm)
      have hn1 := (sumMi_bd hf (Nat.le_refl n)).1
      have hn2 := (cable_len hf).1
      have hge := ohms_ge hf a.toNat (by rw [show ((a.toNat : Nat) : Int) = a by omega, ← hmi]; exact m2)
      rw [show ((a.toNat : Nat) : Int) = a by omega, ← hr'] at hge
      have hzero : a = 0 → r = 0 := fun h => by rw [hr', h]; exact ohms_zero hf
      have hstep : a < M → r < x ∧ x ≤ r + 20 := fun h => by
        rw [hx, ohms_at hf (by omega) (by omega), hr']; exact ohms_step hf m0 (by rw [← hmi, ← hM]; exact h)
      have hend : a = M → x = -1 := fun h => by rw [hx]; exact ohms_off (by omega)
      rw [← hmi, ← hM] at hn1
      rw [← hM] at m2 z0 z1
      clear hm hr hr' hx hy hy' hM hB hmi e1 e2
      go_wp2_with fail
      (with_reducible refine (cableOhms_any _ f n _ a _ hlf (d0.ints.mono (by omega)) hn).mono ?_)
      rintro e w2 ⟨rfl, hb2⟩
      have sz2 := hb2.size
      replace d0 := d0.below (hb2.mono (by omega))
      replace T := bt T hb2
      rw [HO.out]
      go_wp2_with fail
      (with_reducible refine (specCableOhms_any _ f n _ a _ hlf (d0.ints.mono (by omega)) hn).mono ?_)
      rintro e w3 ⟨rfl, hb3⟩
      have sz3 := hb3.size
      replace d0 := d0.below (hb3.mono (by omega))
      replace T := bt T hb3
      rw [HO.out]
      go_wp2_with fail
      (with_reducible refine (cableOhms_any _ f n _ _ _ hlf (d0.ints.mono (by omega)) hn).mono ?_)
      rintro e w4 ⟨rfl, hb4⟩
      have sz4 := hb4.size
      replace d0 := d0.below (hb4.mono (by omega))
      replace T := bt T hb4
      rw [HX.out]
      go_wp2_with fail
      (with_reducible refine (cableBack_any _ f n _ _ hlf (d0.ints.mono (by omega)) hn).mono ?_)
      rintro e w5 ⟨Bg, cg, rfl, hlg, hcg, hdg, g, hb5⟩
      have sz5 := hb5.size
      replace d0 := d0.below (hb5.mono (by omega))
      replace T := bt T hb5
      rw [E1.out, E2.out] at hlg
      rw [E1.out] at g
      rw [E2.out] at hcg ⊢
      rw [HF.out]
      go_wp2_with fail
      (with_reducible refine (cableMiles_any _ f n _ _ hlf (d0.ints.mono (by omega)) hn).mono ?_)
      rintro e w6 ⟨rfl, hb6⟩
      have sz6 := hb6.size
      replace d0 := d0.below (hb6.mono (by omega))
      replace g := g.below (hb6.mono (by omega))
      replace T := bt T hb6
      rw [HM.out]
      by_cases hl : a = M
      · have hx1 := hend hl
        have k1 : (r == 0) = false := beq_eq_false_iff_ne.2 (by omega)
        have k2 : (a == 0) = false := beq_eq_false_iff_ne.2 (by omega)
        have k3 : (a == M) = true := by rw [hl]; simp
        have k4 : (x == -1) = true := by rw [hx1]; rfl
        clear hend hstep hzero hl hge
        go_wp2_with fail
        (with_reducible refine (cableOhms_any _ _ n _ _ _ hlg (g.ints.mono (by omega)) hn).mono ?_)
        rintro e w7 ⟨rfl, hb7⟩
        have sz7 := hb7.size
        replace d0 := d0.below (hb7.mono (by omega))
        replace g := g.below (hb7.mono (by omega))
        replace T := bt T hb7
        rw [HY.out]
        go_wp2_with fail
        (with_reducible refine (cableAll_any _ f n _ _ hlf (d0.ints.mono (by omega)) hn).mono ?_)
        rintro e w8 ⟨rfl, hb8⟩
        have sz8 := hb8.size
        replace d0 := d0.below (hb8.mono (by omega))
        replace g := g.below (hb8.mono (by omega))
        replace T := bt T hb8
        rw [HTM.out]
        go_wp2
        go_ret
        exact ⟨rfl, T⟩
      · obtain ⟨hx1, hx2⟩ := hstep (by omega)
        have k3 : (a == M) = false := beq_eq_false_iff_ne.2 hl
        by_cases hz : a = 0
        · have hr0 := hzero hz
          have k1 : (r == 0) = true := by rw [hr0]; rfl
          have k2 : (a == 0) = true := by rw [hz]; rfl
          clear hend hstep hzero hl hge hz hr0
          go_wp2_with fail
          (with_reducible refine (cableOhms_any _ _ n _ _ _ hlg (g.ints.mono (by omega)) hn).mono ?_)
          rintro e w7 ⟨rfl, hb7⟩
          have sz7 := hb7.size
          replace d0 := d0.below (hb7.mono (by omega))
          replace g := g.below (hb7.mono (by omega))
          replace T := bt T hb7
          rw [HY.out]
          go_wp2_with fail
          (with_reducible refine (cableAll_any _ f n _ _ hlf (d0.ints.mono (by omega)) hn).mono ?_)
          rintro e w8 ⟨rfl, hb8⟩
          have sz8 := hb8.size
          replace d0 := d0.below (hb8.mono (by omega))
          replace g := g.below (hb8.mono (by omega))
          replace T := bt T hb8
          rw [HTM.out]
          go_wp2
          go_ret
          exact ⟨rfl, T⟩
        · skip
          have k1 : (r == 0) = false := beq_eq_false_iff_ne.2 (by omega)
          have k2 : (a == 0) = false := beq_eq_false_iff_ne.2 hz
          clear hend hstep hzero hl hge hz
          go_wp2_with fail
          (with_reducible refine (cableOhms_any _ _ n _ _ _ hlg (g.ints.mono (by omega)) hn).mono ?_)
          rintro e w7 ⟨rfl, hb7⟩
          have sz7 := hb7.size
          replace d0 := d0.below (hb7.mono (by omega))
          replace g := g.below (hb7.mono (by omega))
          replace T := bt T hb7
          rw [HY.out]
          go_wp2_with fail
          (with_reducible refine (cableAll_any _ f n _ _ hlf (d0.ints.mono (by omega)) hn).mono ?_)
          rintro e w8 ⟨rfl, hb8⟩
          have sz8 := hb8.size
          replace d0 := d0.below (hb8.mono (by omega))
          replace g := g.below (hb8.mono (by omega))
          replace T := bt T hb8
          rw [HTM.out]
          go_wp2
          go_ret
          exact ⟨rfl, T⟩
    · have hm' : inB a 0 (miles f n) = false := by simpa using hm
      have HO := hide (show ohms f n a = -1 by simp [ohms, hm'])
      clear hm hm'
      go_wp2_with fail
      (with_reducible refine (cableOhms_any _ f n _ a _ hlf (d0.ints.mono (by omega)) hn).mono ?_)
      rintro e w2 ⟨rfl, hb2⟩
      have sz2 := hb2.size
      replace d0 := d0.below (hb2.mono (by omega))
      replace T := bt T hb2
      rw [HO.out]
      go_wp2_with fail
      (with_reducible refine (specCableOhms_any _ f n _ a _ hlf (d0.ints.mono (by omega)) hn).mono ?_)
      rintro e w3 ⟨rfl, hb3⟩
      have sz3 := hb3.size
      replace d0 := d0.below (hb3.mono (by omega))
      replace T := bt T hb3
      rw [HO.out]
      go_wp2
      go_ret
      exact ⟨rfl, T⟩
end Go.Proofs.Ytglknakgfnoeaaa
