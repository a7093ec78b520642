/-
  WALK: the law FnMiles.
-/
import Derived.Test.YtglknakgfnoeaaaLawCableP
import Derived.Test.YtglknakgfnoeaaaDrawsCable
import Derived.Test.YtglknakgfnoeaaaLawSecs
import Derived.Test.YtglknakgfnoeaaaKindI
namespace Go.Proofs.Ytglknakgfnoeaaa
set_option linter.unusedVariables false
set_option linter.unusedSimpArgs false
open Go.RowKit

set_option maxRecDepth 100000 in
set_option maxHeartbeats 4000000 in
theorem walk_FnMiles (w0 : World) (A0 : Option Addr) (len0 cap0 : Nat) (bs0 : List Int) (i0 : IsList .u8 w0 A0 len0 cap0 bs0) :
    Calls Try.prog 4 #[.slice A0 len0 cap0] w0 fun e w' => e = .returned (.bool true) ∧ Below w0.heap.size w0 w' := by
  have hB0 := hide (IsList.byts i0)
  obtain ⟨rfl, hbc0, hbm0, -⟩ := i0
  unfold maxLen at hbm0
  by_cases big0 : (1048576 : Int) < (bs0.length : Int)
  · go_enter Try.func4, Try.ntmps4
    go_wp2
    go_ret
    exact ⟨rfl, Below.refl _ _⟩
  · skip
    have T := Below.refl w0.heap.size w0
    go_enter Try.func4, Try.ntmps4
    go_wp2_with fail
    (with_reducible refine (drawCableMiles_any A0 bs0 cap0 w0 hB0.out hbc0 hbm0).mono ?_)
    rintro e w1 ⟨D0, cD0, f, n, rfl, hlf, hcD0, hdD0, hn11, d0, hb1⟩
    have sz1 := hb1.size
    replace T := bt T hb1
    have hn : n ≤ 1048576 := by omega
    by_cases hf : cableOk f n = true
    · have HF := hide hf
      obtain ⟨z0, z1⟩ := miles_le hf
      obtain ⟨M, hM⟩ : ∃ M : Nat, miles f n = (M : Int) := ⟨(miles f n).toNat, by omega⟩
      have hnM : n ≤ M := by
        have := (sumMi_bd hf (Nat.le_refl n)).1
        rw [← miles_ok hf, hM] at this; omega
      have HK := hide (fun (k : Nat) (hk : k < M) => kind_in hf (m := (k : Int)) (by omega) (by omega))
      have HKo := hide (kind_off (fl := f) (n := n) (m := (M : Int)) (by omega))
      obtain ⟨e1, e2⟩ := cback_eq hf
      have E1 := hide e1
      have E2 := hide e2
      have HM := hide hM
      have HMB := hide ((miles_back hf).trans hM)
      have hM4 : (M : Int) ≤ 400 := by omega
      clear hf e1 e2 z0 z1 hM
      go_wp2_with fail
      (with_reducible refine (cableMiles_any _ f n _ _ hlf (d0.ints.mono (by omega)) hn).mono ?_)
      rintro e w2 ⟨rfl, hb2⟩
      have sz2 := hb2.size
      replace d0 := d0.below (hb2.mono (by omega))
      replace T := bt T hb2
      rw [HM.out]
      go_wp2_with fail
      (with_reducible refine (specCableMiles_any _ f n _ _ hlf (d0.ints.mono (by omega)) hn).mono ?_)
      rintro e w3 ⟨rfl, hb3⟩
      have sz3 := hb3.size
      replace d0 := d0.below (hb3.mono (by omega))
      replace T := bt T hb3
      rw [HM.out]
      go_wp2_with fail
      (with_reducible refine (cableBack_any _ f n _ _ hlf (d0.ints.mono (by omega)) hn).mono ?_)
      rintro e w4 ⟨Bg, cg, rfl, hlg, hcg, hdg, g, hb4⟩
      have sz4 := hb4.size
      replace d0 := d0.below (hb4.mono (by omega))
      replace T := bt T hb4
      rw [E1.out, E2.out] at hlg
      rw [E1.out] at g
      rw [E2.out] at hcg ⊢
      rw [HF.out]
      go_wp2_with fail
      go_loopw [8] (fun i wr => ∃ k : Nat, k ≤ M ∧ i = .int .i64 (k : Int) ∧ Hid (Below w4.heap.size w4 wr)) (fun i _ => M - (intOf i).toNat)
      case atStart => exact ⟨0, Nat.zero_le _, rfl, Below.refl _ _⟩
      case round =>
        obtain ⟨k, hk, rfl, hbel⟩ := hrel
        by_cases hlt : k < M
        · have hlt' : (k : Int) < (M : Int) := by omega
          have y := HK.out k hlt
          go_wp2_with fail
          (with_reducible refine (cableKind_any _ f n _ _ _ hlf ((d0.below (hbel.out.mono (by omega))).ints.mono (by have := hbel.out.size; omega)) hn).mono ?_)
          rintro e wk ⟨rfl, hbk⟩
          go_wp2
          go_roundw
          case rel => exact ⟨k + 1, by omega, by go_num, bt hbel.out hbk⟩
          case measure => simp [intOf]; omega
        · obtain rfl : k = M := by omega
          have hb5 := hbel.out
          have sz5 := hb5.size
          replace d0 := d0.below (hb5.mono (by omega))
          replace g := g.below (hb5.mono (by omega))
          replace T := bt T hb5
          go_wp2_with fail
          (with_reducible refine (cableKind_any _ f n _ _ _ hlf (d0.ints.mono (by omega)) hn).mono ?_)
          rintro e w6 ⟨rfl, hb6⟩
          have sz6 := hb6.size
          replace d0 := d0.below (hb6.mono (by omega))
          replace g := g.below (hb6.mono (by omega))
          replace T := bt T hb6
          rw [HKo.out]
          go_wp2_with fail
          (with_reducible refine (cableMiles_any _ _ n _ _ hlg (g.ints.mono (by omega)) hn).mono ?_)
          rintro e w7 ⟨rfl, hb7⟩
          have sz7 := hb7.size
          replace d0 := d0.below (hb7.mono (by omega))
          replace g := g.below (hb7.mono (by omega))
          replace T := bt T hb7
          rw [HMB.out]
          have b1 : (n : Int) ≤ (k : Int) := by omega
          go_wp2
          go_ret
          exact ⟨rfl, T⟩
    · have hf' : cableOk f n = false := by simpa using hf
      have HM := hide (show miles f n = -1 by simp [miles, hf'])
      clear hf hf'
      go_wp2_with fail
      (with_reducible refine (cableMiles_any _ f n _ _ hlf (d0.ints.mono (by omega)) hn).mono ?_)
      rintro e w2 ⟨rfl, hb2⟩
      have sz2 := hb2.size
      replace d0 := d0.below (hb2.mono (by omega))
      replace T := bt T hb2
      rw [HM.out]
      go_wp2_with fail
      (with_reducible refine (specCableMiles_any _ f n _ _ hlf (d0.ints.mono (by omega)) hn).mono ?_)
      rintro e w3 ⟨rfl, hb3⟩
      have sz3 := hb3.size
      replace d0 := d0.below (hb3.mono (by omega))
      replace T := bt T hb3
      rw [HM.out]
      go_wp2
      go_ret
      exact ⟨rfl, T⟩
end Go.Proofs.Ytglknakgfnoeaaa
