/-
  WALK: the law FnPlain.
-/
import Derived.Test.YtglknakgfnoeaaaLawCableP
import Derived.Test.YtglknakgfnoeaaaDrawPlain
import Derived.Test.YtglknakgfnoeaaaLawSecs
import Derived.Test.YtglknakgfnoeaaaSpecPlain
namespace Go.Proofs.Ytglknakgfnoeaaa
set_option linter.unusedVariables false
set_option linter.unusedSimpArgs false
open Go.RowKit

set_option maxRecDepth 100000 in
set_option maxHeartbeats 4000000 in
theorem walk_FnPlain (w0 : World) (A0 : Option Addr) (len0 cap0 : Nat) (bs0 : List Int) (i0 : IsList .u8 w0 A0 len0 cap0 bs0) :
    Calls Try.prog 5 #[.slice A0 len0 cap0] w0 fun e w' => e = .returned (.bool true) ∧ Below w0.heap.size w0 w' := by
  have hB0 := hide (IsList.byts i0)
  obtain ⟨rfl, hbc0, hbm0, -⟩ := i0
  unfold maxLen at hbm0
  by_cases big0 : (1048576 : Int) < (bs0.length : Int)
  · go_enter Try.func5, Try.ntmps5
    go_wp2
    go_ret
    exact ⟨rfl, Below.refl _ _⟩
  · skip
    have T := Below.refl w0.heap.size w0
    go_enter Try.func5, Try.ntmps5
    go_wp2_with fail
    (with_reducible refine (drawCablePlain_any A0 bs0 cap0 w0 hB0.out hbc0 hbm0).mono ?_)
    rintro e w1 ⟨D0, cD0, f, n, rfl, hlf, hcD0, hdD0, hn11, d0, hb1⟩
    have sz1 := hb1.size
    replace T := bt T hb1
    have hn : n ≤ 1048576 := by omega
    have hpn := plainN_le (fl := f) (Nat.le_refl n)
    by_cases hq : plainOk f n = true
    · have HQ := hide hq
      obtain ⟨z0, z1⟩ := miles_le (plain_parts hq).1
      obtain ⟨M, hM⟩ : ∃ M : Nat, miles f n = (M : Int) := ⟨(miles f n).toNat, by omega⟩
      obtain ⟨r1, r2, r3⟩ := plain_again hq
      have R1 := hide r1
      have R2 := hide r2
      have R3 := hide r3
      have HM := hide hM
      have HMP := hide ((plain_miles hq).trans hM)
      have HO := hide (plain_ohms hq)
      have hM4 : (M : Int) ≤ 400 := by omega
      clear hq r1 r2 r3 z0 z1 hM
      obtain ⟨P, hP⟩ : ∃ P, P = plain f n := ⟨_, rfl⟩
      obtain ⟨N, hN⟩ : ∃ N, N = plainN f n := ⟨_, rfl⟩
      have HP := hide hP
      have HN := hide hN
      have hpn' := hpn
      rw [← hN] at hpn
      clear hP hN
      go_wp2_with fail
      (with_reducible refine (cablePlain_any _ f n _ _ hlf (d0.ints.mono (by omega)) hn).mono ?_)
      rintro e w2 ⟨Bg, cg, rfl, hlg, hcg, hdg, g, hb2⟩
      have sz2 := hb2.size
      replace d0 := d0.below (hb2.mono (by omega))
      replace T := bt T hb2
      rw [HQ.out]
      go_wp2_with fail
      (with_reducible refine (specCablePlain_any _ f n _ _ hlf (d0.ints.mono (by omega)) hn).mono ?_)
      rintro e w3 ⟨Bh, ch, rfl, hlh, hch, hdh, h, hb3⟩
      have sz3 := hb3.size
      replace d0 := d0.below (hb3.mono (by omega))
      replace g := g.below (hb3.mono (by omega))
      replace T := bt T hb3
      rw [HQ.out]
      go_wp2_with fail
      (with_reducible refine (sameSections_same _ _ (plain f n) (plainN f n) _ _ _ hlg (g.ints.mono (by omega)) (h.ints.mono (by omega)) (by omega)).mono ?_)
      rintro e w4 ⟨rfl, hb4⟩
      have sz4 := hb4.size
      replace d0 := d0.below (hb4.mono (by omega))
      replace g := g.below (hb4.mono (by omega))
      replace h := h.below (hb4.mono (by omega))
      replace T := bt T hb4
      rw [← HP.out, ← HN.out] at hlg
      rw [← HP.out] at g
      rw [← HN.out] at hcg ⊢
      have R1' := hide (show plainOk P N = true by rw [HP.out, HN.out]; exact R1.out)
      have R2' := hide (show plain P N = P by rw [HP.out, HN.out]; exact R2.out)
      have R3' := hide (show plainN P N = N by rw [HP.out, HN.out]; exact R3.out)
      have HO' := hide (show ∀ m, ohms P N m = ohms f n m by rw [HP.out, HN.out]; exact HO.out)
      have HMP' := hide (show miles P N = (M : Int) by rw [HP.out, HN.out]; exact HMP.out)
      go_wp2_with fail
      (with_reducible refine (cablePlain_any _ P N _ _ hlg (g.ints.mono (by omega)) (by omega)).mono ?_)
      rintro e w5 ⟨Bx, cx, rfl, hlx, hcx, hdx, x, hb5⟩
      have sz5 := hb5.size
      replace d0 := d0.below (hb5.mono (by omega))
      replace g := g.below (hb5.mono (by omega))
      replace h := h.below (hb5.mono (by omega))
      replace T := bt T hb5
      rw [R2'.out, R3'.out] at hlx
      rw [R2'.out] at x
      rw [R3'.out] at hcx ⊢
      rw [R1'.out]
      go_wp2_with fail
      (with_reducible refine (cableMiles_any _ f n _ _ hlf (d0.ints.mono (by omega)) hn).mono ?_)
      rintro e w6 ⟨rfl, hb6⟩
      have sz6 := hb6.size
      replace d0 := d0.below (hb6.mono (by omega))
      replace g := g.below (hb6.mono (by omega))
      replace h := h.below (hb6.mono (by omega))
      replace x := x.below (hb6.mono (by omega))
      replace T := bt T hb6
      rw [HM.out]
      go_wp2_with fail
      go_loopw [11] (fun i wr => ∃ k : Nat, k ≤ M + 1 ∧ i = .int .i64 (k : Int) ∧ Hid (Below w6.heap.size w6 wr)) (fun i _ => M + 1 - (intOf i).toNat)
      case atStart => exact ⟨0, Nat.zero_le _, rfl, Below.refl _ _⟩
      case round =>
        obtain ⟨k, hk, rfl, hbel⟩ := hrel
        by_cases hlt : k < M + 1
        · have hlt' : (k : Int) ≤ (M : Int) := by omega
          go_wp2_with fail
          (with_reducible refine (cableOhms_any _ P N _ _ _ hlg ((g.below (hbel.out.mono (by omega))).ints.mono (by have := hbel.out.size; omega)) (by omega)).mono ?_)
          rintro e wk ⟨rfl, hbk⟩
          rw [HO'.out]
          have hb2 := hide (bt hbel.out hbk)
          clear hbk
          go_wp2_with fail
          (with_reducible refine (cableOhms_any _ f n _ _ _ hlf ((d0.below (hb2.out.mono (by omega))).ints.mono (by have := hb2.out.size; omega)) hn).mono ?_)
          rintro e wl ⟨rfl, hbl⟩
          go_wp2
          go_roundw
          case rel => exact ⟨k + 1, by omega, by go_num, bt hb2.out hbl⟩
          case measure => simp [intOf]; omega
        · obtain rfl : k = M + 1 := by omega
          have hge : ¬ ((M + 1 : Nat) : Int) ≤ (M : Int) := by omega
          have hb7 := hbel.out
          have sz7 := hb7.size
          replace d0 := d0.below (hb7.mono (by omega))
          replace g := g.below (hb7.mono (by omega))
          replace h := h.below (hb7.mono (by omega))
          replace x := x.below (hb7.mono (by omega))
          replace T := bt T hb7
          go_wp2_with fail
          (with_reducible refine (sameSections_same _ _ (P) (N) _ _ _ hlg (x.ints.mono (by omega)) (g.ints.mono (by omega)) (by omega)).mono ?_)
          rintro e w8 ⟨rfl, hb8⟩
          have sz8 := hb8.size
          replace d0 := d0.below (hb8.mono (by omega))
          replace g := g.below (hb8.mono (by omega))
          replace h := h.below (hb8.mono (by omega))
          replace x := x.below (hb8.mono (by omega))
          replace T := bt T hb8
          go_wp2_with fail
          (with_reducible refine (cableMiles_any _ P N _ _ hlg (g.ints.mono (by omega)) (by omega)).mono ?_)
          rintro e w9 ⟨rfl, hb9⟩
          have sz9 := hb9.size
          replace d0 := d0.below (hb9.mono (by omega))
          replace g := g.below (hb9.mono (by omega))
          replace h := h.below (hb9.mono (by omega))
          replace x := x.below (hb9.mono (by omega))
          replace T := bt T hb9
          rw [HMP'.out]
          have b1 : (N : Int) ≤ (n : Int) := by omega
          go_wp2
          go_ret
          exact ⟨rfl, T⟩
    · have hq' : plainOk f n = false := by simpa using hq
      have HQ := hide hq'
      clear hq hq'
      go_wp2_with fail
      (with_reducible refine (cablePlain_any _ f n _ _ hlf (d0.ints.mono (by omega)) hn).mono ?_)
      rintro e w2 ⟨Bg, cg, rfl, hlg, hcg, hdg, g, hb2⟩
      have sz2 := hb2.size
      replace d0 := d0.below (hb2.mono (by omega))
      replace T := bt T hb2
      rw [HQ.out]
      go_wp2_with fail
      (with_reducible refine (specCablePlain_any _ f n _ _ hlf (d0.ints.mono (by omega)) hn).mono ?_)
      rintro e w3 ⟨Bh, ch, rfl, hlh, hch, hdh, h, hb3⟩
      have sz3 := hb3.size
      replace d0 := d0.below (hb3.mono (by omega))
      replace g := g.below (hb3.mono (by omega))
      replace T := bt T hb3
      rw [HQ.out]
      go_wp2_with fail
      (with_reducible refine (sameSections_same _ _ (plain f n) (plainN f n) _ _ _ hlg (g.ints.mono (by omega)) (h.ints.mono (by omega)) (by omega)).mono ?_)
      rintro e w4 ⟨rfl, hb4⟩
      have sz4 := hb4.size
      replace d0 := d0.below (hb4.mono (by omega))
      replace g := g.below (hb4.mono (by omega))
      replace h := h.below (hb4.mono (by omega))
      replace T := bt T hb4
      go_wp2_with fail
      (with_reducible refine (sameSections_same _ _ (plain f n) (plainN f n) _ _ _ hlg (g.ints.mono (by omega)) (h.ints.mono (by omega)) (by omega)).mono ?_)
      rintro e w5 ⟨rfl, hb5⟩
      have sz5 := hb5.size
      replace d0 := d0.below (hb5.mono (by omega))
      replace g := g.below (hb5.mono (by omega))
      replace h := h.below (hb5.mono (by omega))
      replace T := bt T hb5
      go_wp2
      go_ret
      exact ⟨rfl, T⟩
end Go.Proofs.Ytglknakgfnoeaaa
