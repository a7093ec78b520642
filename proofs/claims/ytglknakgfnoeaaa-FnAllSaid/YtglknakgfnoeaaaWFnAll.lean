/-
  WALK: the law FnAll.
-/
import Derived.Test.YtglknakgfnoeaaaLawCableP
import Derived.Test.YtglknakgfnoeaaaDrawsCable
import Derived.Test.YtglknakgfnoeaaaLawSecs
import Derived.Test.YtglknakgfnoeaaaCablePlain
import Derived.BigQuiet
import Derived.Deep.QuietTactic
namespace Go.Proofs.Ytglknakgfnoeaaa
set_option linter.unusedVariables false
set_option linter.unusedSimpArgs false
open Go.RowKit

set_option maxRecDepth 100000 in
set_option maxHeartbeats 4000000 in
theorem walk_FnAll (w0 : World) (A0 : Option Addr) (len0 cap0 : Nat) (bs0 : List Int) (i0 : IsList .u8 w0 A0 len0 cap0 bs0) :
    Calls Try.prog 9 #[.slice A0 len0 cap0] w0 fun e w' => e = .returned (.bool true) ∧ Below w0.heap.size w0 w' := by
  have hB0 := hide (IsList.byts i0)
  obtain ⟨rfl, hbc0, hbm0, -⟩ := i0
  unfold maxLen at hbm0
  by_cases big0 : (1048576 : Int) < (bs0.length : Int)
  · go_enter Try.func9, Try.ntmps9
    go_wp2
    go_ret
    exact ⟨rfl, Below.refl _ _⟩
  · skip
    have T := Below.refl w0.heap.size w0
    go_enter Try.func9, Try.ntmps9
    go_wp2_with fail
    (with_reducible refine (drawCableAll_any A0 bs0 cap0 w0 hB0.out hbc0 hbm0).mono ?_)
    rintro e w1 ⟨D0, cD0, f, n, rfl, hlf, hcD0, hdD0, hn11, d0, hb1⟩
    have sz1 := hb1.size
    replace T := bt T hb1
    have hn : n ≤ 1048576 := by omega
    by_cases hf : cableOk f n = true
    · have HF := hide hf
      obtain ⟨z0, z1⟩ := miles_le hf
      obtain ⟨v0, v1⟩ := fullO_bd hf (Nat.le_refl n)
      obtain ⟨e1, e2⟩ := cback_eq hf
      have E1 := hide e1
      have E2 := hide e2
      have HA := hide (all_full hf)
      have HB := hide (show ohms (upto (backC f n) (n * 3)) n (miles (upto (backC f n) (n * 3)) n) = fullO f n by rw [all_full (cableOk_back hf), full_back hf])
      have HP := hide (fun (hq : plainOk f n = true) => show ohms (plain f n) (plainN f n) (miles (plain f n) (plainN f n)) = fullO f n by rw [plain_miles hq, plain_ohms hq, all_full hf])
      have hge : miles f n ≤ fullO f n := by
        have h1 := ohms_ge hf (miles f n).toNat (by rw [← miles_ok hf]; omega)
        rw [show ((miles f n).toNat : Int) = miles f n by omega, ← ohms_at hf z0 (Int.le_refl _), all_full hf] at h1
        exact h1
      have HS := hide (fun (k : Nat) (hk : k < n) => sec_bd hf hk)
      have HFO := hide (fun (k : Nat) (hk : k ≤ n) => fullO_bd hf hk)
      have hpn := plainN_le (fl := f) (Nat.le_refl n)
      obtain ⟨TT, hT⟩ : ∃ T, T = fullO f n := ⟨_, rfl⟩
      rw [← hT] at v0 v1 hge
      have HT := hide hT
      clear hf e1 e2 hT
      go_wp2_with fail
      (with_reducible refine (cableAll_any _ f n _ _ hlf (d0.ints.mono (by omega)) hn).mono ?_)
      rintro e w2 ⟨rfl, hb2⟩
      have sz2 := hb2.size
      replace d0 := d0.below (hb2.mono (by omega))
      replace T := bt T hb2
      rw [HA.out, ← HT.out]
      go_wp2_with fail
      (with_reducible refine (specCableAll_any _ f n _ _ hlf (d0.ints.mono (by omega)) hn).mono ?_)
      rintro e w3 ⟨rfl, hb3⟩
      have sz3 := hb3.size
      replace d0 := d0.below (hb3.mono (by omega))
      replace T := bt T hb3
      rw [HA.out, ← HT.out]
      go_wp2_with fail
      go_loopw [6, 7] (fun s i wr => ∃ k : Nat, k ≤ n ∧ s = .int .i64 (fullO f k) ∧ i = .int .i64 (k : Int) ∧ Hid (Below w3.heap.size w3 wr)) (fun _ i _ => n - (intOf i).toNat)
      case atStart => exact ⟨0, Nat.zero_le _, rfl, rfl, Below.refl _ _⟩
      case round =>
        obtain ⟨k, hk, rfl, rfl, hbel⟩ := hrel
        by_cases hlt : k < n
        · have hlt' : (k : Int) < (n : Int) := by omega
          obtain ⟨⟨x1, x2⟩, -, y1, y2⟩ := HS.out k hlt
          obtain ⟨f1, f2⟩ := HFO.out k hk
          have hs := hide (fullO_succ f k)
          obtain ⟨q1, q2⟩ := mul_bd (x := 50) (y := 20) (show 0 ≤ at0 f (k * 3) by omega) x2 (show 0 ≤ at0 f (k * 3 + 2) by omega) y2
          obtain ⟨b, off, rfl, hba, hbb, hc⟩ := d0 (by omega)
          obtain ⟨c0, c1, c2⟩ := sec_cell3 (w := wr) hlf (fun j hj => (hbel.out.cell (p := ⟨b, off + j, none⟩) (by show b < _; omega)).trans (hc j hj).1) hlt
          generalize at0 f (k * 3) = u at c0 x1 x2 q1 q2 hs
          generalize at0 f (k * 3 + 2) = v at c2 y1 y2 q1 q2 hs
          have r1 : IntKind.i64.wrap (u * v) = u * v := IntWalk.i64_in _ ⟨by omega, by omega⟩
          have r2 : IntKind.i64.wrap (fullO f k + u * v) = fullO f k + u * v := IntWalk.i64_in _ ⟨by omega, by omega⟩
          clear hc
          go_wp2_with fail
          go_quiet (fail)
          go_wp2
          go_roundw
          case rel => exact ⟨k + 1, by omega, by rw [hs.out], by go_num, by first | exact hbel.out.drew | exact below_drewN hbel.out _⟩
          case measure => simp [intOf]; omega
        · obtain rfl : k = n := by omega
          have hb4 := hbel.out
          have sz4 := hb4.size
          replace d0 := d0.below (hb4.mono (by omega))
          replace T := bt T hb4
          rw [← HT.out]
          go_wp2_with fail
          (with_reducible refine (cableBack_any _ f k _ _ hlf (d0.ints.mono (by omega)) hn).mono ?_)
          rintro e w5 ⟨Bg, cg, rfl, hlg, hcg, hdg, g, hb5⟩
          have sz5 := hb5.size
          replace d0 := d0.below (hb5.mono (by omega))
          replace T := bt T hb5
          rw [E1.out, E2.out] at hlg
          rw [E1.out] at g
          rw [E2.out] at hcg ⊢
          rw [HF.out]
          go_wp2_with fail
          (with_reducible refine (cablePlain_any _ f k _ _ hlf (d0.ints.mono (by omega)) hn).mono ?_)
          rintro e w6 ⟨Ba, ca, rfl, hla, hca, hda, a, hb6⟩
          have sz6 := hb6.size
          replace d0 := d0.below (hb6.mono (by omega))
          replace g := g.below (hb6.mono (by omega))
          replace T := bt T hb6
          go_wp2_with fail
          (with_reducible refine (cableAll_any _ _ k _ _ hlg (g.ints.mono (by omega)) hn).mono ?_)
          rintro e w7 ⟨rfl, hb7⟩
          have sz7 := hb7.size
          replace d0 := d0.below (hb7.mono (by omega))
          replace g := g.below (hb7.mono (by omega))
          replace a := a.below (hb7.mono (by omega))
          replace T := bt T hb7
          rw [HB.out, ← HT.out]
          by_cases hq : plainOk f k = true
          · skip
            have HQ := hide hq
            have HP2 := hide (HP.out hq)
            clear hq
            rw [HQ.out]
            go_wp2_with fail
            (with_reducible refine (cableAll_any _ (plain f k) (plainN f k) _ _ hla (a.ints.mono (by omega)) (by omega)).mono ?_)
            rintro e w8 ⟨rfl, hb8⟩
            have sz8 := hb8.size
            replace d0 := d0.below (hb8.mono (by omega))
            replace g := g.below (hb8.mono (by omega))
            replace a := a.below (hb8.mono (by omega))
            replace T := bt T hb8
            rw [HP2.out, ← HT.out]
            go_wp2_with fail
            (with_reducible refine (cableMiles_any _ f k _ _ hlf (d0.ints.mono (by omega)) hn).mono ?_)
            rintro e w9 ⟨rfl, hb9⟩
            have sz9 := hb9.size
            replace d0 := d0.below (hb9.mono (by omega))
            replace g := g.below (hb9.mono (by omega))
            replace a := a.below (hb9.mono (by omega))
            replace T := bt T hb9
            go_wp2
            go_ret
            exact ⟨rfl, T⟩
          · have hq' : plainOk f k = false := by simpa using hq
            have HQ := hide hq'
            clear hq hq'
            rw [HQ.out]
            go_wp2_with fail
            (with_reducible refine (cableMiles_any _ f k _ _ hlf (d0.ints.mono (by omega)) hn).mono ?_)
            rintro e w8 ⟨rfl, hb8⟩
            have sz8 := hb8.size
            replace d0 := d0.below (hb8.mono (by omega))
            replace g := g.below (hb8.mono (by omega))
            replace a := a.below (hb8.mono (by omega))
            replace T := bt T hb8
            go_wp2
            go_ret
            exact ⟨rfl, T⟩
    · have hf' : cableOk f n = false := by simpa using hf
      have HM := hide (show miles f n = -1 by simp [miles, hf'])
      have HA := hide (show ohms f n (miles f n) = -1 from ohms_off (by rw [HM.out]; omega))
      clear hf hf'
      go_wp2_with fail
      (with_reducible refine (cableAll_any _ f n _ _ hlf (d0.ints.mono (by omega)) hn).mono ?_)
      rintro e w2 ⟨rfl, hb2⟩
      have sz2 := hb2.size
      replace d0 := d0.below (hb2.mono (by omega))
      replace T := bt T hb2
      rw [HA.out]
      go_wp2_with fail
      (with_reducible refine (specCableAll_any _ f n _ _ hlf (d0.ints.mono (by omega)) hn).mono ?_)
      rintro e w3 ⟨rfl, hb3⟩
      have sz3 := hb3.size
      replace d0 := d0.below (hb3.mono (by omega))
      replace T := bt T hb3
      rw [HA.out]
      go_wp2
      go_ret
      exact ⟨rfl, T⟩
end Go.Proofs.Ytglknakgfnoeaaa
