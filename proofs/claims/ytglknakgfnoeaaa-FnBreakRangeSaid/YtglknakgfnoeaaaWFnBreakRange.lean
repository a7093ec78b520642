/-
  WALK: the law FnBreakRange.
-/
import Derived.Test.YtglknakgfnoeaaaLawBreakP
import Derived.Test.YtglknakgfnoeaaaDrawBreak
import Derived.Test.YtglknakgfnoeaaaBreakS
namespace Go.Proofs.Ytglknakgfnoeaaa
set_option linter.unusedVariables false
set_option linter.unusedSimpArgs false
open Go.RowKit

set_option maxRecDepth 100000 in
set_option maxHeartbeats 4000000 in
theorem walk_FnBreakRange (w0 : World) (A0 : Option Addr) (len0 cap0 : Nat) (bs0 : List Int) (i0 : IsList .u8 w0 A0 len0 cap0 bs0) :
    Calls Try.prog 10 #[.slice A0 len0 cap0] w0 fun e w' => e = .returned (.bool true) ∧ Below w0.heap.size w0 w' := by
  have hB0 := hide (IsList.byts i0)
  obtain ⟨rfl, hbc0, hbm0, -⟩ := i0
  unfold maxLen at hbm0
  by_cases big0 : (1048576 : Int) < (bs0.length : Int)
  · go_enter Try.func10, Try.ntmps10
    go_wp2
    go_ret
    exact ⟨rfl, Below.refl _ _⟩
  · skip
    have T := Below.refl w0.heap.size w0
    go_enter Try.func10, Try.ntmps10
    go_wp2_with fail
    (with_reducible refine (drawBreakRange_any A0 bs0 cap0 w0 hB0.out hbc0 hbm0).mono ?_)
    rintro e w1 ⟨D0, cD0, f, n, x, e, rfl, hlf, hcD0, hdD0, hn11, ⟨x0, x1, e0, e1⟩, d0, hb1⟩
    have sz1 := hb1.size
    replace T := bt T hb1
    have hn : n ≤ 1048576 := by omega
    have HX := hide (show x ≤ 9223372036854775807 by omega)
    by_cases ho : brOk f n x e = true
    · have HO := hide ho
      obtain ⟨i, i', hlo, hhi, hii, hiM, hint, hmore⟩ := break_law ho
      obtain ⟨hk, hx0, he, -⟩ := brOk_iff.1 ho
      obtain ⟨e2, e3⟩ := inB_iff.1 he
      obtain ⟨z0, z1⟩ := miles_le hk
      obtain ⟨M, hM⟩ : ∃ M : Nat, miles f n = (M : Int) := ⟨(miles f n).toNat, by omega⟩
      rw [hM] at hiM z1
      have HM := hide hM
      have HL := hide hlo
      have HH := hide hhi
      have HI := hide hint
      have HMo := hide hmore
      have HB := hide (fun (k : Nat) (hkM : (k : Int) ≤ (M : Int)) => ohms_in hk (m := (k : Int)) (by omega) (by rw [hM]; exact hkM))
      clear ho hk he hlo hhi hint hmore hM z0
      go_wp2_with fail
      (with_reducible refine (breakRange_any _ f n _ x e _ hlf (d0.ints.mono (by omega)) hn HX.out).mono ?_)
      rintro e w2 ⟨rfl, hb2⟩
      have sz2 := hb2.size
      replace d0 := d0.below (hb2.mono (by omega))
      replace T := bt T hb2
      rw [HO.out, HL.out, HH.out]
      go_wp2_with fail
      (with_reducible refine (specBreakRange_any _ f n _ x e _ hlf (d0.ints.mono (by omega)) hn HX.out).mono ?_)
      rintro e w3 ⟨rfl, hb3⟩
      have sz3 := hb3.size
      replace d0 := d0.below (hb3.mono (by omega))
      replace T := bt T hb3
      rw [HO.out, HL.out, HH.out]
      go_wp2_with fail
      go_loopw [12] (fun i wr => ∃ k : Nat, k ≤ M + 1 ∧ i = .int .i64 (k : Int) ∧ Hid (Below w3.heap.size w3 wr)) (fun i _ => M + 1 - (intOf i).toNat)
      case atStart => exact ⟨0, Nat.zero_le _, rfl, Below.refl _ _⟩
      case round =>
        obtain ⟨k, hkk, rfl, hbel⟩ := hrel
        go_wp2_with fail
        (with_reducible refine (cableMiles_any _ f n _ _ hlf ((d0.below (hbel.out.mono (by omega))).ints.mono (by have := hbel.out.size; omega)) hn).mono ?_)
        rintro r wm ⟨rfl, hbm⟩
        rw [HM.out]
        have hb2 := hide (bt hbel.out hbm)
        clear hbm
        by_cases hlt : (k : Int) ≤ (M : Int)
        · obtain ⟨o0, o1⟩ := HB.out k hlt
          have hcase := HI.out k (by rw [HM.out]; exact hlt)
          obtain ⟨o, hoo⟩ : ∃ o, o = ohms f n (k : Int) := ⟨_, rfl⟩
          rw [← hoo] at o0 o1 hcase
          have HOO := hide hoo
          clear hoo
          go_wp2_with fail
          (with_reducible refine (cableOhms_any _ f n _ _ _ hlf ((d0.below (hb2.out.mono (by omega))).ints.mono (by have := hb2.out.size; omega)) hn).mono ?_)
          rintro r wk ⟨rfl, hbk⟩
          rw [← HOO.out]
          have hb3 := hide (bt hb2.out hbk)
          clear hbk
          rcases hcase with ⟨q1, q2, q3, q4⟩ | ⟨q1, q2, q3⟩ | ⟨q1, q2, q3⟩
          · have y1 : (i : Int) ≤ (k : Int) := by omega
            have y2 : (k : Int) ≤ (i' : Int) := by omega
            go_wp2
            go_roundw
            case rel => exact ⟨k + 1, by omega, by go_num, hb3.out⟩
            case measure => simp [intOf]; omega
          · have y1 : (i : Int) ≤ (k : Int) := by omega
            have y2 : (i' : Int) < (k : Int) := by omega
            go_wp2
            go_roundw
            case rel => exact ⟨k + 1, by omega, by go_num, hb3.out⟩
            case measure => simp [intOf]; omega
          · have y1 : (k : Int) < (i : Int) := by omega
            go_wp2
            go_roundw
            case rel => exact ⟨k + 1, by omega, by go_num, hb3.out⟩
            case measure => simp [intOf]; omega
        · obtain rfl : k = M + 1 := by omega
          have hb4 := hb2.out
          have sz4 := hb4.size
          replace d0 := d0.below (hb4.mono (by omega))
          replace T := bt T hb4
          go_wp2_with fail
          (with_reducible refine (breakRange_any _ f n _ x (e + 1) _ hlf (d0.ints.mono (by omega)) hn HX.out).mono ?_)
          rintro e w5 ⟨rfl, hb5⟩
          have sz5 := hb5.size
          replace d0 := d0.below (hb5.mono (by omega))
          replace T := bt T hb5
          by_cases h1000 : e = 1000
          · skip
            have k1 : (e == 1000) = true := by rw [h1000]; rfl
            go_wp2
            go_ret
            exact ⟨rfl, T⟩
          · skip
            have k1 : (e == 1000) = false := beq_eq_false_iff_ne.2 h1000
            obtain ⟨m1, m2, m3⟩ := HMo.out (by omega)
            obtain ⟨lo2, hl2⟩ : ∃ l, l = brLo f n x (e + 1) := ⟨_, rfl⟩
            obtain ⟨hi2, hh2⟩ : ∃ l, l = brHi f n x (e + 1) := ⟨_, rfl⟩
            rw [← hl2] at m2 ⊢
            rw [← hh2] at m3 ⊢
            rw [m1]
            clear hl2 hh2 m1
            go_wp2
            go_ret
            exact ⟨rfl, T⟩
    · have ho' : brOk f n x e = false := by simpa using ho
      have HO := hide ho'
      have HL := hide (show brLo f n x e = 0 by simp [brLo, ho'])
      have HH := hide (show brHi f n x e = 0 by simp [brHi, ho'])
      clear ho ho'
      go_wp2_with fail
      (with_reducible refine (breakRange_any _ f n _ x e _ hlf (d0.ints.mono (by omega)) hn HX.out).mono ?_)
      rintro e w2 ⟨rfl, hb2⟩
      have sz2 := hb2.size
      replace d0 := d0.below (hb2.mono (by omega))
      replace T := bt T hb2
      rw [HO.out, HL.out, HH.out]
      go_wp2_with fail
      (with_reducible refine (specBreakRange_any _ f n _ x e _ hlf (d0.ints.mono (by omega)) hn HX.out).mono ?_)
      rintro e w3 ⟨rfl, hb3⟩
      have sz3 := hb3.size
      replace d0 := d0.below (hb3.mono (by omega))
      replace T := bt T hb3
      rw [HO.out, HL.out, HH.out]
      go_wp2
      go_ret
      exact ⟨rfl, T⟩
end Go.Proofs.Ytglknakgfnoeaaa
