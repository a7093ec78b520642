/-
  WALK: the law FnReach.
-/
import Derived.Test.YtoelajocacpmgaaLawCarryP
import Derived.Test.YtoelajocacpmgaaDrawAboard
namespace Go.Proofs.Ytoelajocacpmgaa
set_option linter.unusedVariables false
set_option linter.unusedSimpArgs false
open Go.RowKit

set_option maxRecDepth 100000 in
set_option maxHeartbeats 4000000 in
theorem walk_FnReach (w0 : World) (A0 : Option Addr) (len0 cap0 : Nat) (bs0 : List Int) (i0 : IsList .u8 w0 A0 len0 cap0 bs0) :
    Calls Try.prog 11 #[.slice A0 len0 cap0] w0 fun e w' => e = .returned (.bool true) ∧ Below w0.heap.size w0 w' := by
  have hB0 := hide (IsList.byts i0)
  obtain ⟨rfl, hbc0, hbm0, -⟩ := i0
  unfold maxLen at hbm0
  by_cases big0 : (1048576 : Int) < (bs0.length : Int)
  · go_enter Try.func11, Try.ntmps11
    go_wp2
    go_ret
    exact ⟨rfl, Below.refl _ _⟩
  · skip
    have T := Below.refl w0.heap.size w0
    go_enter Try.func11, Try.ntmps11
    go_wp2_with fail
    (with_reducible refine (drawPayReach_any A0 bs0 cap0 w0 hB0.out hbc0 hbm0).mono ?_)
    rintro e w1 ⟨D0, cD0, f, a, rfl, ⟨hcD0, hdD0⟩, hbd, d0, ⟨ha0, ha1⟩, hb1⟩
    have sz1 := hb1.size
    replace T := bt T hb1
    have hfl : f.length ≤ 17 := hbd.1
    have hn : f.length ≤ 1048576 := by omega
    have HBD := hide hbd
    clear hbd
    by_cases hf : carryOk f a = true
    · have HF := hide hf
      obtain ⟨g1, g2⟩ := carryOk_iff.1 hf
      obtain ⟨a0, a1⟩ := inB_iff.1 g2
      have hl2 := floorOk_len g1
      obtain ⟨r1, r2, r3, r4, r5⟩ := reach_law hf
      obtain ⟨r, hr⟩ := Int.eq_ofNat_of_zero_le r1
      rw [hr] at r1 r2 r3 r4 r5
      have HN := hide (show reach f a = (r : Int) from hr)
      have R5 := hide (fun h : a ≠ 1000 => show decide ((r : Int) ≤ reach f (a + 1)) = true from decide_eq_true (r5 h))
      have hd1 : decide (floorLen f 0 (r : Int) ≤ a) = true := decide_eq_true r3
      have R4 := hide r4
      clear r3 r4 r5 hr hf g1 g2
      go_wp2_with fail
      (with_reducible refine (payReach_any _ f _ a _ (d0.ints.mono (by omega)) hn).mono ?_)
      rintro e w2 ⟨rfl, hb2⟩
      have sz2 := hb2.size
      replace d0 := d0.below (hb2.mono (by omega))
      replace T := bt T hb2
      go_wp2_with fail
      (with_reducible refine (specPayReach_any _ f _ a _ (d0.ints.mono (by omega)) hn).mono ?_)
      rintro e w3 ⟨rfl, hb3⟩
      have sz3 := hb3.size
      replace d0 := d0.below (hb3.mono (by omega))
      replace T := bt T hb3
      rw [HN.out]
      go_wp2_with fail
      (with_reducible refine (floorLength_any _ f _ 0 (r : Int) _ (d0.ints.mono (by omega)) hn hcD0 hdD0).mono ?_)
      rintro e w4 ⟨rfl, hb4⟩
      have sz4 := hb4.size
      replace d0 := d0.below (hb4.mono (by omega))
      replace T := bt T hb4
      by_cases hrn : (r : Int) = (f.length : Int) - 1
      · have hb : ((r : Int) == (f.length : Int) - 1) = true := by simp [hrn]
        clear hrn
        by_cases h1000 : a = 1000
        · have hq : (a == 1000) = true := by simp [h1000]
          clear h1000
          go_wp2
          go_ret
          exact ⟨rfl, T⟩
        · have hq : (a == 1000) = false := beq_eq_false_iff_ne.2 h1000
          have hd3 := R5.out h1000
          clear h1000
          go_wp2_with fail
          (with_reducible refine (payReach_any _ f _ (a + 1) _ (d0.ints.mono (by omega)) hn).mono ?_)
          rintro e w5 ⟨rfl, hb5⟩
          have sz5 := hb5.size
          replace d0 := d0.below (hb5.mono (by omega))
          replace T := bt T hb5
          go_wp2
          go_ret
          exact ⟨rfl, T⟩
      · have hb : ((r : Int) == (f.length : Int) - 1) = false := beq_eq_false_iff_ne.2 hrn
        have hd2 : decide (a < floorLen f 0 ((r : Int) + 1)) = true := decide_eq_true (by rcases R4.out with h | h; exact absurd h hrn; exact h)
        clear hrn
        go_wp2_with fail
        (with_reducible refine (floorLength_any _ f _ 0 ((r : Int) + 1) _ (d0.ints.mono (by omega)) hn hcD0 hdD0).mono ?_)
        rintro e w5 ⟨rfl, hb5⟩
        have sz5 := hb5.size
        replace d0 := d0.below (hb5.mono (by omega))
        replace T := bt T hb5
        by_cases h1000 : a = 1000
        · have hq : (a == 1000) = true := by simp [h1000]
          clear h1000
          go_wp2
          go_ret
          exact ⟨rfl, T⟩
        · have hq : (a == 1000) = false := beq_eq_false_iff_ne.2 h1000
          have hd3 := R5.out h1000
          clear h1000
          go_wp2_with fail
          (with_reducible refine (payReach_any _ f _ (a + 1) _ (d0.ints.mono (by omega)) hn).mono ?_)
          rintro e w6 ⟨rfl, hb6⟩
          have sz6 := hb6.size
          replace d0 := d0.below (hb6.mono (by omega))
          replace T := bt T hb6
          go_wp2
          go_ret
          exact ⟨rfl, T⟩
    · have hf' : carryOk f a = false := by simpa using hf
      have HF := hide hf'
      clear hf hf'
      have HN := hide (show reach f a = -1 by simp [reach, HF.out])
      go_wp2_with fail
      (with_reducible refine (payReach_any _ f _ a _ (d0.ints.mono (by omega)) hn).mono ?_)
      rintro e w2 ⟨rfl, hb2⟩
      have sz2 := hb2.size
      replace d0 := d0.below (hb2.mono (by omega))
      replace T := bt T hb2
      go_wp2_with fail
      (with_reducible refine (specPayReach_any _ f _ a _ (d0.ints.mono (by omega)) hn).mono ?_)
      rintro e w3 ⟨rfl, hb3⟩
      have sz3 := hb3.size
      replace d0 := d0.below (hb3.mono (by omega))
      replace T := bt T hb3
      rw [HN.out]
      go_wp2
      go_ret
      exact ⟨rfl, T⟩
end Go.Proofs.Ytoelajocacpmgaa
