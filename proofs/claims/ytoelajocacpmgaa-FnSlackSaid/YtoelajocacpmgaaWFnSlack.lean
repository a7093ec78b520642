/-
  WALK: the law FnSlack.
-/
import Derived.Test.YtoelajocacpmgaaLawSlackP
import Derived.Test.YtoelajocacpmgaaDrawPay
namespace Go.Proofs.Ytoelajocacpmgaa
set_option linter.unusedVariables false
set_option linter.unusedSimpArgs false
open Go.RowKit

set_option maxRecDepth 100000 in
set_option maxHeartbeats 4000000 in
theorem walk_FnSlack (w0 : World) (A0 : Option Addr) (len0 cap0 : Nat) (bs0 : List Int) (i0 : IsList .u8 w0 A0 len0 cap0 bs0) :
    Calls Try.prog 3 #[.slice A0 len0 cap0] w0 fun e w' => e = .returned (.bool true) ∧ Below w0.heap.size w0 w' := by
  have hB0 := hide (IsList.byts i0)
  obtain ⟨rfl, hbc0, hbm0, -⟩ := i0
  unfold maxLen at hbm0
  by_cases big0 : (1048576 : Int) < (bs0.length : Int)
  · go_enter Try.func3, Try.ntmps3
    go_wp2
    go_ret
    exact ⟨rfl, Below.refl _ _⟩
  · skip
    have T := Below.refl w0.heap.size w0
    go_enter Try.func3, Try.ntmps3
    go_wp2_with fail
    (with_reducible refine (drawPaySlack_any A0 bs0 cap0 w0 hB0.out hbc0 hbm0).mono ?_)
    rintro e w1 ⟨D0, cD0, f, P0, cP0, p, rfl, ⟨hcD0, hdD0⟩, ⟨hcP0, hdP0⟩, hbf, hbp, d0, p0, hb1⟩
    have sz1 := hb1.size
    replace T := bt T hb1
    have hfl : f.length ≤ 17 := hbf.1
    have hn : f.length ≤ 1048576 := by omega
    have hpl : p.length ≤ 16 := hbp.1
    have hnp : p.length ≤ 1048576 := by omega
    have HBF := hide hbf
    have HBP := hide hbp
    have HPV := hide hbp.2
    clear hbf hbp
    by_cases hf : payOk f p = true
    · have HF := hide hf
      have hfo := (payOk_iff.1 hf).1
      have hl2 := floorOk_len hfo
      obtain ⟨x1, x2⟩ := slack_ge hf
      have hd0' : decide (slack f p < 0) = false := by simp; omega
      obtain ⟨pr, hpr⟩ : ∃ pr, pr = p.reverse := ⟨_, rfl⟩
      have hprl : pr.length ≤ 16 := by rw [hpr, List.length_reverse]; exact hpl
      have hbl : (back f).length ≤ 17 := by have := back_le f; omega
      have HSB := hide (show slack (back f) pr = slack f p by rw [hpr, back_eq hfo, slack_rev hf])
      have HPR := hide hpr
      have HFO := hide hfo
      have HSN := hide (fun h0 : (hangs f p).length = 0 => slack_none hf h0)
      have hle := floorLen_le hfo (a := 0) (b := f.length - 1) (by omega) (by omega)
      rw [show ((0 : Nat) : Int) = 0 from rfl, show ((f.length - 1 : Nat) : Int) = (f.length : Int) - 1 by omega] at hle
      have l1 : floorLen f 0 ((f.length : Int) - 1) ≤ 1000 := by omega
      have l2 : 0 ≤ floorLen f 0 ((f.length : Int) - 1) := by omega
      have hsp := sumN_bd (f := at0 p) (lo := -1) (hi := 61) (n := p.length) HBP.out.2 (Nat.le_refl _)
      have l3 : -1000 ≤ sumN (at0 p) p.length := by omega
      have l4 : sumN (at0 p) p.length ≤ 1000 := by omega
      have hhl : (hangs f p).length ≤ 16 := by have := hangs_le f p; omega
      clear hle hsp hpr hf hfo
      go_wp2_with fail
      (with_reducible refine (paySlack_any _ _ f p _ _ _ (d0.ints.mono (by omega)) (p0.ints.mono (by omega)) hn hnp).mono ?_)
      rintro e w2 ⟨rfl, hb2⟩
      have sz2 := hb2.size
      replace d0 := d0.below (hb2.mono (by omega))
      replace p0 := p0.below (hb2.mono (by omega))
      replace T := bt T hb2
      go_wp2_with fail
      (with_reducible refine (specPaySlack_any _ _ f p _ _ _ (d0.ints.mono (by omega)) (p0.ints.mono (by omega)) hn hnp).mono ?_)
      rintro e w3 ⟨rfl, hb3⟩
      have sz3 := hb3.size
      replace d0 := d0.below (hb3.mono (by omega))
      replace p0 := p0.below (hb3.mono (by omega))
      replace T := bt T hb3
      go_wp2_with fail
      (with_reducible refine (floorBack_any _ f _ _ (d0.ints.mono (by omega)) hn).mono ?_)
      rintro e w4 ⟨Bb, cb, rfl, hcb, hdb, b, hb4⟩
      have sz4 := hb4.size
      replace d0 := d0.below (hb4.mono (by omega))
      replace p0 := p0.below (hb4.mono (by omega))
      replace T := bt T hb4
      rw [HFO.out]
      go_wp2_with fail
      (with_reducible refine (backOf_any _ p _ _ (p0.ints.mono (by omega)) hnp).mono ?_)
      rintro e w5 ⟨Bq, cq, rfl, hcq, hdq, q, hb5⟩
      have sz5 := hb5.size
      replace d0 := d0.below (hb5.mono (by omega))
      replace p0 := p0.below (hb5.mono (by omega))
      replace b := b.below (hb5.mono (by omega))
      replace T := bt T hb5
      rw [← HPR.out] at q hcq ⊢
      go_wp2_with fail
      (with_reducible refine (paySlack_any _ _ (back f) pr _ _ _ (b.ints.mono (by omega)) (q.ints.mono (by omega)) (by omega) (by omega)).mono ?_)
      rintro e w6 ⟨rfl, hb6⟩
      have sz6 := hb6.size
      replace d0 := d0.below (hb6.mono (by omega))
      replace p0 := p0.below (hb6.mono (by omega))
      replace b := b.below (hb6.mono (by omega))
      replace q := q.below (hb6.mono (by omega))
      replace T := bt T hb6
      rw [HSB.out]
      go_wp2_with fail
      (with_reducible refine (payHangs_any _ _ f p _ _ _ (d0.ints.mono (by omega)) (p0.ints.mono (by omega)) hn hnp).mono ?_)
      rintro e w7 ⟨Bk, ck, rfl, hck, hdk, k, hb7⟩
      have sz7 := hb7.size
      replace d0 := d0.below (hb7.mono (by omega))
      replace p0 := p0.below (hb7.mono (by omega))
      replace b := b.below (hb7.mono (by omega))
      replace q := q.below (hb7.mono (by omega))
      replace T := bt T hb7
      by_cases hz : (hangs f p).length = 0
      · have hz' := hz
        have hB := hide (show (slack f p == sumN (at0 p) p.length - floorLen f 0 ((f.length : Int) - 1)) = true by rw [HSN.out hz]; simp)
        rw [hz]
        clear hz hz'
        go_wp2_with fail
        (with_reducible refine (sumOf_any _ p _ _ (p0.ints.mono (by omega)) (by omega) (fun k hk => by have := HPV.out k hk; omega)).mono ?_)
        rintro e w' ⟨rfl, rfl⟩
        go_wp2_with fail
        (with_reducible refine (floorLength_any _ f _ 0 ((f.length : Int) - 1) _ (d0.ints.mono (by omega)) hn hcD0 hdD0).mono ?_)
        rintro e w8 ⟨rfl, hb8⟩
        have sz8 := hb8.size
        replace d0 := d0.below (hb8.mono (by omega))
        replace p0 := p0.below (hb8.mono (by omega))
        replace b := b.below (hb8.mono (by omega))
        replace q := q.below (hb8.mono (by omega))
        replace k := k.below (hb8.mono (by omega))
        replace T := bt T hb8
        have hB' := hB.out
        go_wp2
        go_ret
        exact ⟨rfl, T⟩
      · have hz1 : 0 < (hangs f p).length := by omega
        have hz2 : (0 : Int) < ((hangs f p).length : Int) := by omega
        clear hz
        go_wp2
        go_ret
        exact ⟨rfl, T⟩
    · have hf' : payOk f p = false := by simpa using hf
      have HF := hide hf'
      clear hf hf'
      have HN := hide (show slack f p = -1 by simp [slack, HF.out])
      go_wp2_with fail
      (with_reducible refine (paySlack_any _ _ f p _ _ _ (d0.ints.mono (by omega)) (p0.ints.mono (by omega)) hn hnp).mono ?_)
      rintro e w2 ⟨rfl, hb2⟩
      have sz2 := hb2.size
      replace d0 := d0.below (hb2.mono (by omega))
      replace p0 := p0.below (hb2.mono (by omega))
      replace T := bt T hb2
      go_wp2_with fail
      (with_reducible refine (specPaySlack_any _ _ f p _ _ _ (d0.ints.mono (by omega)) (p0.ints.mono (by omega)) hn hnp).mono ?_)
      rintro e w3 ⟨rfl, hb3⟩
      have sz3 := hb3.size
      replace d0 := d0.below (hb3.mono (by omega))
      replace p0 := p0.below (hb3.mono (by omega))
      replace T := bt T hb3
      rw [HN.out]
      go_wp2
      go_ret
      exact ⟨rfl, T⟩
end Go.Proofs.Ytoelajocacpmgaa
