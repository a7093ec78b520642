/-
  WALK: the law FnLength.
-/
import Derived.Test.YtoelajocacpmgaaLawNeedsP
import Derived.Test.YtoelajocacpmgaaSpecLength
import Derived.Test.YtoelajocacpmgaaDrawTwo
import Derived.Test.YtoelajocacpmgaaLawInts
namespace Go.Proofs.Ytoelajocacpmgaa
set_option linter.unusedVariables false
set_option linter.unusedSimpArgs false
open Go.RowKit

set_option maxRecDepth 100000 in
set_option maxHeartbeats 4000000 in
theorem walk_FnLength (w0 : World) (A0 : Option Addr) (len0 cap0 : Nat) (bs0 : List Int) (i0 : IsList .u8 w0 A0 len0 cap0 bs0) (A1 : Option Addr) (len1 cap1 : Nat) (bs1 : List Int) (i1 : IsList .u8 w0 A1 len1 cap1 bs1) :
    Calls Try.prog 4 #[.slice A0 len0 cap0, .slice A1 len1 cap1] w0 fun e w' => e = .returned (.bool true) ∧ Below w0.heap.size w0 w' := by
  have hB0 := hide (IsList.byts i0)
  obtain ⟨rfl, hbc0, hbm0, -⟩ := i0
  unfold maxLen at hbm0
  have hB1 := hide (IsList.byts i1)
  obtain ⟨rfl, hbc1, hbm1, -⟩ := i1
  unfold maxLen at hbm1
  by_cases big0 : (1048576 : Int) < (bs0.length : Int)
  · go_enter Try.func4, Try.ntmps4
    go_wp2
    go_ret
    exact ⟨rfl, Below.refl _ _⟩
  · skip
    by_cases big1 : (1048576 : Int) < (bs1.length : Int)
    · go_enter Try.func4, Try.ntmps4
      go_wp2
      go_ret
      exact ⟨rfl, Below.refl _ _⟩
    · skip
      have T := Below.refl w0.heap.size w0
      go_enter Try.func4, Try.ntmps4
      go_wp2_with fail
      (with_reducible refine (drawFloorLength_any A0 bs0 cap0 w0 hB0.out hbc0 hbm0).mono ?_)
      rintro e w1 ⟨D0, cD0, f, p, q, rfl, hcD0, hdD0, hbd, d0, hp, hq, hb1⟩
      have sz1 := hb1.size
      replace T := bt T hb1
      have hfl : f.length ≤ 17 := hbd.1
      have hn : f.length ≤ 1048576 := by omega
      have HBD := hide hbd
      clear hbd
      by_cases hf : ptsOk f p q = true
      · have HF := hide hf
        obtain ⟨g1, g2, g3, g4⟩ := ptsOk_iff.1 hf
        obtain ⟨p, rfl⟩ := Int.eq_ofNat_of_zero_le g2
        obtain ⟨q, rfl⟩ := Int.eq_ofNat_of_zero_le (show 0 ≤ q by omega)
        have hpq : p ≤ q := by omega
        have hqf : q < f.length := by omega
        have hpf : p < f.length := by omega
        obtain ⟨kk, hkk⟩ : ∃ kk : Nat, kk = p + bs1.length % (q - p + 1) := ⟨_, rfl⟩
        have hkb : kk ≤ q := by have := Nat.mod_lt bs1.length (show 0 < q - p + 1 by omega); omega
        have hkp : p ≤ kk := by omega
        have hki : (p : Int) + (bs1.length : Int) % ((q : Int) - (p : Int) + 1) = (kk : Int) := by
          rw [hkk, show (q : Int) - (p : Int) + 1 = ((q - p + 1 : Nat) : Int) by omega, ← Int.natCast_emod]
          omega
        have hx0 : 0 ≤ (bs1.length : Int) % ((q : Int) - (p : Int) + 1) := by omega
        have hx1 : (bs1.length : Int) % ((q : Int) - (p : Int) + 1) ≤ 100 := by omega
        have hx2 : (0 : Int) < (q : Int) - (p : Int) + 1 := by omega
        have HKI := hide hki
        obtain ⟨a1, a2⟩ := floorLen_le g1 hkp (by omega)
        obtain ⟨a3, a4⟩ := floorLen_le g1 hkb hqf
        obtain ⟨a5, a6⟩ := floorLen_le g1 hpq hqf
        have a7 : 0 ≤ floorLen f (p : Int) (kk : Int) := by omega
        have a8 : 0 ≤ floorLen f (kk : Int) (q : Int) := by omega
        have a9 : 0 ≤ floorLen f (p : Int) (q : Int) := by omega
        have a10 : floorLen f (p : Int) (kk : Int) ≤ 1000 := by omega
        have a11 : floorLen f (kk : Int) (q : Int) ≤ 1000 := by omega
        have a12 : floorLen f (p : Int) (q : Int) ≤ 1000 := by omega
        obtain ⟨l1, l2⟩ := floorLen_ge g1 hpq hqf
        have L1 := hide l1
        have L2 := hide l2
        have LB := hide (show ((floorLen f (p : Int) (q : Int) == 0) == ((p : Int) == (q : Int))) = true by
          rw [floorLen_zero_iff g1 hpq hqf, beq_iff_eq, Bool.eq_iff_iff]
          simp only [beq_iff_eq]
          omega)
        have b1 := hide (show (floorLen f (p : Int) (kk : Int) + floorLen f (kk : Int) (q : Int) == floorLen f (p : Int) (q : Int)) = true by rw [floorLen_split g1 hkp hkb hqf]; simp)
        obtain ⟨v1, v2⟩ := floorOk_get g1 hpf
        obtain ⟨v3, v4⟩ := floorOk_get g1 hqf
        have hd0 : decide (floorLen f (p : Int) (q : Int) < 0) = false := by simp; omega
        clear a1 a2 a3 a4 a5 a6 l1 l2 hki hkk hf g1
        go_wp2_with fail
        (with_reducible refine (floorLength_any _ f _ _ _ _ (d0.ints.mono (by omega)) hn hcD0 hdD0).mono ?_)
        rintro e w2 ⟨rfl, hb2⟩
        have sz2 := hb2.size
        replace d0 := d0.below (hb2.mono (by omega))
        replace T := bt T hb2
        go_wp2_with fail
        (with_reducible refine (specFloorLength_any _ f _ _ _ _ (d0.ints.mono (by omega)) hn).mono ?_)
        rintro e w3 ⟨rfl, hb3⟩
        have sz3 := hb3.size
        replace d0 := d0.below (hb3.mono (by omega))
        replace T := bt T hb3
        obtain ⟨b, off, rfl, hba, hbb, hc⟩ := d0 (by omega)
        have k1 := (hc p hpf).1
        have k2 := (hc q hqf).1
        have e1 : (p : Int) < (f.length : Int) := by omega
        have e2 : (q : Int) < (f.length : Int) := by omega
        have e3 : (0 : Int) ≤ (p : Int) := by omega
        have e4 : (0 : Int) ≤ (q : Int) := by omega
        have s1 : IntKind.i64.wrap (at0 f q - at0 f p) = at0 f q - at0 f p := IntWalk.i64_in _ ⟨by omega, by omega⟩
        clear hc
        go_wp2_with fail
        go_quiet (fail)
        clear s1 k1 k2
        have hb4 := below_drewN (Below.refl w3.heap.size w3) nq
        generalize w3.drewN nq = w4 at hb4 ⊢
        have sz4 := hb4.size
        replace d0 := d0.below (hb4.mono (by omega))
        replace T := bt T hb4
        rw [HKI.out]
        go_wp2_with fail
        (with_reducible refine (floorLength_any _ f _ (p : Int) (kk : Int) _ (d0.ints.mono (by omega)) hn hcD0 hdD0).mono ?_)
        rintro e w5 ⟨rfl, hb5⟩
        have sz5 := hb5.size
        replace d0 := d0.below (hb5.mono (by omega))
        replace T := bt T hb5
        go_wp2_with fail
        (with_reducible refine (floorLength_any _ f _ (kk : Int) (q : Int) _ (d0.ints.mono (by omega)) hn hcD0 hdD0).mono ?_)
        rintro e w6 ⟨rfl, hb6⟩
        have sz6 := hb6.size
        replace d0 := d0.below (hb6.mono (by omega))
        replace T := bt T hb6
        have b1' := b1.out
        have HLB := LB.out
        go_wp2
        all_goals
          have l1 := L1.out
          have l2 := L2.out
          first
          | (exfalso; omega)
          | (go_ret; first | exact ⟨rfl, T⟩ | exact ⟨ret_bool HLB, T⟩)
      · have hf' : ptsOk f p q = false := by simpa using hf
        have HN := hide (show floorLen f p q = -1 by simp [floorLen, hf'])
        clear hf hf'
        go_wp2_with fail
        (with_reducible refine (floorLength_any _ f _ _ _ _ (d0.ints.mono (by omega)) hn hcD0 hdD0).mono ?_)
        rintro e w2 ⟨rfl, hb2⟩
        have sz2 := hb2.size
        replace d0 := d0.below (hb2.mono (by omega))
        replace T := bt T hb2
        go_wp2_with fail
        (with_reducible refine (specFloorLength_any _ f _ _ _ _ (d0.ints.mono (by omega)) hn).mono ?_)
        rintro e w3 ⟨rfl, hb3⟩
        have sz3 := hb3.size
        replace d0 := d0.below (hb3.mono (by omega))
        replace T := bt T hb3
        rw [HN.out]
        go_wp2
        go_ret
        exact ⟨rfl, T⟩
end Go.Proofs.Ytoelajocacpmgaa
