/-
  WALK: the law FnHangs.
-/
import Derived.Test.YtoelajocacpmgaaLawSlackP
import Derived.Test.YtoelajocacpmgaaDrawPay
namespace Go.Proofs.Ytoelajocacpmgaa
set_option linter.unusedVariables false
set_option linter.unusedSimpArgs false
open Go.RowKit

set_option maxRecDepth 100000 in
set_option maxHeartbeats 4000000 in
theorem walk_FnHangs (w0 : World) (A0 : Option Addr) (len0 cap0 : Nat) (bs0 : List Int) (i0 : IsList .u8 w0 A0 len0 cap0 bs0) :
    Calls Try.prog 15 #[.slice A0 len0 cap0] w0 fun e w' => e = .returned (.bool true) ∧ Below w0.heap.size w0 w' := by
  have hB0 := hide (IsList.byts i0)
  obtain ⟨rfl, hbc0, hbm0, -⟩ := i0
  unfold maxLen at hbm0
  by_cases big0 : (1048576 : Int) < (bs0.length : Int)
  · go_enter Try.func15, Try.ntmps15
    go_wp2
    go_ret
    exact ⟨rfl, Below.refl _ _⟩
  · skip
    have T := Below.refl w0.heap.size w0
    go_enter Try.func15, Try.ntmps15
    go_wp2_with fail
    (with_reducible refine (drawPayHangs_any A0 bs0 cap0 w0 hB0.out hbc0 hbm0).mono ?_)
    rintro e w1 ⟨D0, cD0, f, P0, cP0, p, rfl, ⟨hcD0, hdD0⟩, ⟨hcP0, hdP0⟩, hbf, hbp, d0, p0, hb1⟩
    have sz1 := hb1.size
    replace T := bt T hb1
    have hfl : f.length ≤ 17 := hbf.1
    have hn : f.length ≤ 1048576 := by omega
    have hpl : p.length ≤ 16 := hbp.1
    have hnp : p.length ≤ 1048576 := by omega
    have HBF := hide hbf
    have HBP := hide hbp
    have HPV := hide hbp.2
    clear hbf hbp
    have hhl : (hangs f p).length ≤ 16 := by have := hangs_le f p; omega
    by_cases hz : (hangs f p).length = 0
    · have hz3 : (((hangs f p).length : Int) == 0) = true := by simp [hz]
      have hz4 : ((hangs f p).length == 0) = true := by simp [hz]
      clear hz
      go_wp2_with fail
      (with_reducible refine (payHangs_any _ _ f p _ _ _ (d0.ints.mono (by omega)) (p0.ints.mono (by omega)) hn hnp).mono ?_)
      rintro e w2 ⟨Bk, ck, rfl, hck, hdk, k, hb2⟩
      have sz2 := hb2.size
      replace d0 := d0.below (hb2.mono (by omega))
      replace p0 := p0.below (hb2.mono (by omega))
      replace T := bt T hb2
      go_wp2_with fail
      (with_reducible refine (specPayHangs_any _ _ f p _ _ _ (d0.ints.mono (by omega)) (p0.ints.mono (by omega)) hn hnp).mono ?_)
      rintro e w3 ⟨Bl, cl, rfl, hcl, hdl, l, hb3⟩
      have sz3 := hb3.size
      replace d0 := d0.below (hb3.mono (by omega))
      replace p0 := p0.below (hb3.mono (by omega))
      replace k := k.below (hb3.mono (by omega))
      replace T := bt T hb3
      go_wp2_with fail
      (with_reducible refine (sameInts_same _ _ (hangs f p) _ _ _ (k.ints.mono (by omega)) (l.ints.mono (by omega)) (by omega)).mono ?_)
      rintro e w4 ⟨rfl, hb4⟩
      have sz4 := hb4.size
      replace d0 := d0.below (hb4.mono (by omega))
      replace p0 := p0.below (hb4.mono (by omega))
      replace k := k.below (hb4.mono (by omega))
      replace l := l.below (hb4.mono (by omega))
      replace T := bt T hb4
      go_wp2_with fail
      (with_reducible refine (sameInts_same _ _ (hangs f p) _ _ _ (k.ints.mono (by omega)) (l.ints.mono (by omega)) (by omega)).mono ?_)
      rintro e w5 ⟨rfl, hb5⟩
      have sz5 := hb5.size
      replace d0 := d0.below (hb5.mono (by omega))
      replace p0 := p0.below (hb5.mono (by omega))
      replace k := k.below (hb5.mono (by omega))
      replace l := l.below (hb5.mono (by omega))
      replace T := bt T hb5
      go_wp2
      go_ret
      exact ⟨rfl, T⟩
    · have hf : payOk f p = true := by
          cases e : payOk f p
          · exact absurd (by simp [hangs, e]) hz
          · rfl
      have hz1 : 0 < (hangs f p).length := by omega
      have hz2 : (0 : Int) < ((hangs f p).length : Int) := by omega
      have hz3 : (((hangs f p).length : Int) == 0) = false := beq_eq_false_iff_ne.2 (by omega)
      obtain ⟨hd, hf2, hpf, hpv⟩ := payOk_deep hf
      have hfo := (payOk_iff.1 hf).1
      have HFO := hide hfo
      have hl := needsOf_len hfo
      have hnl : (needsOf f).length ≤ 16 := by omega
      have hpn : p.length ≤ (needsOf f).length := by omega
      have HH := hide (fun (i : Nat) (hi : i < p.length) => show hasI (hangs f p) (i : Int) = decide (at0 p i < at0 (needsOf f) i) by rw [has_hangs hf hi, at0_needsOf hfo (j := i) (by omega)])
      have HV := hide (fun (i : Nat) (hi : i < p.length) => show (0 ≤ at0 p i ∧ at0 p i ≤ 60) ∧ 10 ≤ at0 (needsOf f) i ∧ at0 (needsOf f) i ≤ 50 ∧ missF f p i = posI (at0 (needsOf f) i - at0 p i) from ⟨hpv i hi, by rw [at0_needsOf hfo (j := i) (by omega)]; exact (needF_bd hd (i := i) (by omega)).1, by rw [at0_needsOf hfo (j := i) (by omega)]; exact (needF_bd hd (i := i) (by omega)).2, by rw [at0_needsOf hfo (j := i) (by omega)]; rfl⟩)
      have HM := hide (fun (k : Nat) (hk : k ≤ p.length) => sumN_bd (f := missF f p) (lo := 0) (hi := 50) (n := p.length) (fun j hj => missF_bd hf hj) hk)
      have hsl := slack_ge hf
      have hB := hide (show (slack f p - sumN (missF f p) p.length == sumN (at0 p) p.length - sumN (at0 (needsOf f)) (needsOf f).length) = true by rw [slack_miss hf]; simp)
      obtain ⟨x1, x2⟩ := hsl
      have hsp := sumN_bd (f := at0 p) (lo := -1) (hi := 61) (n := p.length) HBP.out.2 (Nat.le_refl _)
      have l3 : -1000 ≤ sumN (at0 p) p.length := by omega
      have l4 : sumN (at0 p) p.length ≤ 1000 := by omega
      have HNV := hide ((needs_law hfo).1)
      have hsn := sumN_bd (f := at0 (needsOf f)) (lo := 10) (hi := 50) (n := (needsOf f).length) HNV.out (Nat.le_refl _)
      have l5 : 0 ≤ sumN (at0 (needsOf f)) (needsOf f).length := by omega
      have l6 : sumN (at0 (needsOf f)) (needsOf f).length ≤ 1000 := by omega
      clear hsp hsn hd hpv hfo hf hz hl
      go_wp2_with fail
      (with_reducible refine (payHangs_any _ _ f p _ _ _ (d0.ints.mono (by omega)) (p0.ints.mono (by omega)) hn hnp).mono ?_)
      rintro e w2 ⟨Bk, ck, rfl, hck, hdk, k, hb2⟩
      have sz2 := hb2.size
      replace d0 := d0.below (hb2.mono (by omega))
      replace p0 := p0.below (hb2.mono (by omega))
      replace T := bt T hb2
      go_wp2_with fail
      (with_reducible refine (specPayHangs_any _ _ f p _ _ _ (d0.ints.mono (by omega)) (p0.ints.mono (by omega)) hn hnp).mono ?_)
      rintro e w3 ⟨Bl, cl, rfl, hcl, hdl, l, hb3⟩
      have sz3 := hb3.size
      replace d0 := d0.below (hb3.mono (by omega))
      replace p0 := p0.below (hb3.mono (by omega))
      replace k := k.below (hb3.mono (by omega))
      replace T := bt T hb3
      go_wp2_with fail
      (with_reducible refine (sameInts_same _ _ (hangs f p) _ _ _ (k.ints.mono (by omega)) (l.ints.mono (by omega)) (by omega)).mono ?_)
      rintro e w4 ⟨rfl, hb4⟩
      have sz4 := hb4.size
      replace d0 := d0.below (hb4.mono (by omega))
      replace p0 := p0.below (hb4.mono (by omega))
      replace k := k.below (hb4.mono (by omega))
      replace l := l.below (hb4.mono (by omega))
      replace T := bt T hb4
      go_wp2_with fail
      (with_reducible refine (floorNeeds_any _ f _ _ (d0.ints.mono (by omega)) hn).mono ?_)
      rintro e w5 ⟨Bg, cg, rfl, hcg, hdg, g, hb5⟩
      have sz5 := hb5.size
      replace d0 := d0.below (hb5.mono (by omega))
      replace p0 := p0.below (hb5.mono (by omega))
      replace k := k.below (hb5.mono (by omega))
      replace l := l.below (hb5.mono (by omega))
      replace T := bt T hb5
      rw [HFO.out]
      go_wp2_with fail
      go_loopw [9, 10] (fun v i wr => ∃ k : Nat, k ≤ p.length ∧ v = .int .i64 (sumN (missF f p) k) ∧ i = .int .i64 (k : Int) ∧ Hid (Below w5.heap.size w5 wr)) (fun _ i _ => p.length - (intOf i).toNat)
      case atStart => exact ⟨0, Nat.zero_le _, rfl, rfl, Below.refl _ _⟩
      case round =>
        obtain ⟨j, hj, rfl, rfl, hbel⟩ := hrel
        by_cases hlt : j < p.length
        · obtain ⟨b, off, rfl, hb1, hb2', hc⟩ := p0 (by omega)
          obtain ⟨b', off', rfl, hb1', hb2'', hc'⟩ := g (by omega)
          have hcell := (hbel.out.cell (p := ⟨b, off + j, none⟩) (by show b < _; omega)).trans (hc j hlt).1
          have hcell' := (hbel.out.cell (p := ⟨b', off' + j, none⟩) (by show b' < _; omega)).trans (hc' j (by omega)).1
          obtain ⟨⟨y1, y2⟩, y3, y4, y5⟩ := HV.out j hlt
          obtain ⟨z1, z2⟩ := HM.out j (by omega)
          have z3 : sumN (missF f p) j ≤ 10000 := by omega
          have hh := HH.out j hlt
          have hlt' : (j : Int) < (p.length : Int) := by omega
          have hltn : (j : Int) < ((needsOf f).length : Int) := by omega
          have h0j : (0 : Int) ≤ (j : Int) := by omega
          have KI := hide k
          have hH := hide (fun m => (hasInt_any Bk (hangs f p) ck (j : Int) (wr.drewN m) (((KI.out.below (hbel.out.mono (by omega))).ints.below (below_drewN (Below.refl _ _) m)).mono (by have := hbel.out.size; show _ ≤ wr.heap.size; omega)) (by omega)).mono (R' := fun e w' => e = .returned (.bool (hasI (hangs f p) (j : Int))) ∧ w' = wr.drewN m) (by rintro e w' ⟨rfl, rfl⟩; exact ⟨rfl, rfl⟩))
          have HBE := hide hbel.out
          have HS : Hid (sumN (missF f p) (j + 1) = sumN (missF f p) j + missF f p j) := rfl
          have Y5 := hide y5
          have HHj := hide hh
          have HSZ := hide hbel.out.size
          clear hc hc' hh y5 z2 k l d0 T
          by_cases hpos : 0 < at0 (needsOf f) j - at0 p j
          · have HQ : Hid (missF f p j = at0 (needsOf f) j - at0 p j) := by rw [Y5.out]; exact posI_pos hpos
            have hbT : hasI (hangs f p) (j : Int) = true := by rw [HHj.out]; simp; omega
            have hH2 := hH.out
            rw [hbT] at hH2
            have hH3 := hide hH2
            have hd1 : decide (at0 p j < at0 (needsOf f) j) = true := by simp; omega
            clear hH2 hbT
            have s1 : IntKind.i64.wrap (at0 (needsOf f) j - at0 p j) = at0 (needsOf f) j - at0 p j := IntWalk.i64_in _ ⟨by omega, by omega⟩
            have s2 : IntKind.i64.wrap (sumN (missF f p) j + (at0 (needsOf f) j - at0 p j)) = sumN (missF f p) j + (at0 (needsOf f) j - at0 p j) := IntWalk.i64_in _ ⟨by omega, by omega⟩
            go_wp2_with fail
            go_quiet ((go_at_call 50; with_reducible exact Calls.quiet_of_same (hH3.out _)))
            go_wp2_with fail
            go_quiet (fail)
            clear s1 s2
            go_wp2
            go_roundw
            case rel => exact ⟨j + 1, by omega, by rw [HS.out, HQ.out]; first | rfl | (congr 1; omega) | (simp; omega), by go_num, by show Below _ _ _; repeat (first | (with_reducible exact HBE.out) | (with_reducible refine below_drewN ?_ _) | (with_reducible refine Below.drew ?_))⟩
            case measure => simp [intOf]; omega
          · have HQ : Hid (missF f p j = 0) := by rw [Y5.out]; exact posI_neg hpos
            have hbF : hasI (hangs f p) (j : Int) = false := by rw [HHj.out]; simp; omega
            have hH2 := hH.out
            rw [hbF] at hH2
            have hH3 := hide hH2
            have hd1 : decide (at0 p j < at0 (needsOf f) j) = false := by simp; omega
            clear hH2 hbF
            have s1 : IntKind.i64.wrap (at0 (needsOf f) j - at0 p j) = at0 (needsOf f) j - at0 p j := IntWalk.i64_in _ ⟨by omega, by omega⟩
            have s2 : IntKind.i64.wrap (sumN (missF f p) j) = sumN (missF f p) j := IntWalk.i64_in _ ⟨by omega, by omega⟩
            go_wp2_with fail
            go_quiet ((go_at_call 50; with_reducible exact Calls.quiet_of_same (hH3.out _)))
            go_wp2_with fail
            go_quiet (fail)
            clear s1 s2
            go_wp2
            go_roundw
            case rel => exact ⟨j + 1, by omega, by rw [HS.out, HQ.out]; first | rfl | (congr 1; omega) | (simp; omega), by go_num, by show Below _ _ _; repeat (first | (with_reducible exact HBE.out) | (with_reducible refine below_drewN ?_ _) | (with_reducible refine Below.drew ?_))⟩
            case measure => simp [intOf]; omega
        · have hlt' : ¬ (j : Int) < (p.length : Int) := by omega
          obtain rfl : j = p.length := by omega
          have hmb := HM.out p.length (Nat.le_refl _)
          have m1 : 0 ≤ sumN (missF f p) p.length := by omega
          have m2 : sumN (missF f p) p.length ≤ 1000 := by omega
          clear hmb
          have hb6 := hbel.out
          have sz6 := hb6.size
          replace d0 := d0.below (hb6.mono (by omega))
          replace p0 := p0.below (hb6.mono (by omega))
          replace k := k.below (hb6.mono (by omega))
          replace l := l.below (hb6.mono (by omega))
          replace g := g.below (hb6.mono (by omega))
          replace T := bt T hb6
          go_wp2_with fail
          (with_reducible refine (paySlack_any _ _ f p _ _ _ (d0.ints.mono (by omega)) (p0.ints.mono (by omega)) hn hnp).mono ?_)
          rintro e w7 ⟨rfl, hb7⟩
          have sz7 := hb7.size
          replace d0 := d0.below (hb7.mono (by omega))
          replace p0 := p0.below (hb7.mono (by omega))
          replace k := k.below (hb7.mono (by omega))
          replace l := l.below (hb7.mono (by omega))
          replace g := g.below (hb7.mono (by omega))
          replace T := bt T hb7
          go_wp2_with fail
          (with_reducible refine (sumOf_any _ p _ _ (p0.ints.mono (by omega)) (by omega) (fun k hk => by have := HPV.out k hk; omega)).mono ?_)
          rintro e w' ⟨rfl, rfl⟩
          go_wp2_with fail
          (with_reducible refine (sumOf_any _ (needsOf f) _ _ (g.ints.mono (by omega)) (by omega) (fun k hk => by have := HNV.out k hk; omega)).mono ?_)
          rintro e w' ⟨rfl, rfl⟩
          have hB' := hB.out
          go_wp2
          go_ret
          exact ⟨rfl, T⟩
end Go.Proofs.Ytoelajocacpmgaa
