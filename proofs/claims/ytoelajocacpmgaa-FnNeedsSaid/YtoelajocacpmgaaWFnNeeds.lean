/-
  WALK: the law FnNeeds.
-/
import Derived.Test.YtoelajocacpmgaaLawPayP
import Derived.Test.YtoelajocacpmgaaDrawsFloor
import Derived.Test.YtoelajocacpmgaaLawInts
namespace Go.Proofs.Ytoelajocacpmgaa
set_option linter.unusedVariables false
set_option linter.unusedSimpArgs false
open Go.RowKit

set_option maxRecDepth 100000 in
set_option maxHeartbeats 4000000 in
theorem walk_FnNeeds (w0 : World) (A0 : Option Addr) (len0 cap0 : Nat) (bs0 : List Int) (i0 : IsList .u8 w0 A0 len0 cap0 bs0) :
    Calls Try.prog 10 #[.slice A0 len0 cap0] w0 fun e w' => e = .returned (.bool true) ∧ Below w0.heap.size w0 w' := by
  have hB0 := hide (IsList.byts i0)
  obtain ⟨rfl, hbc0, hbm0, -⟩ := i0
  unfold maxLen at hbm0
  by_cases big0 : (1048576 : Int) < (bs0.length : Int)
  · go_enter Try.func10, Try.ntmps10
    go_wp2
    go_ret
    exact ⟨rfl, Below.refl _ _⟩
  · skip
    have T := Below.refl w0.heap.size w0
    go_enter Try.func10, Try.ntmps10
    go_wp2_with fail
    (with_reducible refine (drawFloorNeeds_any A0 bs0 cap0 w0 hB0.out hbc0 hbm0).mono ?_)
    rintro e w1 ⟨D0, cD0, f, rfl, hcD0, hdD0, hbd, d0, hb1⟩
    have sz1 := hb1.size
    replace T := bt T hb1
    have hfl : f.length ≤ 17 := hbd.1
    have hn : f.length ≤ 1048576 := by omega
    have HBD := hide hbd
    clear hbd
    have hnr : (needsOf f).length ≤ 17 := by unfold needsOf; split; (rw [needs_length]; omega); simp
    by_cases hf : floorOk f = true
    · have HF := hide hf
      obtain ⟨v1, v2, v3, v4, v5⟩ := needs_law hf
      have hl := needsOf_len hf
      have hl2 := floorOk_len hf
      have HV := hide v1
      have HL := hide hl
      have hlle : (needsOf f).length + 1 ≤ f.length := by omega
      have hlge : f.length ≤ (needsOf f).length + 1 := by omega
      have b1 := hide (show (((needsOf f).length : Int) == (f.length : Int) - 1) = true by simp; omega)
      have b2 := hide (show (sumN (at0 (needsOf f)) (needsOf f).length == floorLen f 0 ((f.length : Int) - 1)) = true by rw [v5]; simp)
      have b3 := hide (show (hangs f (needsOf f)).length = 0 by rw [v3]; rfl)
      have b4 := hide v4
      clear v1 v2 v3 v4 v5 hl hf
      go_wp2_with fail
      (with_reducible refine (floorNeeds_any _ f _ _ (d0.ints.mono (by omega)) hn).mono ?_)
      rintro e w2 ⟨Bg, cg, rfl, hcg, hdg, g, hb2⟩
      have sz2 := hb2.size
      replace d0 := d0.below (hb2.mono (by omega))
      replace T := bt T hb2
      rw [HF.out]
      go_wp2_with fail
      (with_reducible refine (specFloorNeeds_any _ f _ _ (d0.ints.mono (by omega)) hn).mono ?_)
      rintro e w3 ⟨Bh, ch, rfl, hch, hdh, h, hb3⟩
      have sz3 := hb3.size
      replace d0 := d0.below (hb3.mono (by omega))
      replace g := g.below (hb3.mono (by omega))
      replace T := bt T hb3
      rw [HF.out]
      go_wp2_with fail
      (with_reducible refine (sameInts_same _ _ (needsOf f) _ _ _ (g.ints.mono (by omega)) (h.ints.mono (by omega)) (by omega)).mono ?_)
      rintro e w4 ⟨rfl, hb4⟩
      have sz4 := hb4.size
      replace d0 := d0.below (hb4.mono (by omega))
      replace g := g.below (hb4.mono (by omega))
      replace h := h.below (hb4.mono (by omega))
      replace T := bt T hb4
      go_wp2_with fail
      go_loop [8] (fun i => ∃ k : Nat, k ≤ (needsOf f).length ∧ i = .int .i64 (k : Int)) (fun i => (needsOf f).length - (intOf i).toNat)
      case atStart => exact ⟨0, Nat.zero_le _, rfl⟩
      case round =>
        obtain ⟨k, hk, rfl⟩ := hrel
        by_cases hlt : k < (needsOf f).length
        · obtain ⟨b, off, rfl, hb1, hb2', hc⟩ := g (by omega)
          have hcell := (hc k hlt).1
          obtain ⟨y1, y2⟩ := HV.out k hlt
          have hlt' : (k : Int) < ((needsOf f).length : Int) := by omega
          clear hc
          go_wp2
          go_round
          case rel => exact ⟨k + 1, by omega, by go_num⟩
          case measure => simp [intOf]; omega
        · have hlt' : ¬ (k : Int) < ((needsOf f).length : Int) := by omega
          have b1' := b1.out
          go_wp2_with fail
          (with_reducible refine (sumOf_any _ (needsOf f) _ _ (g.ints.mono (by omega)) (by omega) (fun k hk => by have := HV.out k hk; omega)).mono ?_)
          rintro e w' ⟨rfl, rfl⟩
          go_wp2_with fail
          (with_reducible refine (floorLength_any _ f _ 0 ((f.length : Int) - 1) _ (d0.ints.mono (by omega)) hn hcD0 hdD0).mono ?_)
          rintro e w5 ⟨rfl, hb5⟩
          have sz5 := hb5.size
          replace d0 := d0.below (hb5.mono (by omega))
          replace g := g.below (hb5.mono (by omega))
          replace h := h.below (hb5.mono (by omega))
          replace T := bt T hb5
          have b2' := b2.out
          go_wp2_with fail
          (with_reducible refine (payHangs_any _ _ f (needsOf f) _ _ _ (d0.ints.mono (by omega)) (g.ints.mono (by omega)) hn (by omega)).mono ?_)
          rintro e w6 ⟨Bk, ck, rfl, hck, hdk, k0, hb6⟩
          have sz6 := hb6.size
          replace d0 := d0.below (hb6.mono (by omega))
          replace g := g.below (hb6.mono (by omega))
          replace h := h.below (hb6.mono (by omega))
          replace T := bt T hb6
          rw [b3.out]
          go_wp2_with fail
          (with_reducible refine (paySlack_any _ _ f (needsOf f) _ _ _ (d0.ints.mono (by omega)) (g.ints.mono (by omega)) hn (by omega)).mono ?_)
          rintro e w7 ⟨rfl, hb7⟩
          have sz7 := hb7.size
          replace d0 := d0.below (hb7.mono (by omega))
          replace g := g.below (hb7.mono (by omega))
          replace h := h.below (hb7.mono (by omega))
          replace k0 := k0.below (hb7.mono (by omega))
          replace T := bt T hb7
          rw [b4.out]
          go_wp2
          go_ret
          exact ⟨rfl, T⟩
    · have hf' : floorOk f = false := by simpa using hf
      have HF := hide hf'
      clear hf hf'
      go_wp2_with fail
      (with_reducible refine (floorNeeds_any _ f _ _ (d0.ints.mono (by omega)) hn).mono ?_)
      rintro e w2 ⟨Bg, cg, rfl, hcg, hdg, g, hb2⟩
      have sz2 := hb2.size
      replace d0 := d0.below (hb2.mono (by omega))
      replace T := bt T hb2
      rw [HF.out]
      go_wp2_with fail
      (with_reducible refine (specFloorNeeds_any _ f _ _ (d0.ints.mono (by omega)) hn).mono ?_)
      rintro e w3 ⟨Bh, ch, rfl, hch, hdh, h, hb3⟩
      have sz3 := hb3.size
      replace d0 := d0.below (hb3.mono (by omega))
      replace g := g.below (hb3.mono (by omega))
      replace T := bt T hb3
      rw [HF.out]
      go_wp2_with fail
      (with_reducible refine (sameInts_same _ _ (needsOf f) _ _ _ (g.ints.mono (by omega)) (h.ints.mono (by omega)) (by omega)).mono ?_)
      rintro e w4 ⟨rfl, hb4⟩
      have sz4 := hb4.size
      replace d0 := d0.below (hb4.mono (by omega))
      replace g := g.below (hb4.mono (by omega))
      replace h := h.below (hb4.mono (by omega))
      replace T := bt T hb4
      go_wp2_with fail
      (with_reducible refine (sameInts_same _ _ (needsOf f) _ _ _ (g.ints.mono (by omega)) (h.ints.mono (by omega)) (by omega)).mono ?_)
      rintro e w5 ⟨rfl, hb5⟩
      have sz5 := hb5.size
      replace d0 := d0.below (hb5.mono (by omega))
      replace g := g.below (hb5.mono (by omega))
      replace h := h.below (hb5.mono (by omega))
      replace T := bt T hb5
      go_wp2
      go_ret
      exact ⟨rfl, T⟩
end Go.Proofs.Ytoelajocacpmgaa
