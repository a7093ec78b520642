/-
  WALK: the law FnBack.
-/
import Derived.Test.YtoelajocacpmgaaLawBackP
import Derived.Test.YtoelajocacpmgaaDrawsFloor
import Derived.Test.YtoelajocacpmgaaLawInts
namespace Go.Proofs.Ytoelajocacpmgaa
set_option linter.unusedVariables false
set_option linter.unusedSimpArgs false
open Go.RowKit

set_option maxRecDepth 100000 in
set_option maxHeartbeats 4000000 in
theorem walk_FnBack (w0 : World) (A0 : Option Addr) (len0 cap0 : Nat) (bs0 : List Int) (i0 : IsList .u8 w0 A0 len0 cap0 bs0) :
    Calls Try.prog 6 #[.slice A0 len0 cap0] w0 fun e w' => e = .returned (.bool true) ∧ Below w0.heap.size w0 w' := by
  have hB0 := hide (IsList.byts i0)
  obtain ⟨rfl, hbc0, hbm0, -⟩ := i0
  unfold maxLen at hbm0
  by_cases big0 : (1048576 : Int) < (bs0.length : Int)
  · go_enter Try.func6, Try.ntmps6
    go_wp2
    go_ret
    exact ⟨rfl, Below.refl _ _⟩
  · skip
    have T := Below.refl w0.heap.size w0
    go_enter Try.func6, Try.ntmps6
    go_wp2_with fail
    (with_reducible refine (drawFloorBack_any A0 bs0 cap0 w0 hB0.out hbc0 hbm0).mono ?_)
    rintro e w1 ⟨D0, cD0, f, rfl, hcD0, hdD0, hbd, d0, hb1⟩
    have sz1 := hb1.size
    replace T := bt T hb1
    have hfl : f.length ≤ 17 := hbd.1
    have hn : f.length ≤ 1048576 := by omega
    have HBD := hide hbd
    clear hbd
    have hbl : (back f).length ≤ 17 := by have := back_le f; omega
    have hnl : (needsOf f).length ≤ 17 := by unfold needsOf; split; (rw [needs_length]; omega); simp
    by_cases hf : floorOk f = true
    · have HF := hide hf
      have HK := hide (show floorOk (back f) = true by rw [back_eq hf, floorOk_rev]; exact hf)
      have HBB := hide (show back (back f) = f by rw [back_eq hf]; exact back_back hf)
      obtain ⟨nr, hnr⟩ : ∃ nr, nr = (needsOf f).reverse := ⟨_, rfl⟩
      have hnrl : nr.length ≤ 17 := by rw [hnr, List.length_reverse]; exact hnl
      have HNB := hide (show needsOf (back f) = nr by rw [hnr, needsOf_eq hf, back_eq hf, needsOf_eq (by rw [floorOk_rev]; exact hf), needs_rev])
      have HNR := hide hnr
      clear hf hnr
      go_wp2_with fail
      (with_reducible refine (floorBack_any _ f _ _ (d0.ints.mono (by omega)) hn).mono ?_)
      rintro e w2 ⟨Bg, cg, rfl, hcg, hdg, g, hb2⟩
      have sz2 := hb2.size
      replace d0 := d0.below (hb2.mono (by omega))
      replace T := bt T hb2
      rw [HF.out]
      go_wp2_with fail
      (with_reducible refine (specFloorBack_any _ f _ _ (d0.ints.mono (by omega)) hn).mono ?_)
      rintro e w3 ⟨Bh, ch, rfl, hch, hdh, h, hb3⟩
      have sz3 := hb3.size
      replace d0 := d0.below (hb3.mono (by omega))
      replace g := g.below (hb3.mono (by omega))
      replace T := bt T hb3
      rw [HF.out]
      go_wp2_with fail
      (with_reducible refine (sameInts_same _ _ (back f) _ _ _ (g.ints.mono (by omega)) (h.ints.mono (by omega)) (by omega)).mono ?_)
      rintro e w4 ⟨rfl, hb4⟩
      have sz4 := hb4.size
      replace d0 := d0.below (hb4.mono (by omega))
      replace g := g.below (hb4.mono (by omega))
      replace h := h.below (hb4.mono (by omega))
      replace T := bt T hb4
      go_wp2_with fail
      (with_reducible refine (floorBack_any _ (back f) _ _ (g.ints.mono (by omega)) (by omega)).mono ?_)
      rintro e w5 ⟨Bx, cx, rfl, hcx, hdx, x, hb5⟩
      have sz5 := hb5.size
      replace d0 := d0.below (hb5.mono (by omega))
      replace g := g.below (hb5.mono (by omega))
      replace h := h.below (hb5.mono (by omega))
      replace T := bt T hb5
      rw [HBB.out] at x hcx ⊢
      rw [HK.out]
      go_wp2_with fail
      (with_reducible refine (floorNeeds_any _ f _ _ (d0.ints.mono (by omega)) hn).mono ?_)
      rintro e w6 ⟨Ba, ca, rfl, hca, hda, a, hb6⟩
      have sz6 := hb6.size
      replace d0 := d0.below (hb6.mono (by omega))
      replace g := g.below (hb6.mono (by omega))
      replace h := h.below (hb6.mono (by omega))
      replace x := x.below (hb6.mono (by omega))
      replace T := bt T hb6
      rw [HF.out]
      go_wp2_with fail
      (with_reducible refine (floorNeeds_any _ (back f) _ _ (g.ints.mono (by omega)) (by omega)).mono ?_)
      rintro e w7 ⟨Bb, cb, rfl, hcb, hdb, b, hb7⟩
      have sz7 := hb7.size
      replace d0 := d0.below (hb7.mono (by omega))
      replace g := g.below (hb7.mono (by omega))
      replace h := h.below (hb7.mono (by omega))
      replace x := x.below (hb7.mono (by omega))
      replace a := a.below (hb7.mono (by omega))
      replace T := bt T hb7
      rw [HNB.out] at b hcb ⊢
      rw [HK.out]
      go_wp2_with fail
      (with_reducible refine (sameInts_same _ _ (f) _ _ _ (x.ints.mono (by omega)) (d0.ints.mono (by omega)) (by omega)).mono ?_)
      rintro e w8 ⟨rfl, hb8⟩
      have sz8 := hb8.size
      replace d0 := d0.below (hb8.mono (by omega))
      replace g := g.below (hb8.mono (by omega))
      replace h := h.below (hb8.mono (by omega))
      replace x := x.below (hb8.mono (by omega))
      replace a := a.below (hb8.mono (by omega))
      replace b := b.below (hb8.mono (by omega))
      replace T := bt T hb8
      go_wp2_with fail
      (with_reducible refine (backOf_any _ (needsOf f) _ _ (a.ints.mono (by omega)) (by omega)).mono ?_)
      rintro e w9 ⟨Br, cr, rfl, hcr, hdr, r, hb9⟩
      have sz9 := hb9.size
      replace d0 := d0.below (hb9.mono (by omega))
      replace g := g.below (hb9.mono (by omega))
      replace h := h.below (hb9.mono (by omega))
      replace x := x.below (hb9.mono (by omega))
      replace a := a.below (hb9.mono (by omega))
      replace b := b.below (hb9.mono (by omega))
      replace T := bt T hb9
      rw [← HNR.out] at r hcr ⊢
      go_wp2_with fail
      (with_reducible refine (sameInts_same _ _ (nr) _ _ _ (b.ints.mono (by omega)) (r.ints.mono (by omega)) (by omega)).mono ?_)
      rintro e w10 ⟨rfl, hb10⟩
      have sz10 := hb10.size
      replace d0 := d0.below (hb10.mono (by omega))
      replace g := g.below (hb10.mono (by omega))
      replace h := h.below (hb10.mono (by omega))
      replace x := x.below (hb10.mono (by omega))
      replace a := a.below (hb10.mono (by omega))
      replace b := b.below (hb10.mono (by omega))
      replace r := r.below (hb10.mono (by omega))
      replace T := bt T hb10
      go_wp2
      go_ret
      exact ⟨rfl, T⟩
    · have hf' : floorOk f = false := by simpa using hf
      have HF := hide hf'
      clear hf hf'
      go_wp2_with fail
      (with_reducible refine (floorBack_any _ f _ _ (d0.ints.mono (by omega)) hn).mono ?_)
      rintro e w2 ⟨Bg, cg, rfl, hcg, hdg, g, hb2⟩
      have sz2 := hb2.size
      replace d0 := d0.below (hb2.mono (by omega))
      replace T := bt T hb2
      rw [HF.out]
      go_wp2_with fail
      (with_reducible refine (specFloorBack_any _ f _ _ (d0.ints.mono (by omega)) hn).mono ?_)
      rintro e w3 ⟨Bh, ch, rfl, hch, hdh, h, hb3⟩
      have sz3 := hb3.size
      replace d0 := d0.below (hb3.mono (by omega))
      replace g := g.below (hb3.mono (by omega))
      replace T := bt T hb3
      rw [HF.out]
      go_wp2_with fail
      (with_reducible refine (sameInts_same _ _ (back f) _ _ _ (g.ints.mono (by omega)) (h.ints.mono (by omega)) (by omega)).mono ?_)
      rintro e w4 ⟨rfl, hb4⟩
      have sz4 := hb4.size
      replace d0 := d0.below (hb4.mono (by omega))
      replace g := g.below (hb4.mono (by omega))
      replace h := h.below (hb4.mono (by omega))
      replace T := bt T hb4
      go_wp2_with fail
      (with_reducible refine (sameInts_same _ _ (back f) _ _ _ (g.ints.mono (by omega)) (h.ints.mono (by omega)) (by omega)).mono ?_)
      rintro e w5 ⟨rfl, hb5⟩
      have sz5 := hb5.size
      replace d0 := d0.below (hb5.mono (by omega))
      replace g := g.below (hb5.mono (by omega))
      replace h := h.below (hb5.mono (by omega))
      replace T := bt T hb5
      go_wp2
      go_ret
      exact ⟨rfl, T⟩
end Go.Proofs.Ytoelajocacpmgaa
