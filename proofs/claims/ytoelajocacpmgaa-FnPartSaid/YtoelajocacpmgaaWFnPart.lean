/-
  WALK: the law FnPart.
-/
import Derived.Test.YtoelajocacpmgaaLawPartP
import Derived.Test.YtoelajocacpmgaaSpecPart
import Derived.Test.YtoelajocacpmgaaDrawTwo
import Derived.Test.YtoelajocacpmgaaLawInts
namespace Go.Proofs.Ytoelajocacpmgaa
set_option linter.unusedVariables false
set_option linter.unusedSimpArgs false
open Go.RowKit

set_option maxRecDepth 100000 in
set_option maxHeartbeats 4000000 in
theorem walk_FnPart (w0 : World) (A0 : Option Addr) (len0 cap0 : Nat) (bs0 : List Int) (i0 : IsList .u8 w0 A0 len0 cap0 bs0) (A1 : Option Addr) (len1 cap1 : Nat) (bs1 : List Int) (i1 : IsList .u8 w0 A1 len1 cap1 bs1) :
    Calls Try.prog 7 #[.slice A0 len0 cap0, .slice A1 len1 cap1] w0 fun e w' => e = .returned (.bool true) ∧ Below w0.heap.size w0 w' := by
  have hB0 := hide (IsList.byts i0)
  obtain ⟨rfl, hbc0, hbm0, -⟩ := i0
  unfold maxLen at hbm0
  have hB1 := hide (IsList.byts i1)
  obtain ⟨rfl, hbc1, hbm1, -⟩ := i1
  unfold maxLen at hbm1
  by_cases big0 : (1048576 : Int) < (bs0.length : Int)
  · go_enter Try.func7, Try.ntmps7
    go_wp2
    go_ret
    exact ⟨rfl, Below.refl _ _⟩
  · skip
    by_cases big1 : (1048576 : Int) < (bs1.length : Int)
    · go_enter Try.func7, Try.ntmps7
      go_wp2
      go_ret
      exact ⟨rfl, Below.refl _ _⟩
    · skip
      have T := Below.refl w0.heap.size w0
      go_enter Try.func7, Try.ntmps7
      go_wp2_with fail
      (with_reducible refine (drawFloorPart_any A0 bs0 cap0 w0 hB0.out hbc0 hbm0).mono ?_)
      rintro e w1 ⟨D0, cD0, f, p, q, rfl, hcD0, hdD0, hbd, d0, hp, hq, hb1⟩
      have sz1 := hb1.size
      replace T := bt T hb1
      have hfl : f.length ≤ 17 := hbd.1
      have hn : f.length ≤ 1048576 := by omega
      have hpl : (part f p q).length ≤ 17 := by have := part_le f p q; omega
      have HBD := hide hbd
      clear hbd
      by_cases hf : partOk f p q = true
      · have HF := hide hf
        obtain ⟨g1, g2, g3, g4⟩ := partOk_iff.1 hf
        obtain ⟨p, rfl⟩ := Int.eq_ofNat_of_zero_le g2
        obtain ⟨q, rfl⟩ := Int.eq_ofNat_of_zero_le (show 0 ≤ q by omega)
        have hl := part_len hf
        have hpq : p < q := by omega
        have hqf : q < f.length := by omega
        obtain ⟨kk, hkk⟩ : ∃ kk : Nat, kk = 1 + bs1.length % (q - p) := ⟨_, rfl⟩
        have hkb : kk ≤ q - p := by have := Nat.mod_lt bs1.length (show 0 < q - p by omega); omega
        obtain ⟨m1, m2, m3⟩ := part_law hf (k := kk) (by omega) hkb
        have hki : (1 : Int) + (bs1.length : Int) % (((part f (p : Int) (q : Int)).length : Int) - 1) = (kk : Int) := by
          rw [hl, hkk, show ((q + 1 - p : Nat) : Int) - 1 = ((q - p : Nat) : Int) by omega, ← Int.natCast_emod]
          omega
        have hx0 : 0 ≤ (bs1.length : Int) % (((part f (p : Int) (q : Int)).length : Int) - 1) := by omega
        have hx1 : (bs1.length : Int) % (((part f (p : Int) (q : Int)).length : Int) - 1) ≤ 100 := by omega
        obtain ⟨pk, hpk⟩ : ∃ pk, pk = p + kk := ⟨_, rfl⟩
        rw [← hpk] at m2 m3
        have HPK := hide (show (p : Int) + (kk : Int) = (pk : Int) by omega)
        have HKI := hide hki
        have M1 := hide m1
        have M2 := hide m2
        have M3 := hide m3
        have hlen2 : (2 : Int) ≤ ((part f (p : Int) (q : Int)).length : Int) := by omega
        have b1 := hide (show (((part f (p : Int) (q : Int)).length : Int) == (q : Int) - (p : Int) + 1) = true by simp; omega)
        have b2 := hide (show (floorLen (part f (p : Int) (q : Int)) 0 (((part f (p : Int) (q : Int)).length : Int) - 1) == floorLen f (p : Int) (q : Int)) = true by rw [show ((part f (p : Int) (q : Int)).length : Int) - 1 = ((q - p : Nat) : Int) by omega, floorLen_part hf]; simp)
        clear hki m1 m2 m3 hf hl hkk hpk
        go_wp2_with fail
        (with_reducible refine (floorPart_any _ f _ _ _ _ (d0.ints.mono (by omega)) hn hcD0 hdD0).mono ?_)
        rintro e w2 ⟨Bg, cg, rfl, hcg, hdg, g, hb2⟩
        have sz2 := hb2.size
        replace d0 := d0.below (hb2.mono (by omega))
        replace T := bt T hb2
        rw [HF.out]
        go_wp2_with fail
        (with_reducible refine (specFloorPart_any _ f _ _ _ _ (d0.ints.mono (by omega)) hn hcD0 hdD0).mono ?_)
        rintro e w3 ⟨Bh, ch, rfl, hch, hdh, h, hb3⟩
        have sz3 := hb3.size
        replace d0 := d0.below (hb3.mono (by omega))
        replace g := g.below (hb3.mono (by omega))
        replace T := bt T hb3
        rw [HF.out]
        go_wp2_with fail
        (with_reducible refine (sameInts_same _ _ (part f p q) _ _ _ (g.ints.mono (by omega)) (h.ints.mono (by omega)) (by omega)).mono ?_)
        rintro e w4 ⟨rfl, hb4⟩
        have sz4 := hb4.size
        replace d0 := d0.below (hb4.mono (by omega))
        replace g := g.below (hb4.mono (by omega))
        replace h := h.below (hb4.mono (by omega))
        replace T := bt T hb4
        go_wp2_with fail
        rw [HKI.out]
        (with_reducible refine (floorPart_any _ (part f (p : Int) (q : Int)) _ 0 (kk : Int) _ (g.ints.mono (by omega)) (by omega) hcg hdg).mono ?_)
        rintro e w5 ⟨Bx, cx, rfl, hcx, hdx, x, hb5⟩
        have sz5 := hb5.size
        replace d0 := d0.below (hb5.mono (by omega))
        replace g := g.below (hb5.mono (by omega))
        replace h := h.below (hb5.mono (by omega))
        replace T := bt T hb5
        rw [M3.out] at x hcx ⊢
        rw [M1.out]
        go_wp2_with fail
        rw [HPK.out]
        (with_reducible refine (floorPart_any _ f _ (p : Int) (pk : Int) _ (d0.ints.mono (by omega)) hn hcD0 hdD0).mono ?_)
        rintro e w6 ⟨By, cy, rfl, hcy, hdy, y, hb6⟩
        have sz6 := hb6.size
        replace d0 := d0.below (hb6.mono (by omega))
        replace g := g.below (hb6.mono (by omega))
        replace h := h.below (hb6.mono (by omega))
        replace x := x.below (hb6.mono (by omega))
        replace T := bt T hb6
        rw [M2.out]
        have hpl2 : (part f (p : Int) (pk : Int)).length ≤ 17 := by have := part_le f (p : Int) (pk : Int); omega
        go_wp2_with fail
        (with_reducible refine (sameInts_same _ _ (part f (p : Int) (pk : Int)) _ _ _ (x.ints.mono (by omega)) (y.ints.mono (by omega)) (by omega)).mono ?_)
        rintro e w7 ⟨rfl, hb7⟩
        have sz7 := hb7.size
        replace d0 := d0.below (hb7.mono (by omega))
        replace g := g.below (hb7.mono (by omega))
        replace h := h.below (hb7.mono (by omega))
        replace x := x.below (hb7.mono (by omega))
        replace y := y.below (hb7.mono (by omega))
        replace T := bt T hb7
        have b1' := b1.out
        go_wp2_with fail
        (with_reducible refine (floorLength_any _ (part f (p : Int) (q : Int)) _ 0 _ _ (g.ints.mono (by omega)) (by omega) hcg hdg).mono ?_)
        rintro e w8 ⟨rfl, hb8⟩
        have sz8 := hb8.size
        replace d0 := d0.below (hb8.mono (by omega))
        replace g := g.below (hb8.mono (by omega))
        replace h := h.below (hb8.mono (by omega))
        replace x := x.below (hb8.mono (by omega))
        replace y := y.below (hb8.mono (by omega))
        replace T := bt T hb8
        go_wp2_with fail
        (with_reducible refine (floorLength_any _ f _ (p : Int) (q : Int) _ (d0.ints.mono (by omega)) hn hcD0 hdD0).mono ?_)
        rintro e w9 ⟨rfl, hb9⟩
        have sz9 := hb9.size
        replace d0 := d0.below (hb9.mono (by omega))
        replace g := g.below (hb9.mono (by omega))
        replace h := h.below (hb9.mono (by omega))
        replace x := x.below (hb9.mono (by omega))
        replace y := y.below (hb9.mono (by omega))
        replace T := bt T hb9
        have b2' := b2.out
        go_wp2
        go_ret
        exact ⟨rfl, T⟩
      · have hf' : partOk f p q = false := by simpa using hf
        have HF := hide hf'
        clear hf hf'
        go_wp2_with fail
        (with_reducible refine (floorPart_any _ f _ _ _ _ (d0.ints.mono (by omega)) hn hcD0 hdD0).mono ?_)
        rintro e w2 ⟨Bg, cg, rfl, hcg, hdg, g, hb2⟩
        have sz2 := hb2.size
        replace d0 := d0.below (hb2.mono (by omega))
        replace T := bt T hb2
        rw [HF.out]
        go_wp2_with fail
        (with_reducible refine (specFloorPart_any _ f _ _ _ _ (d0.ints.mono (by omega)) hn hcD0 hdD0).mono ?_)
        rintro e w3 ⟨Bh, ch, rfl, hch, hdh, h, hb3⟩
        have sz3 := hb3.size
        replace d0 := d0.below (hb3.mono (by omega))
        replace g := g.below (hb3.mono (by omega))
        replace T := bt T hb3
        rw [HF.out]
        go_wp2_with fail
        (with_reducible refine (sameInts_same _ _ (part f p q) _ _ _ (g.ints.mono (by omega)) (h.ints.mono (by omega)) (by omega)).mono ?_)
        rintro e w4 ⟨rfl, hb4⟩
        have sz4 := hb4.size
        replace d0 := d0.below (hb4.mono (by omega))
        replace g := g.below (hb4.mono (by omega))
        replace h := h.below (hb4.mono (by omega))
        replace T := bt T hb4
        go_wp2_with fail
        (with_reducible refine (sameInts_same _ _ (part f p q) _ _ _ (g.ints.mono (by omega)) (h.ints.mono (by omega)) (by omega)).mono ?_)
        rintro e w5 ⟨rfl, hb5⟩
        have sz5 := hb5.size
        replace d0 := d0.below (hb5.mono (by omega))
        replace g := g.below (hb5.mono (by omega))
        replace h := h.below (hb5.mono (by omega))
        replace T := bt T hb5
        go_wp2
        go_ret
        exact ⟨rfl, T⟩
end Go.Proofs.Ytoelajocacpmgaa
