/-
  WALK: the law FnCableBack.
-/
import Derived.Test.YtglknakgfnoeaaaLawCableP
import Derived.Test.YtglknakgfnoeaaaDrawsCable
import Derived.Test.YtglknakgfnoeaaaLawSecs
import Derived.Test.YtglknakgfnoeaaaSpecPlain
namespace Go.Proofs.Ytglknakgfnoeaaa
set_option linter.unusedVariables false
set_option linter.unusedSimpArgs false
open Go.RowKit

set_option maxRecDepth 100000 in
set_option maxHeartbeats 4000000 in
theorem walk_FnCableBack (w0 : World) (A0 : Option Addr) (len0 cap0 : Nat) (bs0 : List Int) (i0 : IsList .u8 w0 A0 len0 cap0 bs0) :
    Calls Try.prog 3 #[.slice A0 len0 cap0] w0 fun e w' => e = .returned (.bool true) ∧ Below w0.heap.size w0 w' := by
  have hB0 := hide (IsList.byts i0)
  obtain ⟨rfl, hbc0, hbm0, -⟩ := i0
  unfold maxLen at hbm0
  by_cases big0 : (1048576 : Int) < (bs0.length : Int)
  · go_enter Try.func3, Try.ntmps3
    go_wp2
    go_ret
    exact ⟨rfl, Below.refl _ _⟩
  · skip
    have T := Below.refl w0.heap.size w0
    go_enter Try.func3, Try.ntmps3
    go_wp2_with fail
    (with_reducible refine (drawCableBack_any A0 bs0 cap0 w0 hB0.out hbc0 hbm0).mono ?_)
    rintro e w1 ⟨D0, cD0, f, n, rfl, hlf, hcD0, hdD0, hn11, d0, hb1⟩
    have sz1 := hb1.size
    replace T := bt T hb1
    have hn : n ≤ 1048576 := by omega
    have hcN : cbackN f n ≤ 11 := by unfold cbackN; split <;> omega
    by_cases hf : cableOk f n = true
    · have HF := hide hf
      obtain ⟨e1, e2⟩ := cback_eq hf
      obtain ⟨G, hG⟩ : ∃ G, G = upto (backC f n) (n * 3) := ⟨_, rfl⟩
      have E1 := hide (show cback f n = G by rw [e1, hG])
      have E2 := hide e2
      have hGl : G.length = n * 3 := by rw [hG, upto_length]
      have HG := hide (show cableOk G n = true by rw [hG]; exact cableOk_back hf)
      have X1 := hide (show cback G n = f by rw [(cback_eq HG.out).1, hG]; exact back_back hlf)
      have X2 := hide (show cbackN G n = n from (cback_eq HG.out).2)
      have HQ := hide (show plainOk G n = plainOk f n by rw [hG]; exact plainOk_back hf)
      have HPL := hide (show plL G n = (plL f n).reverse by rw [hG]; exact plL_back)
      have hpf := plainN_le (fl := f) (Nat.le_refl n)
      have hpg := plainN_le (fl := G) (Nat.le_refl n)
      clear hf e1 e2 hG
      go_wp2_with fail
      (with_reducible refine (cableBack_any _ f n _ _ hlf (d0.ints.mono (by omega)) hn).mono ?_)
      rintro e w2 ⟨Bg, cg, rfl, hlg, hcg, hdg, g, hb2⟩
      have sz2 := hb2.size
      replace d0 := d0.below (hb2.mono (by omega))
      replace T := bt T hb2
      rw [HF.out]
      go_wp2_with fail
      (with_reducible refine (specCableBack_any _ f n _ _ hlf (d0.ints.mono (by omega)) hn).mono ?_)
      rintro e w3 ⟨Bh, ch, rfl, hlh, hch, hdh, h, hb3⟩
      have sz3 := hb3.size
      replace d0 := d0.below (hb3.mono (by omega))
      replace g := g.below (hb3.mono (by omega))
      replace T := bt T hb3
      rw [HF.out]
      go_wp2_with fail
      (with_reducible refine (sameSections_same _ _ (cback f n) (cbackN f n) _ _ _ hlg (g.ints.mono (by omega)) (h.ints.mono (by omega)) (by omega)).mono ?_)
      rintro e w4 ⟨rfl, hb4⟩
      have sz4 := hb4.size
      replace d0 := d0.below (hb4.mono (by omega))
      replace g := g.below (hb4.mono (by omega))
      replace h := h.below (hb4.mono (by omega))
      replace T := bt T hb4
      rw [E1.out, E2.out] at hlg
      rw [E1.out] at g
      rw [E2.out] at hcg ⊢
      go_wp2_with fail
      (with_reducible refine (cableBack_any _ G n _ _ hlg (g.ints.mono (by omega)) hn).mono ?_)
      rintro e w5 ⟨Bx, cx, rfl, hlx, hcx, hdx, x, hb5⟩
      have sz5 := hb5.size
      replace d0 := d0.below (hb5.mono (by omega))
      replace g := g.below (hb5.mono (by omega))
      replace h := h.below (hb5.mono (by omega))
      replace T := bt T hb5
      rw [X1.out, X2.out] at hlx
      rw [X1.out] at x
      rw [X2.out] at hcx ⊢
      rw [HG.out]
      go_wp2_with fail
      (with_reducible refine (cablePlain_any _ f n _ _ hlf (d0.ints.mono (by omega)) hn).mono ?_)
      rintro e w6 ⟨Ba, ca, rfl, hla, hca, hda, a, hb6⟩
      have sz6 := hb6.size
      replace d0 := d0.below (hb6.mono (by omega))
      replace g := g.below (hb6.mono (by omega))
      replace h := h.below (hb6.mono (by omega))
      replace x := x.below (hb6.mono (by omega))
      replace T := bt T hb6
      go_wp2_with fail
      (with_reducible refine (cablePlain_any _ G n _ _ hlg (g.ints.mono (by omega)) hn).mono ?_)
      rintro e w7 ⟨Bb, cb, rfl, hlb, hcb, hdb, b, hb7⟩
      have sz7 := hb7.size
      replace d0 := d0.below (hb7.mono (by omega))
      replace g := g.below (hb7.mono (by omega))
      replace h := h.below (hb7.mono (by omega))
      replace x := x.below (hb7.mono (by omega))
      replace a := a.below (hb7.mono (by omega))
      replace T := bt T hb7
      rw [HQ.out]
      go_wp2_with fail
      (with_reducible refine (cableBack_any _ (plain f n) (plainN f n) _ _ hla (a.ints.mono (by omega)) (by omega)).mono ?_)
      rintro e w8 ⟨Bc, cc, rfl, hlc, hcc, hdc, c, hb8⟩
      have sz8 := hb8.size
      replace d0 := d0.below (hb8.mono (by omega))
      replace g := g.below (hb8.mono (by omega))
      replace h := h.below (hb8.mono (by omega))
      replace x := x.below (hb8.mono (by omega))
      replace a := a.below (hb8.mono (by omega))
      replace b := b.below (hb8.mono (by omega))
      replace T := bt T hb8
      by_cases hq : plainOk f n = true
      · skip
        obtain ⟨-, p2, p3, p4⟩ := plain_parts hq
        obtain ⟨-, q2, q3, q4⟩ := plain_parts (HQ.out.trans hq)
        rw [HPL.out] at q2 q3
        rw [List.length_reverse] at q3
        have HC := hide (show cableOk (plain f n) (plainN f n) = true by rw [p2, p3]; exact p4)
        have C1 := hide (show cback (plain f n) (plainN f n) = flatS (plL f n).reverse by rw [(cback_eq HC.out).1, p2, p3]; exact back_flat _)
        have C2 := hide (show cbackN (plain f n) (plainN f n) = (plL f n).length by rw [(cback_eq HC.out).2, p3])
        have Q2 := hide q2
        have Q3 := hide q3
        have HQ2 := hide hq
        rw [C1.out, C2.out] at hlc
        rw [C1.out] at c
        rw [C2.out] at hcc ⊢
        rw [Q2.out, Q3.out] at hlb
        rw [Q2.out] at b
        rw [Q3.out] at hcb ⊢
        have hP : (plL f n).length ≤ n := plL_len f n
        rw [HC.out, HQ2.out]
        clear hq p2 p3 p4 q2 q3 q4
        go_wp2_with fail
        (with_reducible refine (sameSections_same _ _ (f) (n) _ _ _ hlf (x.ints.mono (by omega)) (d0.ints.mono (by omega)) (by omega)).mono ?_)
        rintro e w9 ⟨rfl, hb9⟩
        have sz9 := hb9.size
        replace d0 := d0.below (hb9.mono (by omega))
        replace g := g.below (hb9.mono (by omega))
        replace h := h.below (hb9.mono (by omega))
        replace x := x.below (hb9.mono (by omega))
        replace a := a.below (hb9.mono (by omega))
        replace b := b.below (hb9.mono (by omega))
        replace c := c.below (hb9.mono (by omega))
        replace T := bt T hb9
        go_wp2_with fail
        (with_reducible refine (sameSections_same _ _ (flatS (plL f n).reverse) ((plL f n).length) _ _ _ hlc (c.ints.mono (by omega)) (b.ints.mono (by omega)) (by omega)).mono ?_)
        rintro e w10 ⟨rfl, hb10⟩
        have sz10 := hb10.size
        replace d0 := d0.below (hb10.mono (by omega))
        replace g := g.below (hb10.mono (by omega))
        replace h := h.below (hb10.mono (by omega))
        replace x := x.below (hb10.mono (by omega))
        replace a := a.below (hb10.mono (by omega))
        replace b := b.below (hb10.mono (by omega))
        replace c := c.below (hb10.mono (by omega))
        replace T := bt T hb10
        go_wp2
        go_ret
        exact ⟨rfl, T⟩
      · have hq' : plainOk f n = false := by simpa using hq
        have HQ2 := hide hq'
        clear hq hq'
        rw [HQ2.out]
        go_wp2_with fail
        (with_reducible refine (sameSections_same _ _ (f) (n) _ _ _ hlf (x.ints.mono (by omega)) (d0.ints.mono (by omega)) (by omega)).mono ?_)
        rintro e w9 ⟨rfl, hb9⟩
        have sz9 := hb9.size
        replace d0 := d0.below (hb9.mono (by omega))
        replace g := g.below (hb9.mono (by omega))
        replace h := h.below (hb9.mono (by omega))
        replace x := x.below (hb9.mono (by omega))
        replace a := a.below (hb9.mono (by omega))
        replace b := b.below (hb9.mono (by omega))
        replace c := c.below (hb9.mono (by omega))
        replace T := bt T hb9
        go_wp2
        go_ret
        exact ⟨rfl, T⟩
    · have hf' : cableOk f n = false := by simpa using hf
      have HF := hide hf'
      clear hf hf'
      go_wp2_with fail
      (with_reducible refine (cableBack_any _ f n _ _ hlf (d0.ints.mono (by omega)) hn).mono ?_)
      rintro e w2 ⟨Bg, cg, rfl, hlg, hcg, hdg, g, hb2⟩
      have sz2 := hb2.size
      replace d0 := d0.below (hb2.mono (by omega))
      replace T := bt T hb2
      rw [HF.out]
      go_wp2_with fail
      (with_reducible refine (specCableBack_any _ f n _ _ hlf (d0.ints.mono (by omega)) hn).mono ?_)
      rintro e w3 ⟨Bh, ch, rfl, hlh, hch, hdh, h, hb3⟩
      have sz3 := hb3.size
      replace d0 := d0.below (hb3.mono (by omega))
      replace g := g.below (hb3.mono (by omega))
      replace T := bt T hb3
      rw [HF.out]
      go_wp2_with fail
      (with_reducible refine (sameSections_same _ _ (cback f n) (cbackN f n) _ _ _ hlg (g.ints.mono (by omega)) (h.ints.mono (by omega)) (by omega)).mono ?_)
      rintro e w4 ⟨rfl, hb4⟩
      have sz4 := hb4.size
      replace d0 := d0.below (hb4.mono (by omega))
      replace g := g.below (hb4.mono (by omega))
      replace h := h.below (hb4.mono (by omega))
      replace T := bt T hb4
      go_wp2_with fail
      (with_reducible refine (sameSections_same _ _ (cback f n) (cbackN f n) _ _ _ hlg (g.ints.mono (by omega)) (h.ints.mono (by omega)) (by omega)).mono ?_)
      rintro e w5 ⟨rfl, hb5⟩
      have sz5 := hb5.size
      replace d0 := d0.below (hb5.mono (by omega))
      replace g := g.below (hb5.mono (by omega))
      replace h := h.below (hb5.mono (by omega))
      replace T := bt T hb5
      go_wp2
      go_ret
      exact ⟨rfl, T⟩
end Go.Proofs.Ytglknakgfnoeaaa
