/-
  WALK: the law FnJoin.
-/
import Derived.Test.YtoelajocacpmgaaLawJoinP
import Derived.Test.YtoelajocacpmgaaJoinI
import Derived.Test.YtoelajocacpmgaaSpecPart
import Derived.Test.YtoelajocacpmgaaDrawJoin
import Derived.Test.YtoelajocacpmgaaLawInts
namespace Go.Proofs.Ytoelajocacpmgaa
set_option linter.unusedVariables false
set_option linter.unusedSimpArgs false
open Go.RowKit

set_option maxRecDepth 100000 in
set_option maxHeartbeats 4000000 in
theorem walk_FnJoin (w0 : World) (A0 : Option Addr) (len0 cap0 : Nat) (bs0 : List Int) (i0 : IsList .u8 w0 A0 len0 cap0 bs0) :
    Calls Try.prog 14 #[.slice A0 len0 cap0] w0 fun e w' => e = .returned (.bool true) ∧ Below w0.heap.size w0 w' := by
  have hB0 := hide (IsList.byts i0)
  obtain ⟨rfl, hbc0, hbm0, -⟩ := i0
  unfold maxLen at hbm0
  by_cases big0 : (1048576 : Int) < (bs0.length : Int)
  · go_enter Try.func14, Try.ntmps14
    go_wp2
    go_ret
    exact ⟨rfl, Below.refl _ _⟩
  · skip
    have T := Below.refl w0.heap.size w0
    go_enter Try.func14, Try.ntmps14
    go_wp2_with fail
    (with_reducible refine (drawFloorJoin_any A0 bs0 cap0 w0 hB0.out hbc0 hbm0).mono ?_)
    rintro e w1 ⟨D0, cD0, x, E0, cE0, y, rfl, ⟨hcD0, hdD0⟩, ⟨hcE0, hdE0⟩, hbx, hby, d0, e0, hb1⟩
    have sz1 := hb1.size
    replace T := bt T hb1
    have hxl : x.length ≤ 17 := hbx.1
    have hn : x.length ≤ 1048576 := by omega
    have hyl : y.length ≤ 17 := hby.1
    have hny : y.length ≤ 1048576 := by omega
    have hjl : (join x y).length ≤ 40 := by have := join_le x y; omega
    clear hbx hby
    by_cases hf : joinOk x y = true
    · have HF := hide hf
      obtain ⟨⟨g1, g2⟩, -, g4⟩ := joinOk_iff.1 hf
      have l1 := floorOk_len g1
      have l2 := floorOk_len g2
      obtain ⟨p1, p2, p3, p4, p5⟩ := join_law hf
      obtain ⟨m, hm⟩ : ∃ m, m = x.length - 1 := ⟨_, rfl⟩
      obtain ⟨n, hnn⟩ : ∃ n, n = y.length - 1 := ⟨_, rfl⟩
      obtain ⟨mn, hmn⟩ : ∃ mn, mn = m + n := ⟨_, rfl⟩
      rw [← hm, ← hnn, ← hmn] at p2 p4 p5
      rw [← hm] at p1 p3
      have P1 := hide p1
      have P2 := hide p2
      have P3 := hide p3
      have P4 := hide p4
      have HM := hide (show (x.length : Int) - 1 = (m : Int) by omega)
      have HN := hide (show (y.length : Int) - 1 = (n : Int) by omega)
      have HMN := hide (show (m : Int) + (n : Int) = (mn : Int) by omega)
      have b1 := hide (show (floorLen (join x y) 0 (mn : Int) == floorLen x 0 (m : Int) + floorLen y 0 (n : Int)) = true by rw [p5]; simp)
      have q1 := floorLen_le g1 (a := 0) (b := m) (by omega) (by omega)
      have q2 := floorLen_le g2 (a := 0) (b := n) (by omega) (by omega)
      rw [show ((0 : Nat) : Int) = 0 from rfl] at q1 q2
      have q3 : 0 ≤ floorLen x 0 (m : Int) := by omega
      have q4 : floorLen x 0 (m : Int) ≤ 1000 := by omega
      have q5 : 0 ≤ floorLen y 0 (n : Int) := by omega
      have q6 : floorLen y 0 (n : Int) ≤ 1000 := by omega
      have z1 : m ≤ 17 := by omega
      have z2 : n ≤ 17 := by omega
      clear p1 p2 p3 p4 p5 q1 q2 hf g1 g2 g4 hm hnn hmn
      go_wp2_with fail
      (with_reducible refine (floorJoin_any _ _ x y _ _ _ (d0.ints.mono (by omega)) (e0.ints.mono (by omega)) hn hny hcD0 hdD0 hcE0 hdE0).mono ?_)
      rintro e w2 ⟨Bg, cg, rfl, hcg, hdg, g, hb2⟩
      have sz2 := hb2.size
      replace d0 := d0.below (hb2.mono (by omega))
      replace e0 := e0.below (hb2.mono (by omega))
      replace T := bt T hb2
      rw [HF.out]
      go_wp2_with fail
      (with_reducible refine (specFloorJoin_any _ _ x y _ _ _ (d0.ints.mono (by omega)) (e0.ints.mono (by omega)) hn hny hcD0 hdD0 hcE0 hdE0).mono ?_)
      rintro e w3 ⟨Bh, ch, rfl, hch, hdh, h, hb3⟩
      have sz3 := hb3.size
      replace d0 := d0.below (hb3.mono (by omega))
      replace e0 := e0.below (hb3.mono (by omega))
      replace g := g.below (hb3.mono (by omega))
      replace T := bt T hb3
      rw [HF.out]
      go_wp2_with fail
      (with_reducible refine (sameInts_same _ _ (join x y) _ _ _ (g.ints.mono (by omega)) (h.ints.mono (by omega)) (by omega)).mono ?_)
      rintro e w4 ⟨rfl, hb4⟩
      have sz4 := hb4.size
      replace d0 := d0.below (hb4.mono (by omega))
      replace e0 := e0.below (hb4.mono (by omega))
      replace g := g.below (hb4.mono (by omega))
      replace h := h.below (hb4.mono (by omega))
      replace T := bt T hb4
      go_wp2_with fail
      rw [HM.out, HN.out]
      (with_reducible refine (floorPart_any _ (join x y) _ 0 (m : Int) _ (g.ints.mono (by omega)) (by omega) hcg hdg).mono ?_)
      rintro e w5 ⟨Bu, cu, rfl, hcu, hdu, u, hb5⟩
      have sz5 := hb5.size
      replace d0 := d0.below (hb5.mono (by omega))
      replace e0 := e0.below (hb5.mono (by omega))
      replace g := g.below (hb5.mono (by omega))
      replace h := h.below (hb5.mono (by omega))
      replace T := bt T hb5
      rw [P3.out] at u hcu ⊢
      rw [P1.out]
      go_wp2_with fail
      rw [HMN.out]
      (with_reducible refine (floorPart_any _ (join x y) _ (m : Int) (mn : Int) _ (g.ints.mono (by omega)) (by omega) hcg hdg).mono ?_)
      rintro e w6 ⟨Bv, cv, rfl, hcv, hdv, v, hb6⟩
      have sz6 := hb6.size
      replace d0 := d0.below (hb6.mono (by omega))
      replace e0 := e0.below (hb6.mono (by omega))
      replace g := g.below (hb6.mono (by omega))
      replace h := h.below (hb6.mono (by omega))
      replace u := u.below (hb6.mono (by omega))
      replace T := bt T hb6
      rw [P4.out] at v hcv ⊢
      rw [P2.out]
      go_wp2_with fail
      (with_reducible refine (sameInts_same _ _ (x) _ _ _ (u.ints.mono (by omega)) (d0.ints.mono (by omega)) (by omega)).mono ?_)
      rintro e w7 ⟨rfl, hb7⟩
      have sz7 := hb7.size
      replace d0 := d0.below (hb7.mono (by omega))
      replace e0 := e0.below (hb7.mono (by omega))
      replace g := g.below (hb7.mono (by omega))
      replace h := h.below (hb7.mono (by omega))
      replace u := u.below (hb7.mono (by omega))
      replace v := v.below (hb7.mono (by omega))
      replace T := bt T hb7
      go_wp2_with fail
      (with_reducible refine (sameInts_same _ _ (y) _ _ _ (v.ints.mono (by omega)) (e0.ints.mono (by omega)) (by omega)).mono ?_)
      rintro e w8 ⟨rfl, hb8⟩
      have sz8 := hb8.size
      replace d0 := d0.below (hb8.mono (by omega))
      replace e0 := e0.below (hb8.mono (by omega))
      replace g := g.below (hb8.mono (by omega))
      replace h := h.below (hb8.mono (by omega))
      replace u := u.below (hb8.mono (by omega))
      replace v := v.below (hb8.mono (by omega))
      replace T := bt T hb8
      go_wp2_with fail
      try rw [HMN.out]
      (with_reducible refine (floorLength_any _ (join x y) _ 0 (mn : Int) _ (g.ints.mono (by omega)) (by omega) hcg hdg).mono ?_)
      rintro e w9 ⟨rfl, hb9⟩
      have sz9 := hb9.size
      replace d0 := d0.below (hb9.mono (by omega))
      replace e0 := e0.below (hb9.mono (by omega))
      replace g := g.below (hb9.mono (by omega))
      replace h := h.below (hb9.mono (by omega))
      replace u := u.below (hb9.mono (by omega))
      replace v := v.below (hb9.mono (by omega))
      replace T := bt T hb9
      go_wp2_with fail
      (with_reducible refine (floorLength_any _ x _ 0 (m : Int) _ (d0.ints.mono (by omega)) hn hcD0 hdD0).mono ?_)
      rintro e w10 ⟨rfl, hb10⟩
      have sz10 := hb10.size
      replace d0 := d0.below (hb10.mono (by omega))
      replace e0 := e0.below (hb10.mono (by omega))
      replace g := g.below (hb10.mono (by omega))
      replace h := h.below (hb10.mono (by omega))
      replace u := u.below (hb10.mono (by omega))
      replace v := v.below (hb10.mono (by omega))
      replace T := bt T hb10
      go_wp2_with fail
      (with_reducible refine (floorLength_any _ y _ 0 (n : Int) _ (e0.ints.mono (by omega)) hny hcE0 hdE0).mono ?_)
      rintro e w11 ⟨rfl, hb11⟩
      have sz11 := hb11.size
      replace d0 := d0.below (hb11.mono (by omega))
      replace e0 := e0.below (hb11.mono (by omega))
      replace g := g.below (hb11.mono (by omega))
      replace h := h.below (hb11.mono (by omega))
      replace u := u.below (hb11.mono (by omega))
      replace v := v.below (hb11.mono (by omega))
      replace T := bt T hb11
      have b1' := b1.out
      go_wp2
      go_ret
      exact ⟨rfl, T⟩
    · have hf' : joinOk x y = false := by simpa using hf
      have HF := hide hf'
      clear hf hf'
      go_wp2_with fail
      (with_reducible refine (floorJoin_any _ _ x y _ _ _ (d0.ints.mono (by omega)) (e0.ints.mono (by omega)) hn hny hcD0 hdD0 hcE0 hdE0).mono ?_)
      rintro e w2 ⟨Bg, cg, rfl, hcg, hdg, g, hb2⟩
      have sz2 := hb2.size
      replace d0 := d0.below (hb2.mono (by omega))
      replace e0 := e0.below (hb2.mono (by omega))
      replace T := bt T hb2
      rw [HF.out]
      go_wp2_with fail
      (with_reducible refine (specFloorJoin_any _ _ x y _ _ _ (d0.ints.mono (by omega)) (e0.ints.mono (by omega)) hn hny hcD0 hdD0 hcE0 hdE0).mono ?_)
      rintro e w3 ⟨Bh, ch, rfl, hch, hdh, h, hb3⟩
      have sz3 := hb3.size
      replace d0 := d0.below (hb3.mono (by omega))
      replace e0 := e0.below (hb3.mono (by omega))
      replace g := g.below (hb3.mono (by omega))
      replace T := bt T hb3
      rw [HF.out]
      go_wp2_with fail
      (with_reducible refine (sameInts_same _ _ (join x y) _ _ _ (g.ints.mono (by omega)) (h.ints.mono (by omega)) (by omega)).mono ?_)
      rintro e w4 ⟨rfl, hb4⟩
      have sz4 := hb4.size
      replace d0 := d0.below (hb4.mono (by omega))
      replace e0 := e0.below (hb4.mono (by omega))
      replace g := g.below (hb4.mono (by omega))
      replace h := h.below (hb4.mono (by omega))
      replace T := bt T hb4
      go_wp2_with fail
      (with_reducible refine (sameInts_same _ _ (join x y) _ _ _ (g.ints.mono (by omega)) (h.ints.mono (by omega)) (by omega)).mono ?_)
      rintro e w5 ⟨rfl, hb5⟩
      have sz5 := hb5.size
      replace d0 := d0.below (hb5.mono (by omega))
      replace e0 := e0.below (hb5.mono (by omega))
      replace g := g.below (hb5.mono (by omega))
      replace h := h.below (hb5.mono (by omega))
      replace T := bt T hb5
      go_wp2
      go_ret
      exact ⟨rfl, T⟩
end Go.Proofs.Ytoelajocacpmgaa
