/-
  WALK: the law FnExactCablePlain.
-/
import Derived.Test.YtlhmpecoboeoaaaSpecPlain
import Derived.Test.YtlhmpecoboeoaaaSecMark
namespace Go.Proofs.Ytlhmpecoboeoaaa
set_option linter.unusedVariables false
set_option linter.unusedSimpArgs false
open Go.RowKit

set_option maxRecDepth 100000 in
set_option maxHeartbeats 4000000 in
theorem walk_FnExactCablePlain (w0 : World) (A0 : Option Addr) (len0 cap0 : Nat) (x0 : List Int) (i0 : IsSecs w0 A0 len0 cap0 x0) :
    Calls Try.prog 7 #[.slice A0 len0 cap0] w0 fun e w' => e = .returned (.bool true) ∧ Below w0.heap.size w0 w' := by
  have o0 := i0.ints
  obtain ⟨hl0, hlc0, hm0, -, -⟩ := i0
  unfold maxLen at hm0
  have T := Below.refl w0.heap.size w0
  go_enter Try.func7, Try.ntmps7
  go_wp2_with fail
  (with_reducible refine (szSectionS_any _ len0 _ (1048576) _ (by omega) (by omega) (by omega)).mono ?_)
  rintro e w' ⟨rfl, rfl⟩
  by_cases big0 : (1048576 : Int) < (len0 : Int)
  · rw [if_pos big0]
    go_wp2
    go_ret
    exact ⟨rfl, T⟩
  · rw [if_neg big0]
    have hn0 : len0 ≤ 1048576 := by omega
    have hN : plainN x0 len0 ≤ 4194304 := plainN_le (by omega)
    go_wp2_with fail
    (with_reducible refine (toSectionS_any _ x0 len0 _ _ hl0 ((o0.below T).mono T.size) hn0).mono ?_)
    rintro e w1 ⟨Bs0, cs0, rfl, hcs0, hds0, s0, hb1⟩
    have sz1 := hb1.size
    replace T := bt T hb1
    go_wp2_with fail
    (with_reducible refine (specCablePlain_any _ x0 len0 _ _ hl0 (s0.ints.mono (by omega)) hn0).mono ?_)
    rintro e w2 ⟨Bfw, cfw, rfl, hlfw, hcfw, hdfw, fw, hb2⟩
    have sz2 := hb2.size
    replace s0 := s0.below (hb2.mono (by omega))
    replace T := bt T hb2
    clear s0
    go_wp2_with fail
    (with_reducible refine (toSectionS_any _ x0 len0 _ _ hl0 ((o0.below T).mono T.size) hn0).mono ?_)
    rintro e w3 ⟨By0, cy0, rfl, hcy0, hdy0, y0, hb3⟩
    have sz3 := hb3.size
    replace fw := fw.below (hb3.mono (by omega))
    replace T := bt T hb3
    go_wp2_with fail
    (with_reducible refine (cablePlain_any _ x0 len0 _ _ hl0 (y0.ints.mono (by omega)) hn0).mono ?_)
    rintro e w4 ⟨Bfg, cfg, rfl, hlfg, hcfg, hdfg, fg, hb4⟩
    have sz4 := hb4.size
    replace fw := fw.below (hb4.mono (by omega))
    replace y0 := y0.below (hb4.mono (by omega))
    replace T := bt T hb4
    go_wp2_with fail
    (with_reducible refine (eqSectionS_same _ _ (plain x0 len0) (plainN x0 len0) _ _ _ hlfw (fg.ints.mono (by omega)) (fw.ints.mono (by omega)) (by omega)).mono ?_)
    rintro e w5 ⟨rfl, hb5⟩
    have sz5 := hb5.size
    replace fw := fw.below (hb5.mono (by omega))
    replace y0 := y0.below (hb5.mono (by omega))
    replace fg := fg.below (hb5.mono (by omega))
    replace T := bt T hb5
    go_wp2_with fail
    (with_reducible refine (toSectionS_any _ x0 len0 _ _ hl0 ((o0.below T).mono T.size) hn0).mono ?_)
    rintro e w6 ⟨Bz0, cz0, rfl, hcz0, hdz0, z0, hb6⟩
    have sz6 := hb6.size
    replace fw := fw.below (hb6.mono (by omega))
    replace y0 := y0.below (hb6.mono (by omega))
    replace fg := fg.below (hb6.mono (by omega))
    replace T := bt T hb6
    go_wp2_with fail
    (with_reducible refine (eqSectionS_same _ _ (x0) (len0) _ _ _ hl0 (y0.ints.mono (by omega)) (z0.ints.mono (by omega)) (by omega)).mono ?_)
    rintro e w7 ⟨rfl, hb7⟩
    have sz7 := hb7.size
    replace fw := fw.below (hb7.mono (by omega))
    replace y0 := y0.below (hb7.mono (by omega))
    replace fg := fg.below (hb7.mono (by omega))
    replace z0 := z0.below (hb7.mono (by omega))
    replace T := bt T hb7
    clear z0
    go_wp2_with fail
    (with_reducible refine (markSectionS_any (w2.heap.size) (w3.heap.size) _ x0 len0 _ _ _ hl0 y0 (by omega) (by omega) (by omega) (by omega)).mono ?_)
    rintro e w8 hm8
    obtain rfl := hm8.1
    replace fw := Ints.marked hm8 fw (by omega) (by omega)
    replace fg := Ints.marked hm8 fg (by omega) (by omega)
    have sz8 := hm8.2.2.1
    replace T := T.trans (hm8.below (by omega) (by omega))
    replace y0 := hm8.2.1
    go_wp2_with fail
    (with_reducible refine (eqSectionS_same _ _ (plain x0 len0) (plainN x0 len0) _ _ _ hlfw (fg.ints.mono (by omega)) (fw.ints.mono (by omega)) (by omega)).mono ?_)
    rintro e w9 ⟨rfl, hb9⟩
    have sz9 := hb9.size
    replace fw := fw.below (hb9.mono (by omega))
    replace y0 := y0.below (hb9.mono (by omega))
    replace fg := fg.below (hb9.mono (by omega))
    replace T := bt T hb9
    go_wp2_with fail
    (with_reducible refine (markSectionS_any (w3.heap.size) (w4.heap.size) _ (plain x0 len0) (plainN x0 len0) _ 1 _ hlfw fg (by omega) (by omega) (by omega) (by omega)).mono ?_)
    rintro e w10 hm10
    obtain rfl := hm10.1
    replace fw := Ints.marked hm10 fw (by omega) (by omega)
    replace y0 := Ints.marked hm10 y0 (by omega) (by omega)
    have sz10 := hm10.2.2.1
    replace T := T.trans (hm10.below (by omega) (by omega))
    replace fg := hm10.2.1
    go_wp2_with fail
    (with_reducible refine (heldSectionS_any _ (plainN x0 len0) _ 1 _ (fg.ints.mono (by omega)) (by omega) (by omega) (by omega)).mono ?_)
    rintro e w' ⟨rfl, rfl⟩
    go_wp2_with fail
    (with_reducible refine (toSectionS_any _ x0 len0 _ _ hl0 ((o0.below T).mono T.size) hn0).mono ?_)
    rintro e w11 ⟨Bv0, cv0, rfl, hcv0, hdv0, v0, hb11⟩
    have sz11 := hb11.size
    replace fw := fw.below (hb11.mono (by omega))
    replace y0 := y0.below (hb11.mono (by omega))
    replace fg := fg.below (hb11.mono (by omega))
    replace T := bt T hb11
    go_wp2_with fail
    (with_reducible refine (cablePlain_any _ x0 len0 _ _ hl0 (v0.ints.mono (by omega)) hn0).mono ?_)
    rintro e w12 ⟨Bfh, cfh, rfl, hlfh, hcfh, hdfh, fh, hb12⟩
    have sz12 := hb12.size
    replace fw := fw.below (hb12.mono (by omega))
    replace y0 := y0.below (hb12.mono (by omega))
    replace fg := fg.below (hb12.mono (by omega))
    replace v0 := v0.below (hb12.mono (by omega))
    replace T := bt T hb12
    go_wp2_with fail
    (with_reducible refine (eqSectionS_same _ _ (plain x0 len0) (plainN x0 len0) _ _ _ hlfw (fh.ints.mono (by omega)) (fw.ints.mono (by omega)) (by omega)).mono ?_)
    rintro e w13 ⟨rfl, hb13⟩
    have sz13 := hb13.size
    replace fw := fw.below (hb13.mono (by omega))
    replace y0 := y0.below (hb13.mono (by omega))
    replace fg := fg.below (hb13.mono (by omega))
    replace v0 := v0.below (hb13.mono (by omega))
    replace fh := fh.below (hb13.mono (by omega))
    replace T := bt T hb13
    go_wp2_with fail
    (with_reducible refine (heldSectionS_any _ (plainN x0 len0) _ 1 _ (fg.ints.mono (by omega)) (by omega) (by omega) (by omega)).mono ?_)
    rintro e w' ⟨rfl, rfl⟩
    go_wp2
    go_ret
    exact ⟨rfl, T⟩
end Go.Proofs.Ytlhmpecoboeoaaa
