/-
  WALK: the law FnExactCableSplice.
-/
import Derived.Test.YtlhmpecoboeoaaaSplice
import Derived.Test.YtlhmpecoboeoaaaSecMark
namespace Go.Proofs.Ytlhmpecoboeoaaa
set_option linter.unusedVariables false
set_option linter.unusedSimpArgs false
open Go.RowKit

set_option maxRecDepth 100000 in
set_option maxHeartbeats 4000000 in
theorem walk_FnExactCableSplice (w0 : World) (A0 : Option Addr) (len0 cap0 : Nat) (x0 : List Int) (i0 : IsSecs w0 A0 len0 cap0 x0) (A1 : Option Addr) (len1 cap1 : Nat) (x1 : List Int) (i1 : IsSecs w0 A1 len1 cap1 x1) :
    Calls Try.prog 12 #[.slice A0 len0 cap0, .slice A1 len1 cap1] w0 fun e w' => e = .returned (.bool true) ∧ Below w0.heap.size w0 w' := by
  have o0 := i0.ints
  obtain ⟨hl0, hlc0, hm0, -, -⟩ := i0
  unfold maxLen at hm0
  have o1 := i1.ints
  obtain ⟨hl1, hlc1, hm1, -, -⟩ := i1
  unfold maxLen at hm1
  have T := Below.refl w0.heap.size w0
  go_enter Try.func12, Try.ntmps12
  go_wp2_with fail
  (with_reducible refine (szSectionS_any _ len0 _ (1048576) _ (by omega) (by omega) (by omega)).mono ?_)
  rintro e w' ⟨rfl, rfl⟩
  by_cases big0 : (1048576 : Int) < (len0 : Int)
  · rw [if_pos big0]
    go_wp2
    go_ret
    exact ⟨rfl, T⟩
  · rw [if_neg big0]
    have hn0 : len0 ≤ 1048576 := by omega
    go_wp2_with fail
    (with_reducible refine (szSectionS_any _ len1 _ (1048576 - (len0 : Int)) _ (by omega) (by omega) (by omega)).mono ?_)
    rintro e w' ⟨rfl, rfl⟩
    by_cases big1 : (1048576 - (len0 : Int) : Int) < (len1 : Int)
    · rw [if_pos big1]
      go_wp2
      go_ret
      exact ⟨rfl, T⟩
    · rw [if_neg big1]
      have hn1 : len1 ≤ 1048576 := by omega
      have hN : spliceN x0 x1 len0 len1 ≤ 4194304 := by unfold spliceN; split <;> omega
      go_wp2_with fail
      (with_reducible refine (toSectionS_any _ x0 len0 _ _ hl0 ((o0.below T).mono T.size) hn0).mono ?_)
      rintro e w1 ⟨Bs0, cs0, rfl, hcs0, hds0, s0, hb1⟩
      have sz1 := hb1.size
      replace T := bt T hb1
      go_wp2_with fail
      (with_reducible refine (toSectionS_any _ x1 len1 _ _ hl1 ((o1.below T).mono T.size) hn1).mono ?_)
      rintro e w2 ⟨Bs1, cs1, rfl, hcs1, hds1, s1, hb2⟩
      have sz2 := hb2.size
      replace s0 := s0.below (hb2.mono (by omega))
      replace T := bt T hb2
      go_wp2_with fail
      (with_reducible refine (specCableSplice_any _ _ x0 x1 len0 len1 _ _ _ hl0 hl1 (s0.ints.mono (by omega)) (s1.ints.mono (by omega)) hn0 hn1).mono ?_)
      rintro e w3 ⟨Bfw, cfw, rfl, hlfw, hcfw, hdfw, fw, hb3⟩
      have sz3 := hb3.size
      replace s0 := s0.below (hb3.mono (by omega))
      replace s1 := s1.below (hb3.mono (by omega))
      replace T := bt T hb3
      clear s0
      clear s1
      go_wp2_with fail
      (with_reducible refine (toSectionS_any _ x0 len0 _ _ hl0 ((o0.below T).mono T.size) hn0).mono ?_)
      rintro e w4 ⟨By0, cy0, rfl, hcy0, hdy0, y0, hb4⟩
      have sz4 := hb4.size
      replace fw := fw.below (hb4.mono (by omega))
      replace T := bt T hb4
      go_wp2_with fail
      (with_reducible refine (toSectionS_any _ x1 len1 _ _ hl1 ((o1.below T).mono T.size) hn1).mono ?_)
      rintro e w5 ⟨By1, cy1, rfl, hcy1, hdy1, y1, hb5⟩
      have sz5 := hb5.size
      replace fw := fw.below (hb5.mono (by omega))
      replace y0 := y0.below (hb5.mono (by omega))
      replace T := bt T hb5
      go_wp2_with fail
      (with_reducible refine (cableSplice_any _ _ x0 x1 len0 len1 _ _ _ hl0 hl1 (y0.ints.mono (by omega)) (y1.ints.mono (by omega)) hn0 hn1).mono ?_)
      rintro e w6 ⟨Bfg, cfg, rfl, hlfg, hcfg, hdfg, fg, hb6⟩
      have sz6 := hb6.size
      replace fw := fw.below (hb6.mono (by omega))
      replace y0 := y0.below (hb6.mono (by omega))
      replace y1 := y1.below (hb6.mono (by omega))
      replace T := bt T hb6
      go_wp2_with fail
      (with_reducible refine (eqSectionS_same _ _ (splice x0 x1 len0 len1) (spliceN x0 x1 len0 len1) _ _ _ hlfw (fg.ints.mono (by omega)) (fw.ints.mono (by omega)) (by omega)).mono ?_)
      rintro e w7 ⟨rfl, hb7⟩
      have sz7 := hb7.size
      replace fw := fw.below (hb7.mono (by omega))
      replace y0 := y0.below (hb7.mono (by omega))
      replace y1 := y1.below (hb7.mono (by omega))
      replace fg := fg.below (hb7.mono (by omega))
      replace T := bt T hb7
      go_wp2_with fail
      (with_reducible refine (toSectionS_any _ x0 len0 _ _ hl0 ((o0.below T).mono T.size) hn0).mono ?_)
      rintro e w8 ⟨Bz0, cz0, rfl, hcz0, hdz0, z0, hb8⟩
      have sz8 := hb8.size
      replace fw := fw.below (hb8.mono (by omega))
      replace y0 := y0.below (hb8.mono (by omega))
      replace y1 := y1.below (hb8.mono (by omega))
      replace fg := fg.below (hb8.mono (by omega))
      replace T := bt T hb8
      go_wp2_with fail
      (with_reducible refine (eqSectionS_same _ _ (x0) (len0) _ _ _ hl0 (y0.ints.mono (by omega)) (z0.ints.mono (by omega)) (by omega)).mono ?_)
      rintro e w9 ⟨rfl, hb9⟩
      have sz9 := hb9.size
      replace fw := fw.below (hb9.mono (by omega))
      replace y0 := y0.below (hb9.mono (by omega))
      replace y1 := y1.below (hb9.mono (by omega))
      replace fg := fg.below (hb9.mono (by omega))
      replace z0 := z0.below (hb9.mono (by omega))
      replace T := bt T hb9
      clear z0
      go_wp2_with fail
      (with_reducible refine (toSectionS_any _ x1 len1 _ _ hl1 ((o1.below T).mono T.size) hn1).mono ?_)
      rintro e w10 ⟨Bz1, cz1, rfl, hcz1, hdz1, z1, hb10⟩
      have sz10 := hb10.size
      replace fw := fw.below (hb10.mono (by omega))
      replace y0 := y0.below (hb10.mono (by omega))
      replace y1 := y1.below (hb10.mono (by omega))
      replace fg := fg.below (hb10.mono (by omega))
      replace T := bt T hb10
      go_wp2_with fail
      (with_reducible refine (eqSectionS_same _ _ (x1) (len1) _ _ _ hl1 (y1.ints.mono (by omega)) (z1.ints.mono (by omega)) (by omega)).mono ?_)
      rintro e w11 ⟨rfl, hb11⟩
      have sz11 := hb11.size
      replace fw := fw.below (hb11.mono (by omega))
      replace y0 := y0.below (hb11.mono (by omega))
      replace y1 := y1.below (hb11.mono (by omega))
      replace fg := fg.below (hb11.mono (by omega))
      replace z1 := z1.below (hb11.mono (by omega))
      replace T := bt T hb11
      clear z1
      go_wp2_with fail
      (with_reducible refine (markSectionS_any (w3.heap.size) (w4.heap.size) _ x0 len0 _ _ _ hl0 y0 (by omega) (by omega) (by omega) (by omega)).mono ?_)
      rintro e w12 hm12
      obtain rfl := hm12.1
      replace fw := Ints.marked hm12 fw (by omega) (by omega)
      replace y1 := Ints.marked hm12 y1 (by omega) (by omega)
      replace fg := Ints.marked hm12 fg (by omega) (by omega)
      have sz12 := hm12.2.2.1
      replace T := T.trans (hm12.below (by omega) (by omega))
      replace y0 := hm12.2.1
      go_wp2_with fail
      (with_reducible refine (markSectionS_any (w4.heap.size) (w5.heap.size) _ x1 len1 _ _ _ hl1 y1 (by omega) (by omega) (by omega) (by omega)).mono ?_)
      rintro e w13 hm13
      obtain rfl := hm13.1
      replace fw := Ints.marked hm13 fw (by omega) (by omega)
      replace y0 := Ints.marked hm13 y0 (by omega) (by omega)
      replace fg := Ints.marked hm13 fg (by omega) (by omega)
      have sz13 := hm13.2.2.1
      replace T := T.trans (hm13.below (by omega) (by omega))
      replace y1 := hm13.2.1
      go_wp2_with fail
      (with_reducible refine (eqSectionS_same _ _ (splice x0 x1 len0 len1) (spliceN x0 x1 len0 len1) _ _ _ hlfw (fg.ints.mono (by omega)) (fw.ints.mono (by omega)) (by omega)).mono ?_)
      rintro e w14 ⟨rfl, hb14⟩
      have sz14 := hb14.size
      replace fw := fw.below (hb14.mono (by omega))
      replace y0 := y0.below (hb14.mono (by omega))
      replace y1 := y1.below (hb14.mono (by omega))
      replace fg := fg.below (hb14.mono (by omega))
      replace T := bt T hb14
      go_wp2_with fail
      (with_reducible refine (markSectionS_any (w5.heap.size) (w6.heap.size) _ (splice x0 x1 len0 len1) (spliceN x0 x1 len0 len1) _ 1 _ hlfw fg (by omega) (by omega) (by omega) (by omega)).mono ?_)
      rintro e w15 hm15
      obtain rfl := hm15.1
      replace fw := Ints.marked hm15 fw (by omega) (by omega)
      replace y0 := Ints.marked hm15 y0 (by omega) (by omega)
      replace y1 := Ints.marked hm15 y1 (by omega) (by omega)
      have sz15 := hm15.2.2.1
      replace T := T.trans (hm15.below (by omega) (by omega))
      replace fg := hm15.2.1
      go_wp2_with fail
      (with_reducible refine (heldSectionS_any _ (spliceN x0 x1 len0 len1) _ 1 _ (fg.ints.mono (by omega)) (by omega) (by omega) (by omega)).mono ?_)
      rintro e w' ⟨rfl, rfl⟩
      go_wp2_with fail
      (with_reducible refine (toSectionS_any _ x0 len0 _ _ hl0 ((o0.below T).mono T.size) hn0).mono ?_)
      rintro e w16 ⟨Bv0, cv0, rfl, hcv0, hdv0, v0, hb16⟩
      have sz16 := hb16.size
      replace fw := fw.below (hb16.mono (by omega))
      replace y0 := y0.below (hb16.mono (by omega))
      replace y1 := y1.below (hb16.mono (by omega))
      replace fg := fg.below (hb16.mono (by omega))
      replace T := bt T hb16
      go_wp2_with fail
      (with_reducible refine (toSectionS_any _ x1 len1 _ _ hl1 ((o1.below T).mono T.size) hn1).mono ?_)
      rintro e w17 ⟨Bv1, cv1, rfl, hcv1, hdv1, v1, hb17⟩
      have sz17 := hb17.size
      replace fw := fw.below (hb17.mono (by omega))
      replace y0 := y0.below (hb17.mono (by omega))
      replace y1 := y1.below (hb17.mono (by omega))
      replace fg := fg.below (hb17.mono (by omega))
      replace v0 := v0.below (hb17.mono (by omega))
      replace T := bt T hb17
      go_wp2_with fail
      (with_reducible refine (cableSplice_any _ _ x0 x1 len0 len1 _ _ _ hl0 hl1 (v0.ints.mono (by omega)) (v1.ints.mono (by omega)) hn0 hn1).mono ?_)
      rintro e w18 ⟨Bfh, cfh, rfl, hlfh, hcfh, hdfh, fh, hb18⟩
      have sz18 := hb18.size
      replace fw := fw.below (hb18.mono (by omega))
      replace y0 := y0.below (hb18.mono (by omega))
      replace y1 := y1.below (hb18.mono (by omega))
      replace fg := fg.below (hb18.mono (by omega))
      replace v0 := v0.below (hb18.mono (by omega))
      replace v1 := v1.below (hb18.mono (by omega))
      replace T := bt T hb18
      go_wp2_with fail
      (with_reducible refine (eqSectionS_same _ _ (splice x0 x1 len0 len1) (spliceN x0 x1 len0 len1) _ _ _ hlfw (fh.ints.mono (by omega)) (fw.ints.mono (by omega)) (by omega)).mono ?_)
      rintro e w19 ⟨rfl, hb19⟩
      have sz19 := hb19.size
      replace fw := fw.below (hb19.mono (by omega))
      replace y0 := y0.below (hb19.mono (by omega))
      replace y1 := y1.below (hb19.mono (by omega))
      replace fg := fg.below (hb19.mono (by omega))
      replace v0 := v0.below (hb19.mono (by omega))
      replace v1 := v1.below (hb19.mono (by omega))
      replace fh := fh.below (hb19.mono (by omega))
      replace T := bt T hb19
      go_wp2_with fail
      (with_reducible refine (heldSectionS_any _ (spliceN x0 x1 len0 len1) _ 1 _ (fg.ints.mono (by omega)) (by omega) (by omega) (by omega)).mono ?_)
      rintro e w' ⟨rfl, rfl⟩
      go_wp2
      go_ret
      exact ⟨rfl, T⟩
end Go.Proofs.Ytlhmpecoboeoaaa
