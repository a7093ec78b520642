/-
  WALK: the law FnExactPaySlack.
-/
import Derived.Test.YtepkahmialnifaaSlackI
import Derived.Test.YtepkahmialnifaaMark
namespace Go.Proofs.Ytepkahmialnifaa
set_option linter.unusedVariables false
set_option linter.unusedSimpArgs false
open Go.RowKit

set_option maxRecDepth 100000 in
set_option maxHeartbeats 4000000 in
theorem walk_FnExactPaySlack (w0 : World) (A0 : Option Addr) (len0 cap0 : Nat) (x0 : List Int) (i0 : IsList .i64 w0 A0 len0 cap0 x0) (A1 : Option Addr) (len1 cap1 : Nat) (x1 : List Int) (i1 : IsList .i64 w0 A1 len1 cap1 x1) :
    Calls Try.prog 6 #[.slice A0 len0 cap0, .slice A1 len1 cap1] w0 fun e w' => e = .returned (.bool true) ∧ Below w0.heap.size w0 w' := by
  have o0 := i0.ints
  obtain ⟨rfl, -, hm0, -⟩ := i0
  unfold maxLen at hm0
  have o1 := i1.ints
  obtain ⟨rfl, -, hm1, -⟩ := i1
  unfold maxLen at hm1
  by_cases big0 : (1048576 : Int) < (x0.length : Int)
  · go_enter Try.func6, Try.ntmps6
    go_wp2
    go_ret
    exact ⟨rfl, Below.refl _ _⟩
  · have hn0 : x0.length ≤ 1048576 := by omega
    by_cases big1 : (1048576 : Int) < (x1.length : Int)
    · go_enter Try.func6, Try.ntmps6
      go_wp2
      go_ret
      exact ⟨rfl, Below.refl _ _⟩
    · have hn1 : x1.length ≤ 1048576 := by omega
      have T := Below.refl w0.heap.size w0
      go_enter Try.func6, Try.ntmps6
      go_wp2_with fail
      refine (toIntS_any _ x0 _ _ ((o0.below T).mono T.size) hn0).mono ?_
      rintro e w1 ⟨Bs0, cs0, rfl, hcs0, hds0, s0, hb1⟩
      have sz1 := hb1.size
      replace T := bt T hb1
      go_wp2_with fail
      refine (toIntS_any _ x1 _ _ ((o1.below T).mono T.size) hn1).mono ?_
      rintro e w2 ⟨Bs1, cs1, rfl, hcs1, hds1, s1, hb2⟩
      have sz2 := hb2.size
      replace s0 := s0.below (hb2.mono (by omega))
      replace T := bt T hb2
      go_wp2_with fail
      refine (specPaySlack_any _ _ x0 x1 _ _ _ (s0.ints.mono (by omega)) (s1.ints.mono (by omega)) hn0 hn1).mono ?_
      rintro e w3 ⟨rfl, hb3⟩
      have sz3 := hb3.size
      replace s0 := s0.below (hb3.mono (by omega))
      replace s1 := s1.below (hb3.mono (by omega))
      replace T := bt T hb3
      go_wp2_with fail
      refine (toIntS_any _ x0 _ _ ((o0.below T).mono T.size) hn0).mono ?_
      rintro e w4 ⟨By0, cy0, rfl, hcy0, hdy0, y0, hb4⟩
      have sz4 := hb4.size
      replace T := bt T hb4
      go_wp2_with fail
      refine (toIntS_any _ x1 _ _ ((o1.below T).mono T.size) hn1).mono ?_
      rintro e w5 ⟨By1, cy1, rfl, hcy1, hdy1, y1, hb5⟩
      have sz5 := hb5.size
      replace y0 := y0.below (hb5.mono (by omega))
      replace T := bt T hb5
      go_wp2_with fail
      refine (paySlack_any _ _ x0 x1 _ _ _ (y0.ints.mono (by omega)) (y1.ints.mono (by omega)) hn0 hn1).mono ?_
      rintro e w6 ⟨rfl, hb6⟩
      have sz6 := hb6.size
      replace y0 := y0.below (hb6.mono (by omega))
      replace y1 := y1.below (hb6.mono (by omega))
      replace T := bt T hb6
      go_wp2_with fail
      refine (toIntS_any _ x0 _ _ ((o0.below T).mono T.size) hn0).mono ?_
      rintro e w7 ⟨Bz0, cz0, rfl, hcz0, hdz0, z0, hb7⟩
      have sz7 := hb7.size
      replace y0 := y0.below (hb7.mono (by omega))
      replace y1 := y1.below (hb7.mono (by omega))
      replace T := bt T hb7
      go_wp2_with fail
      refine (eqIntS_same _ _ (x0) _ _ _ (y0.ints.mono (by omega)) (z0.ints.mono (by omega)) (by omega)).mono ?_
      rintro e w8 ⟨rfl, hb8⟩
      have sz8 := hb8.size
      replace y0 := y0.below (hb8.mono (by omega))
      replace y1 := y1.below (hb8.mono (by omega))
      replace z0 := z0.below (hb8.mono (by omega))
      replace T := bt T hb8
      go_wp2_with fail
      refine (toIntS_any _ x1 _ _ ((o1.below T).mono T.size) hn1).mono ?_
      rintro e w9 ⟨Bz1, cz1, rfl, hcz1, hdz1, z1, hb9⟩
      have sz9 := hb9.size
      replace y0 := y0.below (hb9.mono (by omega))
      replace y1 := y1.below (hb9.mono (by omega))
      replace T := bt T hb9
      go_wp2_with fail
      refine (eqIntS_same _ _ (x1) _ _ _ (y1.ints.mono (by omega)) (z1.ints.mono (by omega)) (by omega)).mono ?_
      rintro e w10 ⟨rfl, hb10⟩
      have sz10 := hb10.size
      replace y0 := y0.below (hb10.mono (by omega))
      replace y1 := y1.below (hb10.mono (by omega))
      replace z1 := z1.below (hb10.mono (by omega))
      replace T := bt T hb10
      go_wp2
      go_ret
      exact ⟨rfl, T⟩
end Go.Proofs.Ytepkahmialnifaa
