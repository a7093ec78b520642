/-
  WALK: the law FnExactCableText.
-/
import Derived.Test.YtlhmpecoboeoaaaDoorText
import Derived.Test.YtlhmpecoboeoaaaDoorSecX
namespace Go.Proofs.YtlhmpecoboeoaaaDoor
set_option linter.unusedVariables false
set_option linter.unusedSimpArgs false
open Go.RowKit

set_option maxRecDepth 100000 in
set_option maxHeartbeats 4000000 in
theorem walk_FnExactCableText (w0 : World) (A0 : Option Addr) (len0 cap0 : Nat) (x0 : List Int) (i0 : IsSecs w0 A0 len0 cap0 x0) :
    Calls Tryd.prog 3 #[.slice A0 len0 cap0] w0 fun e w' => e = .returned (.bool true) ∧ Below w0.heap.size w0 w' := by
  have o0 := i0.ints
  obtain ⟨hl0, hlc0, hm0, -, -⟩ := i0
  unfold maxLen at hm0
  have T := Below.refl w0.heap.size w0
  go_enter Tryd.func3, Tryd.ntmps3
  go_wp2_with fail
  (with_reducible refine (szSectionS_any _ len0 _ (1048576) _ (by omega) (by omega) (by omega)).mono ?_)
  rintro e w' ⟨rfl, rfl⟩
  by_cases big0 : (1048576 : Int) < (len0 : Int)
  · rw [if_pos big0]
    go_wp2
    go_ret
    exact ⟨rfl, T⟩
  · rw [if_neg big0]
    have hn0 : len0 ≤ 1048576 := by omega
    go_wp2_with fail
    (with_reducible refine (toSectionS_any _ x0 len0 _ _ hl0 ((o0.below T).mono T.size) hn0).mono ?_)
    rintro e w1 ⟨Bs0, cs0, rfl, hcs0, hds0, s0, hb1⟩
    have sz1 := hb1.size
    replace T := bt T hb1
    go_wp2_with fail
    (with_reducible refine (specCableText_any _ x0 len0 _ _ hl0 (s0.ints.mono (by omega)) hn0).mono ?_)
    rintro e w2 ⟨rfl, hb2⟩
    have sz2 := hb2.size
    replace s0 := s0.below (hb2.mono (by omega))
    replace T := bt T hb2
    clear s0
    go_wp2_with fail
    (with_reducible refine (toSectionS_any _ x0 len0 _ _ hl0 ((o0.below T).mono T.size) hn0).mono ?_)
    rintro e w3 ⟨By0, cy0, rfl, hcy0, hdy0, y0, hb3⟩
    have sz3 := hb3.size
    replace T := bt T hb3
    go_wp2_with fail
    (with_reducible refine (cableText_any _ x0 len0 _ _ hl0 (y0.ints.mono (by omega)) hn0).mono ?_)
    rintro e w4 ⟨rfl, hb4⟩
    have sz4 := hb4.size
    replace y0 := y0.below (hb4.mono (by omega))
    replace T := bt T hb4
    go_wp2_with fail
    (with_reducible refine (toSectionS_any _ x0 len0 _ _ hl0 ((o0.below T).mono T.size) hn0).mono ?_)
    rintro e w5 ⟨Bz0, cz0, rfl, hcz0, hdz0, z0, hb5⟩
    have sz5 := hb5.size
    replace y0 := y0.below (hb5.mono (by omega))
    replace T := bt T hb5
    go_wp2_with fail
    (with_reducible refine (eqSectionS_same _ _ (x0) (len0) _ _ _ hl0 (y0.ints.mono (by omega)) (z0.ints.mono (by omega)) (by omega)).mono ?_)
    rintro e w6 ⟨rfl, hb6⟩
    have sz6 := hb6.size
    replace y0 := y0.below (hb6.mono (by omega))
    replace z0 := z0.below (hb6.mono (by omega))
    replace T := bt T hb6
    go_wp2
    go_ret
    exact ⟨rfl, T⟩
end Go.Proofs.YtlhmpecoboeoaaaDoor
