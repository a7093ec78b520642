/-
  WALK: the draw of a cable and two numbers.
-/
import Derived.Test.YtglknakgfnoeaaaDrawCI
import Derived.Deep.DeepCutAuto
import Derived.Deep.RegionWith
import Derived.Orders
namespace Go.Proofs.Ytglknakgfnoeaaa
set_option linter.unusedVariables false
set_option linter.unusedSimpArgs false
open Go.RowKit

set_option maxRecDepth 100000 in
set_option maxHeartbeats 4000000 in
theorem drawBreakRange_any (A : Option Addr) (bs : List Int) (cap : Nat) (w : World) (hB : Byts w w.heap.size A bs) (hc : bs.length ≤ cap) (hn : cap ≤ 9223372036854775807) :
    Calls Try.prog 34 #[.slice A bs.length cap] w (DrawCabII w (-60) 60 (-12) 1020) := by
  obtain ⟨b2, hb2⟩ : ∃ b2, b2 = bs.take 2000 := ⟨_, rfl⟩
  have hl2 : b2.length ≤ 2000 := by rw [hb2]; simp; omega
  have hB2 : Byts w w.heap.size A b2 := by rw [hb2]; exact hB.take 2000
  have HO := fun W => l6Open_any A bs cap W hc hn
  rw [← hb2] at HO
  have hO := hide HO
  have HB2 := hide (hB2.below ((Below.refl _ w).alloc (Nat.le_refl _) (.cells #[.slice A b2.length cap, .int .i64 0] 68)))
  clear HO hb2 hB hB2
  go_enter Try.func34, Try.ntmps34
  go_wp2_with fail
  refine (hO.out _).mono ?_
  rintro e w' ⟨rfl, rfl⟩
  have HB := hide (fun (W : World) (hg : (w.alloc (.cells #[.slice A b2.length cap, .int .i64 0] 68)).grownBy W (some w.heap.size)) => HB2.out.grown hg (by simp))
  go_wp2_with fail
  (with_reducible refine (l91Cable_any w.heap.size A b2 cap 0 4 _ rd_newS HB2.out (by omega) (by omega) hl2 (by omega) (by omega)).mono ?_)
  rintro e w1 ⟨D, fl, n, c, q, rfl, h2, h3, h4, h5, h6, hR1, hq0, hq1, hg1⟩
  have HR1 := hide hR1
  have H6 := hide h6
  have G1 := hide hg1
  have hz1 := hg1.size
  have hz0 : w.heap.size < (w.alloc (.cells #[.slice A b2.length cap, .int .i64 0] 68)).heap.size := by simp
  clear hR1 h6 hg1
  have fin : ∀ (w' : World) (a b : Int), w1.grownBy w' (some w.heap.size) → (-60 ≤ a ∧ a ≤ 60 ∧ -12 ≤ b ∧ b ≤ 1020) → DrawCabII w (-60) 60 (-12) 1020 (.returned (.tuple #[.slice D n c, .int .i64 a, .int .i64 b])) w' := fun w' a b hg ha =>
    ⟨D, c, fl, n, a, b, rfl, h2, h3, h4, h5, ha, (H6.out.carryG hg (by omega) (Nat.le_refl _)).mono (by omega) hg.size, below_rdS (grown_two G1.out hg)⟩
  have FIN := hide fin
  clear fin
  go_wp2_with fail
  (with_reducible refine (pick_any w.heap.size A b2 cap (q) 60 _ HR1.out (HB.out _ G1.out) (by omega) (by omega) hl2 (by omega) (by omega)).mono ?_)
  rintro e w2 ⟨x, hx0, hx1, rfl, hR2, hg2⟩
  have HR2 := hide hR2
  have G2 := hide (grown_two G1.out hg2)
  have K2 := hide (hg2)
  clear hR2 hg2
  go_wp2_with fail
  (with_reducible refine (pick_any w.heap.size A b2 cap (q + 1) 20 _ HR2.out (HB.out _ G2.out) (by omega) (by omega) hl2 (by omega) (by omega)).mono ?_)
  rintro e w3 ⟨y, hy0, hy1, rfl, hR3, hg3⟩
  have HR3 := hide hR3
  have G3 := hide (grown_two G2.out hg3)
  have K3 := hide (grown_two K2.out hg3)
  clear hR3 hg3
  go_wp2_with fail
  (with_reducible refine (pick_any w.heap.size A b2 cap (q + 1 + 1) 12 _ HR3.out (HB.out _ G3.out) (by omega) (by omega) hl2 (by omega) (by omega)).mono ?_)
  rintro e w4 ⟨u, hu0, hu1, rfl, hR4, hg4⟩
  have HR4 := hide hR4
  have G4 := hide (grown_two G3.out hg4)
  have K4 := hide (grown_two K3.out hg4)
  clear hR4 hg4
  go_wp2_with fail
  (with_reducible refine (pick_any w.heap.size A b2 cap (q + 1 + 1 + 1) 20 _ HR4.out (HB.out _ G4.out) (by omega) (by omega) hl2 (by omega) (by omega)).mono ?_)
  rintro e w5 ⟨v, hv0, hv1, rfl, hR5, hg5⟩
  have HR5 := hide hR5
  have G5 := hide (grown_two G4.out hg5)
  have K5 := hide (grown_two K4.out hg5)
  clear hR5 hg5
  go_wp2_with fail
  (with_reducible refine (pick_any w.heap.size A b2 cap (q + 1 + 1 + 1 + 1) 20 _ HR5.out (HB.out _ G5.out) (by omega) (by omega) hl2 (by omega) (by omega)).mono ?_)
  rintro e w6 ⟨z, hz0, hz1, rfl, hR6, hg6⟩
  have HR6 := hide hR6
  have G6 := hide (grown_two G5.out hg6)
  have K6 := hide (grown_two K5.out hg6)
  clear hR6 hg6
  go_wp2
  go_ret3
  exact FIN.out _ _ _ K6.out ⟨by omega, by omega, by omega, by omega⟩
end Go.Proofs.Ytglknakgfnoeaaa
