/-
  WALK: the draw of one cable.
-/
import Derived.Test.YtglknakgfnoeaaaDoorDrawCable
namespace Go.Proofs.YtglknakgfnoeaaaDoor
set_option linter.unusedVariables false
set_option linter.unusedSimpArgs false
open Go.RowKit

set_option maxHeartbeats 800000 in
theorem drawCableText_any (A : Option Addr) (bs : List Int) (cap : Nat) (w : World) (hB : Byts w w.heap.size A bs) (hc : bs.length ≤ cap) (hn : cap ≤ 9223372036854775807) :
    Calls Tryd.prog 4 #[.slice A bs.length cap] w (DrawCab w) := by
  obtain ⟨b2, hb2⟩ : ∃ b2, b2 = bs.take 2000 := ⟨_, rfl⟩
  have hl2 : b2.length ≤ 2000 := by rw [hb2]; simp; omega
  have hB2 : Byts w w.heap.size A b2 := by rw [hb2]; exact hB.take 2000
  have HO := fun W => l6Open_any A bs cap W hc hn
  rw [← hb2] at HO
  have hO := hide HO
  have HB2 := hide (hB2.below ((Below.refl _ w).alloc (Nat.le_refl _) (.cells #[.slice A b2.length cap, .int .i64 0] 44)))
  clear HO hb2 hB hB2
  go_enter Tryd.func4, Tryd.ntmps4
  go_wp2_with fail
  refine (hO.out _).mono ?_
  rintro e w' ⟨rfl, rfl⟩
  go_wp2_with fail
  (with_reducible refine (l91Cable_any w.heap.size A b2 cap 0 5 _ rd_newS HB2.out (by omega) (by omega) hl2 (by omega) (by omega)).mono ?_)
  rintro e w1 ⟨A', fl, k, c, p', rfl, h1, h2, h3, h4, h5, -, -, -, hg⟩
  go_wp2
  go_ret
  exact ⟨A', c, fl, k, rfl, h1, h2, h3, h4, h5.mono (by simp) (Nat.le_refl _), below_rdS hg⟩

end Go.Proofs.YtglknakgfnoeaaaDoor
