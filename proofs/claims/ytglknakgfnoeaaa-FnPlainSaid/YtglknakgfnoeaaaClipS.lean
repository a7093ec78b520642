/-
  WALK: 'slices.Clip' of sections.
-/
import Derived.Test.YtglknakgfnoeaaaRetS
namespace Go.Proofs.Ytglknakgfnoeaaa
set_option linter.unusedVariables false
set_option linter.unusedSimpArgs false
open Go.RowKit

theorem clipS_any (A : Option Addr) (n cap : Nat) (w : World) (h : n ≤ cap) (hc : cap ≤ 9223372036854775807) :
    Calls Try.prog 42 #[.slice A n cap] w fun e w' => e = .returned (.slice A n n) ∧ w = w' := by
  go_enter Try.func42, Try.ntmps42
  go_wp2
  go_ret
  exact ⟨rfl, rfl⟩

end Go.Proofs.Ytglknakgfnoeaaa
