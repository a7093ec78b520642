/-
  WALKS: a fault carried over, and two compared.
-/
import Derived.Test.YtlhmpecoboeoaaaFault
namespace Go.Proofs.Ytlhmpecoboeoaaa
set_option linter.unusedVariables false
set_option linter.unusedSimpArgs false
open Go.RowKit

theorem toFault_any (t l : Int) (w : World) :
    Calls Try.prog 25 #[.agg #[.int .i64 t, .int .i64 l]] w fun e w' => e = .returned (.agg #[.int .i64 t, .int .i64 l]) ∧ Below w.heap.size w w' := by
  go_enter Try.func25, Try.ntmps25
  go_wp2
  go_returns
  exact ⟨rfl, by go_grown⟩
end Go.Proofs.Ytlhmpecoboeoaaa
