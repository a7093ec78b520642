/-
  WALK-FREE: what a section is made of.
-/
import Derived.Test.YtlhmpecoboeoaaaSecBase
import Derived.Test.YtlhmpecoboeoaaaProg
namespace Go.Proofs.Ytlhmpecoboeoaaa
set_option linter.unusedVariables false
set_option linter.unusedSimpArgs false
open Go.RowKit

theorem infoSec : (Try.prog.info? 52).map (fun i => (i.zero, i.size, i.bytes)) = some (some (.agg #[.int .i64 0, .int .i64 0, .int .i64 0]), 3, 24) := by kernel_rfl
end Go.Proofs.Ytlhmpecoboeoaaa
