/-
  WALK-FREE: what a section is made of.
-/
import Derived.Test.YtlhmpecoboeoaaaDoorSecBase
import Derived.Test.YtlhmpecoboeoaaaDoorProg
namespace Go.Proofs.YtlhmpecoboeoaaaDoor
set_option linter.unusedVariables false
set_option linter.unusedSimpArgs false
open Go.RowKit

theorem infoSec : (Tryd.prog.info? 32).map (fun i => (i.zero, i.size, i.bytes)) = some (some (.agg #[.int .i64 0, .int .i64 0, .int .i64 0]), 3, 24) := by kernel_rfl
end Go.Proofs.YtlhmpecoboeoaaaDoor
