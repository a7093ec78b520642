/-
  WALKS: lists of sections that come back; 'slices.Clip' of sections.
-/
import Derived.Test.YtglknakgfnoeaaaOwnOn
import Derived.Test.YtglknakgfnoeaaaAppend
import Derived.Test.YtglknakgfnoeaaaSecI
import Derived.Test.YtglknakgfnoeaaaCable
import Derived.Lib.AppendZeros
import Derived.OwnWalk
import Derived.Lib.SmallJoins
namespace Go.Proofs.Ytglknakgfnoeaaa
set_option linter.unusedVariables false
set_option linter.unusedSimpArgs false
open Go.RowKit

/-- A new list of sections comes back, and a bool; what there was lies as it lay. -/
def RetSecs (w : World) (fl : List Int) (n : Nat) (ok : Bool) (e : Ending) (w' : World) : Prop :=
  ∃ A cap, e = .returned (.tuple #[.slice A n cap, .bool ok]) ∧ fl.length = n * 3 ∧ n ≤ cap ∧ cap ≤ 9223372036854775807 ∧ Fresh w' w.heap.size w'.heap.size A fl ∧ Below w.heap.size w w'
theorem Fresh.of_ownS {w : World} {base size : Nat} {e : TypeId} {A : Option Addr} {n cap : Nat} {fl : List Int} (h : w.ownsRow base e size (.slice A n cap) n (fl.map (Value.int .i64))) : Fresh w base w.heap.size A fl := fun hp => by
  have hlen : fl.length = n * size := by have := h.1; simpa using this
  have hn : 0 < n := by
    rcases Nat.eq_zero_or_pos n with h0 | h0
    · rw [h0, Nat.zero_mul] at hlen; omega
    · exact h0
  obtain ⟨g, cap', hv, hb, hlt⟩ := h.form hn
  have hA : A = some ⟨g, 0, none⟩ ∧ cap = cap' := by
    injection hv with h1 h2 h3
    exact ⟨h1, h3⟩
  obtain ⟨rfl, rfl⟩ := hA
  refine ⟨g, 0, rfl, hb, hlt, fun j hj => ⟨?_, h.frozenAt (0 + j)⟩⟩
  have := h.cellAt j (by omega)
  rw [Nat.zero_add, this, List.getElem?_map, List.getElem?_eq_getElem hj, at0_lt hj]
  rfl

end Go.Proofs.Ytglknakgfnoeaaa
