/-
  A WORD FOR MEMORY: one section appended onto a list of sections of the call's own.
-/
import Derived.Test.YtglknakgfnoeaaaRetS
import Derived.Test.YtglknakgfnoeaaaPlain
namespace Go.Proofs.Ytglknakgfnoeaaa
set_option linter.unusedVariables false
set_option linter.unusedSimpArgs false
open Go.RowKit

theorem ints_three (w : World) (a b c : Int) (t : TypeId) : Ints (w.alloc (.cells #[.int .i64 a, .int .i64 b, .int .i64 c] t)) (w.heap.size + 1) (some ⟨w.heap.size, 0, none⟩) [a, b, c] := fun _ =>
  ⟨w.heap.size, 0, rfl, by omega, fun j hj => by
    have hh := heap_alloc_new w (.cells #[.int .i64 a, .int .i64 b, .int .i64 c] t)
    have hj' : j < 3 := hj
    obtain rfl | rfl | rfl : j = 0 ∨ j = 1 ∨ j = 2 := by omega
    · exact cell_of_row _ _ 0 _ _ _ hh
    · exact cell_of_row _ _ 1 _ _ _ hh
    · exact cell_of_row _ _ 2 _ _ _ hh⟩

theorem append_sec (w : World) (base : Nat) (v : Value) (n : Nat) (fl : List Int) (a b c : Int) (hown : w.ownsRow base 42 3 v n (fl.map (Value.int .i64))) (hb : base ≤ w.heap.size) (hn : n ≤ 1048576) :
    ∃ v' w', (Builtin.append_ #[23, 23] 23 #[v, .slice (some ⟨w.heap.size, 0, none⟩) 1 1]).run Try.prog (w.alloc (.cells #[.int .i64 a, .int .i64 b, .int .i64 c] 42)) = .ok v' w' ∧
      w'.ownsRow base 42 3 v' (n + 1) ((fl ++ [a, b, c]).map (Value.int .i64)) ∧ Below base w w' ∧ w.heap.size < w'.heap.size := by
  obtain ⟨i0, hi, hz0, hz1, hz2⟩ := info_parts infoSec
  have ho := hown.alloc (.cells #[.int .i64 a, .int .i64 b, .int .i64 c] 42)
  obtain ⟨v1, u1, r1, p1, q1⟩ := run_append_flat (P := Try.prog) (w.alloc (.cells #[.int .i64 a, .int .i64 b, .int .i64 c] 42)) base 23 23 42 i0 _ 3 24 Try.underlying23 hi hz0 hz1 hz2 rfl (by decide) v n _ ho (w.heap.size + 1) (some ⟨w.heap.size, 0, none⟩) 1 1 [a, b, c] rfl (ints_three w a b c _) (by unfold maxLen; omega) (by omega) (by simp; omega)
  have hb1 := append_own_below ho q1 (by simp; omega)
  refine ⟨v1, u1, r1, by rw [List.map_append]; exact p1, ((Below.refl base w).alloc hb _).trans hb1, ?_⟩
  have := q1.size
  simp at this
  omega
end Go.Proofs.Ytglknakgfnoeaaa
