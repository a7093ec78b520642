/-
  WALKS: the copying, comparing, marking and holding of lists of ints by which the exact laws ask.
-/
import Derived.Test.YtoelajocacpmgaaBase
import Derived.Test.YtoelajocacpmgaaProg
import Derived.Deep.QuietTactic
import Derived.BigQuiet
namespace Go.Proofs.Ytoelajocacpmgaa
set_option linter.unusedVariables false
set_option linter.unusedSimpArgs false
open Go.RowKit

theorem infoInt : (Try.prog.info? 3).map (fun i => (i.zero, i.size, i.bytes)) = some (some (.int .i64 0), 1, 8) := by kernel_rfl

/-- n zeros. -/
def zeros (n : Nat) : Array Value := Array.replicate n (.int .i64 0)
theorem zeros_size (n : Nat) : (zeros n).size = n := by simp [zeros]

theorem make_ints (n c : Nat) (hnc : n ≤ c) (hc : c ≤ 4194304) (W : World) : (Instr.makeSlice 23 (.int .i64 (n : Int)) (.int .i64 (c : Int))).run Try.prog W =
    .ok (.slice (some ⟨W.heap.size, 0, none⟩) n c) (W.alloc (.cells (zeros c) 3)) := by
  obtain ⟨i0, hi, hz0, hz1, hz2⟩ := info_parts infoInt
  have hb : (i0.bytes : Int) * (c : Int) ≤ 281474976710656 := by rw [hz2]; omega
  have hr := run_make (P := Try.prog) W 23 3 i0 (.int .i64 0) Try.underlying23 hi hz0 .i64 .i64 n c (by omega) (by omega) hb (by omega)
  simp only [Int.toNat_natCast] at hr
  rw [hr, hz1, Nat.mul_one]
  congr 2
  have : madeCells (Value.int .i64 0).cells c = zeros c := by
    apply Array.ext'
    show (madeCells #[.int .i64 0] c).toList = _
    rw [toList_madeCells_one]; simp [zeros]
  rw [this]

/-- A new list of ints comes back; what there was lies as it lay. -/
def RetFresh (w : World) (xs : List Int) (e : Ending) (w' : World) : Prop :=
  ∃ A cap, e = .returned (.slice A xs.length cap) ∧ xs.length ≤ cap ∧ cap ≤ 9223372036854775807 ∧ Fresh w' w.heap.size w'.heap.size A xs ∧ Below w.heap.size w w'

end Go.Proofs.Ytoelajocacpmgaa
