/-
  WALKS: a copy of a list of ints.
-/
import Derived.Test.YtoelajocacpmgaaSpecNeeds
import Derived.Lib.SliceRun
namespace Go.Proofs.Ytoelajocacpmgaa
set_option linter.unusedVariables false
set_option linter.unusedSimpArgs false
open Go.RowKit Go.Shelf
attribute [local go_sem] Oper.semAt_some

set_option maxRecDepth 100000 in
set_option maxHeartbeats 2000000 in
theorem clone_any (b off : Nat) (xs : List Int) (cap : Nat) (w : World) (h : Ints w w.heap.size (some ⟨b, off, none⟩) xs) (hn : xs.length ≤ 1048576) (hp : 0 < xs.length) :
    Calls Try.prog 64 #[.slice (some ⟨b, off, none⟩) xs.length cap] w (RetFresh w xs) := by
  obtain ⟨i0, hi, hz0, hz1, hz2⟩ := info_parts infoInt
  obtain ⟨b', off', e, hb, hc⟩ := h hp
  cases e
  have HC := hide hc
  clear hc h
  go_enter Try.func64, Try.ntmps64
  have q22 : ∀ (w : World) (a : Option Addr) (n c n' c' : Nat), (binOp .eql 23 (.slice a n c) (.slice none n' c')).run Try.prog w = .ok (.bool a.isNone) w := fun w a n c n' c' => Lib.run_eql_slice_nil w _ _ a n c n' c' Try.underlying23
  go_wp2_with (at_builtin; refine wpList_append_own _ rfl _ _ 23 rfl w.heap.size 3 i0 (.int .i64 0) 1 8 Try.underlying23 hi hz0 hz1 hz2 rfl (by decide) _ _ _ rfl (World.ownsRow_made w #[] 0 (Nat.le_refl _) (Nat.zero_le _) rfl) ⟨b, off, none⟩ xs.length cap (xs.map (Value.int .i64)) rfl ?qc1 ?qc2 ?qc3 ?qc4 ?qc5 ?qc6 ?_)
  case qc1 => simp
  case qc2 =>
    intro j u hj
    have hjn : j < xs.length := by
      have := (List.getElem?_eq_some_iff.1 hj).1
      simpa using this
    rw [Addr.add_lit]
    refine Lib.cell?_alloc_some _ ?_
    rw [HC.out j hjn]
    have e : (xs.map (Value.int .i64))[j]? = some (Value.int .i64 (at0 xs j)) := by simp [at0, hjn]
    rw [e] at hj
    exact hj
  case qc3 => intro u hu; obtain ⟨x, _, rfl⟩ := List.mem_map.1 hu; rfl
  case qc4 => unfold maxLen; omega
  case qc5 => omega
  case qc6 => simp
  intro v' w1 hown hgrow hnil
  go_wp2
  go_ret
  have hown' : w1.ownsRow w.heap.size 3 1 v' xs.length (xs.map (Value.int .i64)) := by simpa using hown
  obtain ⟨A2, c2, rfl, g1, g2⟩ := own_form hown'
  unfold maxLen at g2
  exact ⟨A2, c2, rfl, g1, by omega, Fresh.of_own hown', ((Below.refl _ w).alloc (Nat.le_refl _) _).grown hgrow (by simp) (by intro k hk; simp [Value.ownBlock] at hk; omega)⟩
end Go.Proofs.Ytoelajocacpmgaa
