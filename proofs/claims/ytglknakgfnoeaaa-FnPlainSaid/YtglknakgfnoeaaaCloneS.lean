/-
  WALKS: a copy of a list of sections, and a list of sections turned in place (after the shelf's walks of slices.Clone, slices.Reverse).
-/
import Derived.Test.YtglknakgfnoeaaaClipS
import Derived.Test.YtglknakgfnoeaaaPlain
import Derived.Shelf.SlicesQ.Reverse
import Derived.BigRegion
import Derived.Deep.LoopGhost
import Derived.Sort.WalkB12
import Derived.Lib.SlicesMore
import Derived.Lib.SliceRun
namespace Go.Proofs.Ytglknakgfnoeaaa
set_option linter.unusedVariables false
set_option linter.unusedSimpArgs false
open Go.RowKit Go.Shelf Go.Sort Go.Lib
attribute [local go_sem] Oper.semAt_some

set_option maxRecDepth 100000 in
set_option maxHeartbeats 2000000 in
theorem cloneS_any (A : Option Addr) (fl : List Int) (n cap : Nat) (w : World) (hl : fl.length = n * 3) (h : Ints w w.heap.size A fl) (hn : n ≤ 1048576) (hp : 0 < n) :
    Calls Try.prog 40 #[.slice A n cap] w fun e w' => ∃ A' c', e = .returned (.slice A' n c') ∧ n ≤ c' ∧ c' ≤ 9223372036854775807 ∧ Fresh w' w.heap.size w'.heap.size A' fl ∧ Below w.heap.size w w' := by
  obtain ⟨i0, hi, hz0, hz1, hz2⟩ := info_parts infoSec
  obtain ⟨b, off, rfl, hb, hc⟩ := h (by omega)
  have hB0 : Below w.heap.size w (w.alloc (.cells #[] 42)) := (Below.refl _ w).alloc (Nat.le_refl _) _
  obtain ⟨v1, u1, r1, p1, q1⟩ := run_append_flat (P := Try.prog) (w.alloc (.cells #[] 42)) w.heap.size 23 23 42 i0 _ 3 24 Try.underlying23 hi hz0 hz1 hz2 rfl (by decide) _ 0 [] (own_empty w 42 3) w.heap.size (some ⟨b, off, none⟩) n cap fl hl (h.below hB0) (by unfold maxLen; omega) (by omega) (by simp)
  have hb1 := hB0.trans (append_own_below (base := w.heap.size) (own_empty w 42 3) q1 (by simp))
  have HR := hide r1
  have hown : u1.ownsRow w.heap.size 42 3 v1 n (fl.map (Value.int .i64)) := by simpa using p1
  clear r1 q1 p1 hc h
  go_enter Try.func40, Try.ntmps40
  have q22 : ∀ (w : World) (a : Option Addr) (n c n' c' : Nat), (binOp .eql 23 (.slice a n c) (.slice none n' c')).run Try.prog w = .ok (.bool a.isNone) w := fun w a n c n' c' => Lib.run_eql_slice_nil w _ _ a n c n' c' Try.underlying23
  go_wp2_with (at_builtin; refine Lib.wpList_append_run _ rfl _ _ _ _ rfl _ _ rfl rfl _ _ HR.out ?_)
  go_ret
  obtain ⟨A2, c2, rfl, g1, g2⟩ := own_formS hown
  unfold maxLen at g2
  exact ⟨A2, c2, rfl, g1, by omega, Fresh.of_ownS hown, hb1⟩

/-- A section's cells. -/
def encS (t : Int × Int × Int) : List Value := [.int .i64 t.1, .int .i64 t.2.1, .int .i64 t.2.2]
theorem encS_len (t : Int × Int × Int) : (encS t).length = 3 := rfl
theorem encS_one (t : Int × Int × Int) : ∀ v ∈ encS t, v.oneCell' = true := by
  intro v hv
  simp only [encS, List.mem_cons, List.not_mem_nil, or_false] at hv
  rcases hv with rfl | rfl | rfl <;> rfl
/-- A section of a flat list. -/
def secT (fl : List Int) (k : Nat) : Int × Int × Int := (at0 fl (k * 3), at0 fl (k * 3 + 1), at0 fl (k * 3 + 2))
/-- The flat list's sections. -/
def secA (fl : List Int) (n : Nat) : Array (Int × Int × Int) := ((List.range n).map (secT fl)).toArray
@[simp] theorem secA_size (fl : List Int) (n : Nat) : (secA fl n).size = n := by simp [secA]
theorem secA_get (fl : List Int) {n k : Nat} (h : k < n) : (secA fl n)[k]! = secT fl k := by
  rw [getElem!_pos _ _ (by simpa using h)]
  simp [secA]
theorem enc_get (fl : List Int) (k c : Nat) (h : c < 3) : (encS (secT fl k))[c]! = .int .i64 (at0 fl (k * 3 + c)) := by
  obtain rfl | rfl | rfl : c = 0 ∨ c = 1 ∨ c = 2 := by omega
  · rfl
  · rfl
  · rfl
/-- A cable from its end. -/
def backC (fl : List Int) (n j : Nat) : Int := at0 fl ((n - 1 - j / 3) * 3 + j % 3)
theorem flat_secA (fl : List Int) {n t : Nat} (h : t < n * 3) : (flatK encS 3 (secA fl n))[t]! = .int .i64 (at0 fl t) := by
  rw [get_flatK _ _ _ _ (by simpa using h), secA_get fl (by omega), enc_get _ _ _ (by omega)]
  congr 2; omega
theorem flat_rev (fl : List Int) {n t : Nat} (h : t < n * 3) : (flatK encS 3 (secA fl n).reverse)[t]! = .int .i64 (backC fl n t) := by
  rw [get_flatK _ _ _ _ (by simpa using h)]
  have e : (secA fl n).reverse[t / 3]! = secT fl (n - 1 - t / 3) := by
    rw [getElem!_pos _ _ (by simp; omega), Array.getElem_reverse]
    have := secA_get fl (n := n) (k := n - 1 - t / 3) (by omega)
    rw [getElem!_pos _ _ (by simp; omega)] at this
    simpa using this
  rw [e, enc_get _ _ _ (by omega)]
  rfl
theorem holds_secs {w : World} {lo hi b off : Nat} {fl : List Int} {n : Nat} (hl : fl.length = n * 3) (hc : ∀ j, j < fl.length → w.cell? ⟨b, off + j, none⟩ = some (.int .i64 (at0 fl j)) ∧ w.frozen? ⟨b, off + j, none⟩ = false) :
    HoldsK encS 3 w b off (secA fl n) := fun j hj => by
  have hj' : j < n * 3 := by simpa using hj
  rw [flat_secA fl hj']
  exact hc j (by omega)

def layRev_ren : Go.Shelf.Ren := ⟨fun | 35 => 41 | n => n, fun | 22 => 23 | 23 => 42 | 3 => 3 | 4 => 4 | 0 => 0 | n => n, fun | n => n⟩
theorem layRev : Go.Proofs.SlLaysE0.n35 Try.prog layRev_ren := {
  mixed := by kernel_rfl
  f35 := ⟨Try.f41.name, by decide, Try.func41.trans (congrArg some (by kernel_rfl))⟩
  t0 := Try.underlying0
  a0 := Try.isAgg0
  z0 := Try.sizeOf0
  v0 := Try.zeroValue0
  t3 := Try.underlying3
  a3 := Try.isAgg3
  z3 := Try.sizeOf3
  v3 := Try.zeroValue3
  t4 := Try.underlying4
  a4 := Try.isAgg4
  z4 := Try.sizeOf4
  v4 := Try.zeroValue4
  t22 := Try.underlying23
  a22 := Try.isAgg23
  z22 := Try.sizeOf23
  v22 := Try.zeroValue23 }
theorem reverseS_arr (blk off cap : Nat) (d : Array (Int × Int × Int)) (w : World) (hH : HoldsK encS 3 w blk off d) (hsz : d.size ≤ 9223372036854775807) :
    Calls Try.prog 41 #[.slice (some ⟨blk, off, none⟩) d.size cap] w fun e w' => e = .returned (.tuple #[]) ∧ ∃ n, w' = putRowK encS 3 (Sort.ahead w n) blk off d.reverse :=
  AnyQ.slices_Reverse layRev 3 Try.isAgg42 Try.sizeOf42 encS encS_len encS_one blk off cap d w hH hsz

theorem grownBy_putK (w : World) (n blk off : Nat) (d : Array (Int × Int × Int)) : w.grownBy (putRowK encS 3 (Sort.ahead w n) blk off d) (some blk) :=
  ⟨rfl, rfl, rfl, by simp [putRowK, Sort.ahead], fun i hi hne => by
    simp only [putRowK, putRow, mapBlock, Sort.ahead]
    rw [Array.getElem?_modify]
    rw [if_neg (fun e => hne (by rw [e]))]⟩

theorem reverseS_any (lo hi : Nat) (A : Option Addr) (fl : List Int) (n cap : Nat) (w : World) (hl : fl.length = n * 3) (h : Fresh w lo hi A fl) (hp : 0 < n) (hn : n ≤ 1048576) :
    Calls Try.prog 41 #[.slice A n cap] w fun e w' => e = .returned (.tuple #[]) ∧ Fresh w' lo hi A (upto (backC fl n) (n * 3)) ∧ w'.heap.size = w.heap.size ∧ ∃ row, w.grownBy w' row ∧ ∀ g, row = some g → lo ≤ g ∧ g < hi := by
  obtain ⟨b, off, rfl, h1, h2, hc⟩ := h (by omega)
  have hH : HoldsK encS 3 w b off (secA fl n) := holds_secs (lo := lo) (hi := hi) hl hc
  have := reverseS_arr b off cap (secA fl n) w hH (by rw [secA_size]; omega)
  rw [secA_size] at this
  refine this.mono ?_
  rintro e w' ⟨rfl, m, rfl⟩
  have hput := holdsK_putRowK encS 3 (Sort.ahead w m) b off (secA fl n) (secA fl n).reverse (holdsK_ahead encS 3 w m b off _ hH) (by simp)
  refine ⟨rfl, fun _ => ⟨b, off, rfl, h1, h2, fun j hj => ?_⟩, by simp [putRowK, Sort.ahead], some b, grownBy_putK w m b off _, fun g e => by cases e; exact ⟨h1, h2⟩⟩
  have hj' : j < n * 3 := by simpa [upto_length] using hj
  have := hput j (by simpa using hj')
  rw [flat_rev fl hj'] at this
  rw [at0_upto _ hj']
  exact this
end Go.Proofs.Ytglknakgfnoeaaa
