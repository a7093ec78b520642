/-
  WALK: the miles of a floor: an iterator of the program's own, and the law by which a range over it is walked.
-/
import Derived.RangeFuncNested
import Derived.RangeFuncBound
import Derived.RangeFuncCalls
import Derived.RangeFuncLeaves
import Derived.RangeFuncBox
import Derived.Shelf.Abstract
import Derived.WalkKit
import Derived.OwnWalkIn
import Derived.TacticsInMore
import Derived.LoopNIn
import Derived.LoopIn
import Derived.RegionIn
import Derived.BigRegionIn
import Derived.Maps.AppendAt
import Derived.Test.YtoelajocacpmgaaPlain
import Derived.Test.YtoelajocacpmgaaProg
namespace Go.Proofs.Ytoelajocacpmgaa
set_option linter.unusedVariables false
set_option linter.unusedSimpArgs false
open Go.RowKit Go.Shelf
attribute [local go_sem] Oper.semAt_some

/-- What a round of the body keeps: what lay below n₀, and the iterator's own box. -/
def KpM (n₀ Bs : Nat) (W W' : World) : Prop := Below n₀ W W' ∧ W'.heap[Bs]? = W.heap[Bs]?
theorem KpM.refl (n₀ Bs : Nat) (W : World) : KpM n₀ Bs W W := ⟨Below.refl _ _, rfl⟩
theorem KpM.trans {n₀ Bs : Nat} {A B C : World} (h : KpM n₀ Bs A B) (k : KpM n₀ Bs B C) : KpM n₀ Bs A C := ⟨h.1.trans k.1, k.2.trans h.2⟩
theorem kpM_b {n₀ Bs : Nat} {w : World} (hn : n₀ ≤ w.heap.size) (hB : Bs < w.heap.size) (W : World) (l : Nat) (o o' : Obj) (hl : w.heap.size ≤ l) (h : W.heap[l]? = some o) (h1 : o.isCells = false) (h2 : o.isWalk = false) : KpM n₀ Bs W (W.putObj l o') :=
  ⟨belowK_b hn W l o o' hl h h1 h2, (grownBy_putObj' W l o').block Bs (by have := (Array.getElem?_eq_some_iff.1 h).1; omega) (fun e => by injection e with e; omega)⟩

/-- A mile of a floor. -/
abbrev Mile (xs : List Int) := { j : Nat // j + 1 < xs.length }
/-- The first k miles. -/
def milesTo (xs : List Int) : Nat → List (Mile xs)
  | 0 => []
  | k + 1 => if h : k + 1 < xs.length then milesTo xs k ++ [⟨k, h⟩] else milesTo xs k
theorem milesTo_succ {xs : List Int} {k : Nat} (h : k + 1 < xs.length) : milesTo xs (k + 1) = milesTo xs k ++ [⟨k, h⟩] := by simp [milesTo, h]
theorem milesTo_length (xs : List Int) (k : Nat) (h : k ≤ xs.length - 1) : (milesTo xs k).length = k := by
  induction k with
  | zero => rfl
  | succ k ih => rw [milesTo_succ (by omega)]; simp [ih (by omega)]

set_option maxRecDepth 100000 in
set_option maxHeartbeats 2000000 in
theorem miles1_in (n : Nat) (hn : 1 ≤ n) (l Bs n₀ b off cap : Nat) (xs : List Int) (hlen : 1 ≤ xs.length) (hlen2 : xs.length ≤ 16) (hv : Deep xs) (hb : b < n₀)
    (J Jx : List (Mile xs) → World → Prop) (hJ : ∀ pre W W', J pre W → W.grownBy W' none → J pre W')
    (hY : ∀ pre x W, J pre W → pre.length < xs.length - 1 → YieldAt Fence.wide (n - 1) Try.prog l #[.int .i64 (x.1 : Int), .int .i64 (needF xs x.1)] W fun e W' =>
      (e = .returned (.bool true) ∧ J (pre ++ [x]) W' ∧ KpM n₀ Bs W W') ∨ (e = .returned (.bool false) ∧ Jx (pre ++ [x]) W'))
    (W : World) (hBs : Boxed W Bs 23 (.slice (some ⟨b, off, none⟩) xs.length cap)) (hc : ∀ j, j < xs.length → W.cell? ⟨b, off + j, none⟩ = some (.int .i64 (at0 xs j))) (h0 : J [] W) :
    CallsIn Fence.wide n Try.prog 82 #[.func (.yield l) #[] #[], .pointer (some ⟨Bs, 0, none⟩)] W fun e W' => (∃ v, e = .returned v) ∧
      ((∃ ys, ys = milesTo xs (xs.length - 1) ∧ J ys W') ∨ (∃ pre, (∃ k, k ≤ xs.length - 1 ∧ pre = milesTo xs k) ∧ Jx pre W')) := by
  have HC := hide hc
  have HV := hide hv
  have HBs := hide hBs
  clear hc hv hBs
  refine callsIn_of_wp Try.func82 rfl trivial ?_ rfl
  simp only [Try.ntmps82, List.size_toArray, List.length_cons, List.length_nil, Nat.reduceAdd, Nat.reduceSub, Array.replicate_succ, Array.replicate_zero, List.push_toArray, List.append_toArray, List.nil_append, List.cons_append]
  gi_wp2
  gi_loopw [3] (fun i wr => ∃ j : Nat, 1 ≤ j ∧ j ≤ xs.length ∧ i = .int .i64 (j : Int) ∧ J (milesTo xs (j - 1)) wr ∧ Hid (KpM n₀ Bs W wr))
    (fun i _ => xs.length - (intOf i).toNat)
  case atStart => exact ⟨1, Nat.le_refl _, hlen, rfl, h0, KpM.refl _ _ _⟩
  case round =>
    obtain ⟨j, hj1, hj, rfl, hJs, hkp⟩ := hrel
    have hbox : wr.cell? ⟨Bs, 0, none⟩ = some (.slice (some ⟨b, off, none⟩) xs.length cap) := (World.cell?_of_block (a := ⟨Bs, 0, none⟩) hkp.out.2).trans HBs.out.cell
    by_cases hlt : j < xs.length
    · have h1 := HC.out (j - 1) (by omega)
      have h2 := HC.out j (by omega)
      have c1 : wr.cell? ⟨b, off + (j - 1), none⟩ = some (.int .i64 (at0 xs (j - 1))) := (hkp.out.1.cell (p := ⟨b, off + (j - 1), none⟩) hb).trans h1
      have c2 : wr.cell? ⟨b, off + j, none⟩ = some (.int .i64 (at0 xs j)) := (hkp.out.1.cell (p := ⟨b, off + j, none⟩) hb).trans h2
      obtain ⟨v1, v2⟩ := HV.out (j - 1) (by omega)
      obtain ⟨v3, v4⟩ := HV.out j (by omega)
      clear h1 h2
      have e1 : (j : Int) < (xs.length : Int) := by omega
      have e2 : (j : Int) - 1 < (xs.length : Int) := by omega
      have e3 : (0 : Int) ≤ (j : Int) - 1 := by omega
      have e4 : (1 : Int) ≤ (j : Int) := by omega
      have e5 : (j : Int) - 1 ≤ (xs.length : Int) := by omega
      have e6 : (0 : Int) ≤ (j : Int) := by omega
      have s1 : IntKind.i64.wrap ((j : Int) - 1) = (j : Int) - 1 := IntWalk.i64_in _ ⟨by omega, by omega⟩
      have s2 : ((j : Int) - 1).toNat = j - 1 := by omega
      have s3 : IntKind.i64.wrap (at0 xs j - at0 xs (j - 1)) = at0 xs j - at0 xs (j - 1) := IntWalk.i64_in _ ⟨by omega, by omega⟩
      by_cases hd : at0 xs (j - 1) ≤ at0 xs j
      · have he : needF xs (j - 1) = 10 + (at0 xs j - at0 xs (j - 1)) := by
          unfold needF; rw [show j - 1 + 1 = j by omega]; exact needAt_up hd
        obtain ⟨fn, tmps, assign, body, hy, hR⟩ := hY _ ⟨j - 1, by omega⟩ wr.drew (hJ _ _ _ hJs ⟨rfl, rfl, rfl, Nat.le_refl _, fun _ _ _ => rfl⟩) (by rw [milesTo_length _ _ (by omega)]; omega)
        dsimp only at hy
        rw [he, show ((j - 1 : Nat) : Int) = (j : Int) - 1 by omega] at hy
        have HE := hide he
        clear he
        gi_wp2
        gi_region
        gi_wp2
        refine hR.mono ?_
        rintro e W3 (⟨rfl, hJ3, hk3⟩ | ⟨rfl, hJx3⟩)
        · gi_wp2
          go_roundw
          case rel => exact ⟨j + 1, by omega, by omega, by simp, by rw [show j + 1 - 1 = (j - 1) + 1 by omega, milesTo_succ (by omega)]; exact hJ3, (hkp.out.trans ⟨(Below.refl _ _).drew, rfl⟩).trans hk3⟩
          case measure => simp [intOf]; omega
        · gi_wp2
          refine bodyPost_ret (results_none rfl _ _ _) rfl ?_
          exact ⟨⟨_, rfl⟩, .inr ⟨_, ⟨j - 1 + 1, by omega, (milesTo_succ (by omega)).symm⟩, hJx3⟩⟩
      · have he : needF xs (j - 1) = 10 + -(at0 xs j - at0 xs (j - 1)) := by
          unfold needF; rw [show j - 1 + 1 = j by omega, needAt_down hd]; omega
        obtain ⟨fn, tmps, assign, body, hy, hR⟩ := hY _ ⟨j - 1, by omega⟩ wr.drew (hJ _ _ _ hJs ⟨rfl, rfl, rfl, Nat.le_refl _, fun _ _ _ => rfl⟩) (by rw [milesTo_length _ _ (by omega)]; omega)
        dsimp only at hy
        rw [he, show ((j - 1 : Nat) : Int) = (j : Int) - 1 by omega] at hy
        have HE := hide he
        clear he
        gi_wp2
        gi_region
        gi_wp2
        refine hR.mono ?_
        rintro e W3 (⟨rfl, hJ3, hk3⟩ | ⟨rfl, hJx3⟩)
        · gi_wp2
          go_roundw
          case rel => exact ⟨j + 1, by omega, by omega, by simp, by rw [show j + 1 - 1 = (j - 1) + 1 by omega, milesTo_succ (by omega)]; exact hJ3, (hkp.out.trans ⟨(Below.refl _ _).drew, rfl⟩).trans hk3⟩
          case measure => simp [intOf]; omega
        · gi_wp2
          refine bodyPost_ret (results_none rfl _ _ _) rfl ?_
          exact ⟨⟨_, rfl⟩, .inr ⟨_, ⟨j - 1 + 1, by omega, (milesTo_succ (by omega)).symm⟩, hJx3⟩⟩
    · obtain rfl : j = xs.length := by omega
      gi_wp2
      go_end0
      exact ⟨⟨_, rfl⟩, .inl ⟨_, rfl, hJs⟩⟩

/-- The reading of a floor at hand, as the iterator asks for it. -/
theorem miles_any (A : Option Addr) (len cap : Nat) (w : World) :
    Calls Try.prog 61 #[.slice A len cap] w fun e w' => e = .returned (.func (.func 82) #[] #[.pointer (some ⟨w.heap.size, 0, none⟩)]) ∧ w' = w.alloc (.cells #[.slice A len cap] 23) := by
  go_enter Try.func61, Try.ntmps61
  go_wp2
  go_ret
  exact ⟨rfl, rfl⟩

theorem miles_stops (n : Nat) (hn : 1 ≤ n) (Bs n₀ : Nat) (A : Option Addr) (cap : Nat) (xs : List Int) (hlen : 1 ≤ xs.length) (hlen2 : xs.length ≤ 16) (hv : Deep xs) (w : World)
    (hBs : Boxed w Bs 23 (.slice A xs.length cap)) (hn₀ : n₀ ≤ w.heap.size) (hI : Ints w n₀ A xs) :
    SeqStopsK Fence.wide n Try.prog 82 #[.pointer (some ⟨Bs, 0, none⟩)] (fun x : Mile xs => #[Value.int .i64 (x.1 : Int), Value.int .i64 (needF xs x.1)]) (KpM n₀ Bs) (fun ys => ys = milesTo xs (xs.length - 1))
      (fun pre => ∃ k, k ≤ xs.length - 1 ∧ pre = milesTo xs k) (xs.length - 1) w := fun l J Jx W hW hJ _ hY h0 => by
  have hb' : Boxed W Bs 23 (.slice A xs.length cap) := (hW.block Bs hBs.lt).trans hBs
  obtain ⟨b, off, rfl, hb, hc⟩ := (hI.below (hW.mono hn₀)) (by omega)
  exact miles1_in n hn l Bs n₀ b off cap xs hlen hlen2 hv hb J Jx (fun pre W W' h hg => hJ pre W W' none h hg (fun r e => by cases e)) hY W hb' hc h0
end Go.Proofs.Ytoelajocacpmgaa
