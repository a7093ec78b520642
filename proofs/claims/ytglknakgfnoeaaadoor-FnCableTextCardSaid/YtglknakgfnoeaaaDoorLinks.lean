/-
  WALKS: the links of a cable: an iterator that goes backward, and the list that the program builds of it.
-/
import Derived.RangeFuncNested
import Derived.RangeFuncBound
import Derived.RangeFuncCalls
import Derived.RangeFuncLeaves
import Derived.RangeFuncBox
import Derived.Shelf.Abstract
import Derived.WalkKit
import Derived.OwnWalkIn
import Derived.TacticsInMore
import Derived.LoopNIn
import Derived.LoopIn
import Derived.RegionIn
import Derived.BigRegionIn
import Derived.Maps.AppendAt
import Derived.Test.YtglknakgfnoeaaaDoorCable
namespace Go.Proofs.YtglknakgfnoeaaaDoor
set_option linter.unusedVariables false
set_option linter.unusedSimpArgs false
open Go.RowKit Go.Shelf
attribute [local go_sem] Oper.semAt_some

/-- The links of some sections, in cells of blocks below hi. -/
def Links (w : World) (hi : Nat) (fl : List Int) : List Nat → Option Addr → Prop
  | [], p => p = none
  | k :: ks, p => ∃ g p', p = some ⟨g, 0, none⟩ ∧ g < hi ∧ w.heap[g]? = some (.cells #[.int .i64 (at0 fl (k * 3)), .int .i64 (at0 fl (k * 3 + 1)), .int .i64 (at0 fl (k * 3 + 2)), .pointer p'] 38 (0, 0)) ∧ Links w hi fl ks p'
theorem Links.keep {w w' : World} {hi hi' : Nat} {fl : List Int} (hh : hi ≤ hi') (hk : ∀ g cs, g < hi → w.heap[g]? = some (.cells cs 38 (0, 0)) → w'.heap[g]? = some (.cells cs 38 (0, 0))) : ∀ {ks : List Nat} {p : Option Addr}, Links w hi fl ks p → Links w' hi' fl ks p
  | [], p, h => h
  | k :: ks, p, ⟨g, p', e, hg, hc, hr⟩ => ⟨g, p', e, Nat.lt_of_lt_of_le hg hh, hk g _ hg hc, Links.keep hh hk hr⟩
theorem Links.below {w w' : World} {hi : Nat} {fl : List Int} {ks : List Nat} {p : Option Addr} (h : Links w hi fl ks p) (hb : Below hi w w') : Links w' hi fl ks p := h.keep (Nat.le_refl _) (fun g cs hg hc => (hb.block g hg).trans hc)

/-- A section's place. -/
abbrev Sect (n : Nat) := { j : Nat // j < n }
/-- The last places from the end to k. -/
def backTo (n : Nat) : Nat → List (Sect n)
  | 0 => []
  | m + 1 => if h : m < n then backTo n m ++ [⟨n - 1 - m, by omega⟩] else backTo n m
theorem backTo_succ {n m : Nat} (h : m < n) : backTo n (m + 1) = backTo n m ++ [⟨n - 1 - m, by omega⟩] := by simp [backTo, h]
theorem backTo_length (n m : Nat) (h : m ≤ n) : (backTo n m).length = m := by
  induction m with
  | zero => rfl
  | succ m ih => rw [backTo_succ (by omega)]; simp [ih (by omega)]
/-- The places from k on. -/
def from' (n : Nat) : Nat → List Nat
  | 0 => []
  | m + 1 => (n - 1 - m) :: from' n m
theorem backTo_from (n m : Nat) (h : m ≤ n) : ((backTo n m).map fun x => x.1).reverse = from' n m := by
  induction m with
  | zero => rfl
  | succ m ih => rw [backTo_succ (by omega), List.map_append, List.reverse_append, ih (by omega)]; rfl

/-- What a round of the body keeps: what lay below n₀, and the iterator's own box. -/
def KpS (n₀ Bs : Nat) (W W' : World) : Prop := Below n₀ W W' ∧ W'.heap[Bs]? = W.heap[Bs]?
theorem KpS.refl (n₀ Bs : Nat) (W : World) : KpS n₀ Bs W W := ⟨Below.refl _ _, rfl⟩
theorem KpS.trans {n₀ Bs : Nat} {A B C : World} (h : KpS n₀ Bs A B) (k : KpS n₀ Bs B C) : KpS n₀ Bs A C := ⟨h.1.trans k.1, k.2.trans h.2⟩
theorem kpS_b {n₀ Bs : Nat} {w : World} (hn : n₀ ≤ w.heap.size) (hB : Bs < w.heap.size) (W : World) (l : Nat) (o o' : Obj) (hl : w.heap.size ≤ l) (h : W.heap[l]? = some o) (h1 : o.isCells = false) (h2 : o.isWalk = false) : KpS n₀ Bs W (W.putObj l o') :=
  ⟨belowK_b hn W l o o' hl h h1 h2, (grownBy_putObj' W l o').block Bs (by have := (Array.getElem?_eq_some_iff.1 h).1; omega) (fun e => by injection e with e; omega)⟩

/-- A section as a value. -/
abbrev secV (fl : List Int) (k : Nat) : Value := .agg #[.int .i64 (at0 fl (k * 3)), .int .i64 (at0 fl (k * 3 + 1)), .int .i64 (at0 fl (k * 3 + 2))]

set_option maxRecDepth 100000 in
set_option maxHeartbeats 2000000 in
theorem backward1_in (n : Nat) (hn : 1 ≤ n) (l Bs n₀ b off cap N : Nat) (fl : List Int) (hl : fl.length = N * 3) (hN : N ≤ 8) (hb : b < n₀)
    (J Jx : List (Sect N) → World → Prop) (hJ : ∀ pre W W', J pre W → W.grownBy W' none → J pre W')
    (hY : ∀ pre x W, J pre W → pre.length < N → YieldAt Fence.wide (n - 1) Tryd.prog l #[.int .i64 (x.1 : Int), secV fl x.1] W fun e W' =>
      (e = .returned (.bool true) ∧ J (pre ++ [x]) W' ∧ KpS n₀ Bs W W') ∨ (e = .returned (.bool false) ∧ Jx (pre ++ [x]) W'))
    (W : World) (hBs : Boxed W Bs 23 (.slice (some ⟨b, off, none⟩) N cap)) (hc : ∀ j, j < fl.length → W.cell? ⟨b, off + j, none⟩ = some (.int .i64 (at0 fl j))) (h0 : J [] W) :
    CallsIn Fence.wide n Tryd.prog 24 #[.func (.yield l) #[] #[], .pointer (some ⟨Bs, 0, none⟩)] W fun e W' => (∃ v, e = .returned v) ∧
      ((∃ ys, ys = backTo N N ∧ J ys W') ∨ (∃ pre, (∃ k, k ≤ N ∧ pre = backTo N k) ∧ Jx pre W')) := by
  have HC := hide hc
  have HBs := hide hBs
  have HL := hide hl
  have hbx := hBs.cell
  clear hc hBs hl
  refine callsIn_of_wp Tryd.func24 rfl trivial ?_ rfl
  simp only [Tryd.ntmps24, List.size_toArray, List.length_cons, List.length_nil, Nat.reduceAdd, Nat.reduceSub, Array.replicate_succ, Array.replicate_zero, List.push_toArray, List.append_toArray, List.nil_append, List.cons_append]
  gi_wp2
  clear hbx
  gi_loopw [3] (fun i wr => ∃ j : Nat, j ≤ N ∧ i = .int .i64 ((N : Int) - 1 - (j : Int)) ∧ J (backTo N j) wr ∧ Hid (KpS n₀ Bs W wr))
    (fun i _ => (intOf i + 1).toNat)
  case atStart => exact ⟨0, Nat.zero_le _, by simp, h0, KpS.refl _ _ _⟩
  case round =>
    obtain ⟨j, hj, rfl, hJs, hkp⟩ := hrel
    have hbox : wr.cell? ⟨Bs, 0, none⟩ = some (.slice (some ⟨b, off, none⟩) N cap) := (World.cell?_of_block (a := ⟨Bs, 0, none⟩) hkp.out.2).trans HBs.out.cell
    by_cases hlt : j < N
    · obtain ⟨m, hm⟩ : ∃ m, m = N - 1 - j := ⟨_, rfl⟩
      have hmN : m < N := by omega
      obtain ⟨c0, c1, c2⟩ := sec_cells (w := wr) (hi := 0) HL.out (fun i hi => (hkp.out.1.cell (p := ⟨b, off + i, none⟩) hb).trans (HC.out i hi)) hmN
      have e0 : (N : Int) - 1 - (j : Int) = (m : Int) := by omega
      rw [e0]
      have e1 : (m : Int) < (N : Int) := by omega
      have e2 : (0 : Int) ≤ (m : Int) := by omega
      obtain ⟨fn, tmps, assign, body, hy, hR⟩ := hY _ ⟨m, hmN⟩ wr hJs (by rw [backTo_length _ _ (by omega)]; omega)
      dsimp only at hy
      have HM := hide hm
      have HB2 := hide (show backTo N (j + 1) = backTo N j ++ [⟨m, hmN⟩] by rw [backTo_succ hlt]; simp only [hm])
      clear hm e0
      gi_wp2
      refine hR.mono ?_
      rintro e W3 (⟨rfl, hJ3, hk3⟩ | ⟨rfl, hJx3⟩)
      · gi_wp2
        go_roundw
        case rel => exact ⟨j + 1, by omega, congrArg (Value.int .i64) (by have := HM.out; omega), by rw [HB2.out]; exact hJ3, hkp.out.trans hk3⟩
        case measure => have := HM.out; simp [intOf]; try omega
      · gi_wp2
        refine bodyPost_ret (results_none rfl _ _ _) rfl ?_
        exact ⟨⟨_, rfl⟩, .inr ⟨_, ⟨j + 1, by omega, HB2.out.symm⟩, hJx3⟩⟩
    · obtain rfl : j = N := by omega
      have e1 : ¬ (0 : Int) ≤ (j : Int) - 1 - (j : Int) := by omega
      gi_wp2
      go_end0
      exact ⟨⟨_, rfl⟩, .inl (by first | exact hJs | exact ⟨_, rfl, hJs⟩)⟩

theorem backward_any (A : Option Addr) (n cap : Nat) (w : World) :
    Calls Tryd.prog 18 #[.slice A n cap] w fun e w' => e = .returned (.func (.func 24) #[] #[.pointer (some ⟨w.heap.size, 0, none⟩)]) ∧ w' = w.alloc (.cells #[.slice A n cap] 23) := by
  go_enter Tryd.func18, Tryd.ntmps18
  go_wp2
  go_ret
  exact ⟨rfl, rfl⟩

theorem backward_stops (n : Nat) (hn : 1 ≤ n) (Bs n₀ : Nat) (A : Option Addr) (cap N : Nat) (fl : List Int) (hl : fl.length = N * 3) (h1 : 1 ≤ N) (hN : N ≤ 8) (w : World)
    (hBs : Boxed w Bs 23 (.slice A N cap)) (hn₀ : n₀ ≤ w.heap.size) (hI : Ints w n₀ A fl) :
    SeqStopsK Fence.wide n Tryd.prog 24 #[.pointer (some ⟨Bs, 0, none⟩)] (fun x : Sect N => #[Value.int .i64 (x.1 : Int), secV fl x.1]) (KpS n₀ Bs) (fun ys => ys = backTo N N)
      (fun pre => ∃ k, k ≤ N ∧ pre = backTo N k) N w := fun l J Jx W hW hJ _ hY h0 => by
  have hb' : Boxed W Bs 23 (.slice A N cap) := (hW.block Bs hBs.lt).trans hBs
  obtain ⟨b, off, rfl, hb, hc⟩ := (hI.below (hW.mono hn₀)) (by omega)
  exact backward1_in n hn l Bs n₀ b off cap N fl hl hN hb J Jx (fun pre W W' h hg => hJ pre W W' none h hg (fun r e => by cases e)) hY W hb' hc h0

/-- Links abide what an iterator writes beside them. -/
theorem links_own {β : Type} (t : TypeId) (B : Nat) (fl : List Int) (f : β → List Nat) : Own (fun (s : β) W => ∃ p, Boxed W B t (.pointer p) ∧ Links W W.heap.size fl (f s) p) := by
  rintro s X Y row ⟨p, hp, hL⟩ hg hrow
  refine ⟨p, hp.kept hg (fun e' => ?_), hL.keep hg.size (fun g cs hgl hcs => (hg.block g (Array.getElem?_eq_some_iff.1 hcs).1 (fun e' => ?_)).trans hcs)⟩
  · obtain ⟨o, ho, hc⟩ := hrow B e'.symm
    rw [show X.heap[B]? = _ from hp] at ho; cases ho; cases hc
  · obtain ⟨o, ho, hc⟩ := hrow g e'.symm
    rw [hcs] at ho; cases ho; cases hc
end Go.Proofs.YtglknakgfnoeaaaDoor
