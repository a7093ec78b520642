/-
  WORDS FOR MEMORY, AND SMALL LEMMAS: of no program: a slice of ints that reads as a list ('Ints'), one that the call has made ('Fresh'), a number between two others ('inB').
-/
import Derived.WalkKit
import Derived.ProofKit
import Derived.OpenShut
import Derived.Below
import Derived.Handy
import Derived.Laws.OwnMore
import Derived.Laws.MakeOwn
import Derived.Deep.AppendLies
import Derived.Deep.Draws

import Derived.OneCell
namespace Go.Proofs.YtglknakgfnoeaaaDoor
set_option linter.unusedVariables false
set_option linter.unusedSimpArgs false
open Go.RowKit

/-- A fact kept from the walk. -/
theorem hide {p : Prop} (h : p) : Hid p := h

/-- The number at a place of a list; 0 behind its end. -/
def at0 (xs : List Int) (k : Nat) : Int := xs[k]?.getD 0
theorem at0_eq (xs : List Int) (k : Nat) : at0 xs k = xs[k]?.getD 0 := rfl
theorem at0_lt {xs : List Int} {k : Nat} (h : k < xs.length) : at0 xs k = xs[k] := by simp [at0, h]

/-- A number lies between two others. -/
def inB (n lo hi : Int) : Bool := decide (lo ≤ n) && decide (n ≤ hi)
theorem inB_iff {n lo hi : Int} : inB n lo hi = true ↔ lo ≤ n ∧ n ≤ hi := by simp [inB]
theorem inB_yes {n lo hi : Int} (h1 : lo ≤ n) (h2 : n ≤ hi) : inB n lo hi = true := inB_iff.2 ⟨h1, h2⟩
theorem inB_no {n lo hi : Int} (h : ¬ (lo ≤ n ∧ n ≤ hi)) : inB n lo hi = false := by
  cases e : inB n lo hi
  · rfl
  · exact absurd (inB_iff.1 e) h
theorem inB_false {n lo hi : Int} : inB n lo hi = false ↔ ¬ (lo ≤ n ∧ n ≤ hi) := by
  rw [← inB_iff]; simp

/-- All numbers of a list lie between two others. -/
def allIn (xs : List Int) (lo hi : Int) : Bool := xs.all fun n => inB n lo hi
theorem allIn_true {xs : List Int} {lo hi : Int} (h : ∀ k, k < xs.length → inB (at0 xs k) lo hi = true) : allIn xs lo hi = true := by
  simp only [allIn, List.all_eq_true]
  intro x hx
  obtain ⟨k, hk, rfl⟩ := List.getElem_of_mem hx
  rw [← at0_lt hk]; exact h k hk
theorem allIn_false {xs : List Int} {lo hi : Int} {k : Nat} (hk : k < xs.length) (h : inB (at0 xs k) lo hi = false) : allIn xs lo hi = false := by
  cases e : allIn xs lo hi
  · rfl
  · simp only [allIn, List.all_eq_true] at e
    have := e (xs[k]) (List.getElem_mem hk)
    rw [at0_lt hk] at h
    rw [h] at this; cases this
theorem allIn_get {xs : List Int} {lo hi : Int} (h : allIn xs lo hi = true) {k : Nat} (hk : k < xs.length) : lo ≤ at0 xs k ∧ at0 xs k ≤ hi := by
  simp only [allIn, List.all_eq_true] at h
  have := h (xs[k]) (List.getElem_mem hk)
  rw [at0_lt hk]
  exact inB_iff.1 this

/-- The slice at A holds the ints xs, in cells of a block below hi. -/
def Ints (w : World) (hi : Nat) (A : Option Addr) (xs : List Int) : Prop :=
  0 < xs.length → ∃ b off, A = some ⟨b, off, none⟩ ∧ b < hi ∧ ∀ j, j < xs.length → w.cell? ⟨b, off + j, none⟩ = some (.int .i64 (at0 xs j))

/-- The slice at A holds the ints xs, in cells of a block that may be written and lies from lo on, below hi. -/
def Fresh (w : World) (lo hi : Nat) (A : Option Addr) (xs : List Int) : Prop :=
  0 < xs.length → ∃ b off, A = some ⟨b, off, none⟩ ∧ lo ≤ b ∧ b < hi ∧ ∀ j, j < xs.length → w.cell? ⟨b, off + j, none⟩ = some (.int .i64 (at0 xs j)) ∧ w.frozen? ⟨b, off + j, none⟩ = false

section
variable {w w' : World} {lo hi hi' : Nat} {A : Option Addr} {xs : List Int}
theorem Ints.nil (w : World) (hi : Nat) (A : Option Addr) : Ints w hi A [] := fun h => absurd h (by simp)
theorem Ints.mono (h : Ints w hi A xs) (hh : hi ≤ hi') : Ints w hi' A xs := fun hp => by
  obtain ⟨b, off, e, hb, hc⟩ := h hp
  exact ⟨b, off, e, by omega, hc⟩
theorem Ints.below (h : Ints w hi A xs) (hb : Below hi w w') : Ints w' hi A xs := fun hp => by
  obtain ⟨b, off, e, hlt, hc⟩ := h hp
  exact ⟨b, off, e, hlt, fun j hj => (hb.cell (p := ⟨b, off + j, none⟩) hlt).trans (hc j hj)⟩
theorem Ints.next (h : Ints w w.heap.size A xs) (hb : Below w.heap.size w w') : Ints w' w'.heap.size A xs := (h.below hb).mono hb.size
theorem Ints.drop (h : Ints w hi A xs) (k : Nat) (hk : k ≤ xs.length) : Ints w hi (A.map fun a => a.add k) (xs.drop k) := fun hp => by
  obtain ⟨b, off, rfl, hlt, hc⟩ := h (by simp at hp; omega)
  refine ⟨b, off + k, ?_, hlt, fun j hj => ?_⟩
  · by_cases h0 : k = 0
    · subst h0; simp [Addr.add]
    · simp [Addr.add, h0]
  · have := hc (k + j) (by simp at hj; omega)
    rw [← Nat.add_assoc] at this
    rw [this]
    simp [at0]
theorem Ints.take (h : Ints w hi A xs) (k : Nat) : Ints w hi A (xs.take k) := fun hp => by
  obtain ⟨b, off, e, hlt, hc⟩ := h (by simp at hp; omega)
  refine ⟨b, off, e, hlt, fun j hj => ?_⟩
  have hj' : j < min k xs.length := by simpa using hj
  rw [hc j (by omega)]
  simp [at0, show j < k by omega]
theorem Fresh.nil (w : World) (lo hi : Nat) (A : Option Addr) : Fresh w lo hi A [] := fun h => absurd h (by simp)
theorem Fresh.ints (h : Fresh w lo hi A xs) : Ints w hi A xs := fun hp => by
  obtain ⟨b, off, e, _, hb, hc⟩ := h hp
  exact ⟨b, off, e, hb, fun j hj => (hc j hj).1⟩
theorem Fresh.mono {lo' : Nat} (h : Fresh w lo hi A xs) (hl : lo' ≤ lo) (hh : hi ≤ hi') : Fresh w lo' hi' A xs := fun hp => by
  obtain ⟨b, off, e, hb1, hb, hc⟩ := h hp
  exact ⟨b, off, e, by omega, by omega, hc⟩
theorem Fresh.below (h : Fresh w lo hi A xs) (hb : Below hi w w') : Fresh w' lo hi A xs := fun hp => by
  obtain ⟨b, off, e, h1, hlt, hc⟩ := h hp
  exact ⟨b, off, e, h1, hlt, fun j hj => ⟨(hb.cell (p := ⟨b, off + j, none⟩) hlt).trans (hc j hj).1, (hb.frozen (p := ⟨b, off + j, none⟩) hlt).trans (hc j hj).2⟩⟩
/-- What the call owns from a block on. -/
theorem Fresh.of_own {base : Nat} {e : TypeId} {n cap : Nat} (h : w.ownsRow base e 1 (.slice A n cap) n (xs.map (Value.int .i64))) : Fresh w base w.heap.size A xs := fun hp => by
  have hlen : xs.length = n := by have := h.1; simpa using this
  obtain ⟨g, cap', hv, hb, hlt⟩ := h.form (by omega)
  have hA : A = some ⟨g, 0, none⟩ ∧ cap = cap' := by
    injection hv with h1 h2 h3
    exact ⟨h1, h3⟩
  obtain ⟨rfl, rfl⟩ := hA
  refine ⟨g, 0, rfl, hb, hlt, fun j hj => ⟨?_, h.frozenAt (0 + j)⟩⟩
  have := h.cellAt j (by omega)
  rw [Nat.zero_add, this, List.getElem?_map, List.getElem?_eq_getElem hj, at0_lt hj]
  rfl
end

/-- Blocks beside one that has turned lie as they lay. -/
theorem Ints.only {w w' : World} {hi : Nat} {A : Option Addr} {xs : List Int} {row : Option Nat} (h : Ints w hi A xs) (hg : w.grownBy w' row) (hhi : hi ≤ w.heap.size) (hr : ∀ g, row = some g → hi ≤ g) : Ints w' hi A xs := fun hp => by
  obtain ⟨b, off, e, hlt, hc⟩ := h hp
  exact ⟨b, off, e, hlt, fun j hj => (World.cell?_of_block (hg.block b (by omega) (fun e => by have := hr _ e.symm; omega))).trans (hc j hj)⟩

/-- What is known of a slice of numbers that came in: len of them, in cells of a block that there was; each fits its kind. -/
def IsList (k : IntKind) (w : World) (A : Option Addr) (len cap : Nat) (xs : List Int) : Prop :=
  xs.length = len ∧ len ≤ cap ∧ cap ≤ maxLen ∧ (∀ n ∈ xs, (Lit.int k n).wf = true) ∧
  (0 < len → ∃ b off, A = some ⟨b, off, none⟩ ∧ b < w.heap.size ∧ ∀ j, j < len → w.cell? ⟨b, off + j, none⟩ = some (.int k (at0 xs j)))
theorem IsList.nil {k : IntKind} (w : World) (A : Option Addr) : IsList k w A 0 0 [] := ⟨rfl, Nat.le_refl _, Nat.zero_le _, by simp, fun h => absurd h (by omega)⟩
theorem IsList.of_cells {k : IntKind} {w : World} {x : Addr} {len cap : Nat} {zs : List Int} (hl : len ≤ cap) (hm : cap ≤ maxLen) (hz : zs.length = cap)
    (hc : ∀ i, i < zs.length → w.cell? (x.add i) = some (.int k (zs.getD i 0))) (hw : ∀ n ∈ zs, (Lit.int k n).wf = true) : IsList k w (some x) len cap (zs.take len) := by
  refine ⟨by simp; omega, hl, hm, fun n hn => hw n (List.mem_of_mem_take hn), fun hp => ?_⟩
  obtain ⟨b, off, spot⟩ := x
  have h0 := hc 0 (by omega)
  have hspot : spot = none := by simpa [Addr.add] using World.cell?_spot h0
  subst hspot
  refine ⟨b, off, rfl, ?_, fun j hj => ?_⟩
  · have := World.block_lt_of_cell? w _ h0
    simpa [Addr.add] using this
  · have h1 := hc j (by omega)
    have e : (⟨b, off, none⟩ : Addr).add j = ⟨b, off + j, none⟩ := by
      by_cases h0 : j = 0
      · subst h0; simp [Addr.add]
      · simp [Addr.add, h0]
    rw [e] at h1
    rw [h1]
    simp [at0, hj]
theorem IsList.ints {w : World} {A : Option Addr} {len cap : Nat} {xs : List Int} (h : IsList .i64 w A len cap xs) : Ints w w.heap.size A xs := fun hp => by
  obtain ⟨rfl, _, _, _, h5⟩ := h
  exact h5 hp
/-- A 64-bit number's bounds. -/
theorem bd_i64 {a : Int} (h : (Lit.int .i64 a).wf = true) : -9223372036854775808 ≤ a ∧ a ≤ 9223372036854775807 := by
  simpa [Lit.wf, IntKind.min, IntKind.max, IntKind.signed, IntKind.bits] using h
theorem bt {w a b : World} (h1 : Below w.heap.size w a) (h2 : Below a.heap.size a b) : Below w.heap.size w b := h1.trans (h2.mono h1.size)
theorem below_drewN {B : Nat} {a w : World} (h : Below B a w) (n : Nat) : Below B a (w.drewN n) := ⟨h.os, h.tape, h.output, h.size, h.block⟩

/-- Two cells of a block, written one behind the other, read. -/
theorem two_set {w : World} {B : Nat} {a b u0 u1 : Value} (h0 : w.cell? ⟨B, 0, none⟩ = some u0) (h1 : w.cell? ⟨B, 1, none⟩ = some u1) :
    (w.setCell ⟨B, 0, none⟩ a).cell? ⟨B, 0, none⟩ = some a ∧ ((w.setCell ⟨B, 0, none⟩ a).setCell ⟨B, 1, none⟩ b).cell? ⟨B, 1, none⟩ = some b := by
  refine ⟨World.cell?_setCell_same' _ _ _ (by rw [h0]; rfl), World.cell?_setCell_same' _ _ _ ?_⟩
  rw [World.cell?_setCell_other _ _ _ _ (by simp), h1]; rfl

theorem four_set {w : World} {B C : Nat} {a b c d u0 u1 u2 u3 : Value} (hBC : B ≠ C) (h0 : w.cell? ⟨B, 0, none⟩ = some u0) (h1 : w.cell? ⟨B, 1, none⟩ = some u1) (h2 : w.cell? ⟨C, 0, none⟩ = some u2) (h3 : w.cell? ⟨C, 1, none⟩ = some u3) :
    (w.setCell ⟨B, 0, none⟩ a).cell? ⟨B, 0, none⟩ = some a ∧ ((w.setCell ⟨B, 0, none⟩ a).setCell ⟨B, 1, none⟩ b).cell? ⟨B, 1, none⟩ = some b ∧
    (((w.setCell ⟨B, 0, none⟩ a).setCell ⟨B, 1, none⟩ b).setCell ⟨C, 0, none⟩ c).cell? ⟨C, 0, none⟩ = some c ∧
    ((((w.setCell ⟨B, 0, none⟩ a).setCell ⟨B, 1, none⟩ b).setCell ⟨C, 0, none⟩ c).setCell ⟨C, 1, none⟩ d).cell? ⟨C, 1, none⟩ = some d := by
  have o : ∀ (W : World) (i j : Nat) (v : Value), (W.setCell ⟨B, i, none⟩ v).cell? ⟨C, j, none⟩ = W.cell? ⟨C, j, none⟩ := fun W i j v => World.cell?_setCell_other _ _ _ _ (fun e => hBC (congrArg Addr.block e))
  refine ⟨(two_set (b := b) h0 h1).1, (two_set h0 h1).2, ?_, ?_⟩
  · exact (two_set (b := d) (u1 := u3) (by rw [o, o]; exact h2) (by rw [o, o]; exact h3)).1
  · exact (two_set (u0 := u2) (by rw [o, o]; exact h2) (by rw [o, o]; exact h3)).2

theorem ret_int {k : IntKind} {a b : Int} (h : a = b) : Ending.returned (.int k a) = .returned (.int k b) := by rw [h]
theorem ret_bool {a b : Bool} (h : a = b) : Ending.returned (.bool a) = .returned (.bool b) := by rw [h]

end Go.Proofs.YtglknakgfnoeaaaDoor
