/-
  WALKS: marking a list of ints, and asking whether the marks are held: by these the exact laws ask whether memory is shared.
-/
import Derived.Test.YtepkahmialnifaaInts
import Derived.Test.YtepkahmialnifaaPlain
namespace Go.Proofs.Ytepkahmialnifaa
set_option linter.unusedVariables false
set_option linter.unusedSimpArgs false
open Go.RowKit

/-- The marks from k on. -/
def marks (k : Int) (n : Nat) : List Int := upto (fun j => k + (j : Int)) n
theorem marks_length (k : Int) (n : Nat) : (marks k n).length = n := upto_length _ _
theorem at0_marks (k : Int) {n j : Nat} (h : j < n) : at0 (marks k n) j = k + (j : Int) := at0_upto _ h

/-- A list has been marked: its cells hold the marks; nothing else has turned. -/
def Marked (w : World) (lo hi : Nat) (A : Option Addr) (k : Int) (n : Nat) (e : Ending) (w' : World) : Prop :=
  e = .returned (.int .i64 (k + (n : Int))) ∧ Fresh w' lo hi A (marks k n) ∧ w'.heap.size = w.heap.size ∧ ∃ row, w.grownBy w' row ∧ ∀ g, row = some g → lo ≤ g ∧ g < hi

set_option maxHeartbeats 800000 in
theorem markIntS_any (lo hi : Nat) (A : Option Addr) (xs : List Int) (cap : Nat) (k : Int) (w : World) (h : Fresh w lo hi A xs) (hh : hi ≤ w.heap.size) (hn : xs.length ≤ 4194304) (hk0 : 0 ≤ k) (hk : k ≤ 1000000000) :
    Calls Try.prog 23 #[.slice A xs.length cap, .int .i64 k] w (Marked w lo hi A k xs.length) := by
  by_cases h0 : xs.length = 0
  · have HE := hide h0
    have hx : xs = [] := List.length_eq_zero_iff.1 h0
    subst hx
    clear h0 HE
    go_enter Try.func23, Try.ntmps23
    go_wp2
    go_loop [1, 5] (fun v i => v = .int .i64 k ∧ i = .int .i64 0) (fun _ _ => 0)
    case atStart => exact ⟨rfl, rfl⟩
    case round =>
      obtain ⟨rfl, rfl⟩ := hrel
      go_wp2
      go_ret
      exact ⟨by simp, Fresh.nil _ _ _ _, rfl, none, World.grownBy.refl w _, fun g e => by cases e⟩
  · obtain ⟨b, off, rfl, hlo, hhi, hc⟩ := h (by omega)
    have HC := hide hc
    have HH := hide h
    clear h hc
    go_enter Try.func23, Try.ntmps23
    go_wp2
    go_loopw [1, 5] (fun v i wr => ∃ n : Nat, n ≤ xs.length ∧ v = .int .i64 (k + (n : Int)) ∧ i = .int .i64 (n : Int) ∧ wr.heap.size = w.heap.size ∧ Hid (w.grownBy wr (some b)) ∧
        Hid (∀ j, j < n → wr.cell? ⟨b, off + j, none⟩ = some (.int .i64 (k + (j : Int)))) ∧ Hid (∀ j, n ≤ j → j < xs.length → wr.cell? ⟨b, off + j, none⟩ = some (.int .i64 (at0 xs j))) ∧ Hid (∀ j, j < xs.length → wr.frozen? ⟨b, off + j, none⟩ = false))
      (fun _ i _ => xs.length - (intOf i).toNat)
    case atStart => exact ⟨0, Nat.zero_le _, by simp, rfl, rfl, World.grownBy.refl w _, fun j hj => absurd hj (by omega), fun j _ hj => (HC.out j hj).1, fun j hj => (HC.out j hj).2⟩
    case round =>
      obtain ⟨n, hnl, rfl, rfl, hsz, hg, hold, hnew, hfz⟩ := hrel
      have Hsz := hide hsz
      clear hsz
      by_cases hlt : n < xs.length
      · have c1 := hnew.out n (Nat.le_refl _) hlt
        have f1 := hfz.out n hlt
        go_wp2
        go_roundw
        case rel =>
          refine ⟨n + 1, by omega, by go_num, by go_num, by simpa [World.setCell] using Hsz.out, ?_, ?_, ?_, ?_⟩
          · have G := hg.out
            exact ⟨G.os, G.tape, G.output, by have := G.size; simpa [World.setCell] using this, fun i hi hne => (Below.heap_setCell wr ⟨b, off + n, none⟩ _ i (fun e => hne (by rw [e]))).trans (G.block i hi hne)⟩
          · intro j hj
            by_cases hjn : j = n
            · subst hjn
              exact World.cell?_setCell_same' _ _ _ (by rw [c1]; rfl)
            · exact (World.cell?_setCell_other _ _ _ _ (fun e => by have h1 : off + n = off + j := congrArg Addr.off e; omega)).trans (hold.out j (by omega))
          · intro j hj1 hj2
            exact (World.cell?_setCell_other _ _ _ _ (fun e => by have h1 : off + n = off + j := congrArg Addr.off e; omega)).trans (hnew.out j (by omega) hj2)
          · intro j hj
            rw [World.frozen?_setCell]; exact hfz.out j hj
        case measure => simp [intOf]; omega
      · have hkk : n = xs.length := by omega
        subst hkk
        go_wp2
        go_ret
        refine ⟨rfl, fun hp => ⟨b, off, rfl, hlo, hhi, fun j hj => ?_⟩, Hsz.out, some b, hg.out, fun g e => by cases e; exact ⟨hlo, hhi⟩⟩
        rw [marks_length] at hj
        rw [at0_marks k hj]
        exact ⟨hold.out j hj, hfz.out j hj⟩

set_option maxHeartbeats 800000 in
theorem heldIntS_any (A : Option Addr) (n : Nat) (cap : Nat) (k : Int) (w : World) (h : Ints w w.heap.size A (marks k n)) (hn : n ≤ 4194304) (hk0 : 0 ≤ k) (hk : k ≤ 1000000000) :
    Calls Try.prog 24 #[.slice A n cap, .int .i64 k] w fun e w' => e = .returned (.int .i64 (k + (n : Int))) ∧ w = w' := by
  have H := hide h
  clear h
  go_enter Try.func24, Try.ntmps24
  go_wp2
  go_loop [1, 5] (fun v i => ∃ j : Nat, j ≤ n ∧ v = .int .i64 (k + (j : Int)) ∧ i = .int .i64 (j : Int)) (fun _ i => n - (intOf i).toNat)
  case atStart => exact ⟨0, Nat.zero_le _, by simp, rfl⟩
  case round =>
    obtain ⟨j, hj, rfl, rfl⟩ := hrel
    by_cases hlt : j < n
    · obtain ⟨b, off, rfl, hb, hc⟩ := H.out (by rw [marks_length]; omega)
      have hcell := hc j (by rw [marks_length]; exact hlt)
      rw [at0_marks k hlt] at hcell
      clear hc H
      go_wp2
      go_round
      case rel => exact ⟨j + 1, by omega, by go_num, by go_num⟩
      case measure => simp [intOf]; omega
    · have hkk : j = n := by omega
      subst hkk
      go_wp2
      go_ret
      exact ⟨rfl, rfl⟩

/-- What lies below a marked list, or beyond it, is as it was. -/
theorem Ints.marked {w w' : World} {lo hi : Nat} {A B : Option Addr} {k : Int} {n : Nat} {e : Ending} {ys : List Int} (hm : Marked w lo hi B k n e w') {l h : Nat} (hf : Fresh w l h A ys) (hh : h ≤ w.heap.size) (hd : h ≤ lo ∨ hi ≤ l) : Fresh w' l h A ys := fun hp => by
  obtain ⟨b, off, e1, h1, h2, hc⟩ := hf hp
  obtain ⟨_, _, _, row, hg, hr⟩ := hm
  have hb : w'.heap[b]? = w.heap[b]? := hg.block b (by omega) (fun e => by have := hr _ e.symm; omega)
  exact ⟨b, off, e1, h1, h2, fun j hj => ⟨(World.cell?_of_block (a := ⟨b, off + j, none⟩) hb).trans (hc j hj).1, (World.frozen?_of_block (a := ⟨b, off + j, none⟩) hb).trans (hc j hj).2⟩⟩
theorem Marked.below {w w' : World} {B lo hi : Nat} {A : Option Addr} {k : Int} {n : Nat} {e : Ending} (hm : Marked w lo hi A k n e w') (hB : B ≤ lo) (hBw : B ≤ w.heap.size) : Below B w w' := by
  obtain ⟨_, _, _, row, hg, hr⟩ := hm
  exact (Below.refl B w).grown hg hBw (fun g e => by have := hr g e; omega)
end Go.Proofs.Ytepkahmialnifaa
