/-
  WALKS: the copying, comparing, marking and holding of lists of ints by which the exact laws ask.
-/
import Derived.Test.YtepkahmialnifaaBase
import Derived.Test.YtepkahmialnifaaProg
import Derived.Deep.QuietTactic
import Derived.BigQuiet
namespace Go.Proofs.Ytepkahmialnifaa
set_option linter.unusedVariables false
set_option linter.unusedSimpArgs false
open Go.RowKit

theorem infoInt : (Try.prog.info? 3).map (fun i => (i.zero, i.size, i.bytes)) = some (some (.int .i64 0), 1, 8) := by kernel_rfl

/-- n zeros. -/
def zeros (n : Nat) : Array Value := Array.replicate n (.int .i64 0)
theorem zeros_size (n : Nat) : (zeros n).size = n := by simp [zeros]

theorem make_ints (n c : Nat) (hnc : n ≤ c) (hc : c ≤ 4194304) (W : World) : (Instr.makeSlice 22 (.int .i64 (n : Int)) (.int .i64 (c : Int))).run Try.prog W =
    .ok (.slice (some ⟨W.heap.size, 0, none⟩) n c) (W.alloc (.cells (zeros c) 3)) := by
  obtain ⟨i0, hi, hz0, hz1, hz2⟩ := info_parts infoInt
  have hb : (i0.bytes : Int) * (c : Int) ≤ 281474976710656 := by rw [hz2]; omega
  have hr := run_make (P := Try.prog) W 22 3 i0 (.int .i64 0) Try.underlying22 hi hz0 .i64 .i64 n c (by omega) (by omega) hb (by omega)
  simp only [Int.toNat_natCast] at hr
  rw [hr, hz1, Nat.mul_one]
  congr 2
  have : madeCells (Value.int .i64 0).cells c = zeros c := by
    apply Array.ext'
    show (madeCells #[.int .i64 0] c).toList = _
    rw [toList_madeCells_one]; simp [zeros]
  rw [this]

/-- A new list of ints comes back; what there was lies as it lay. -/
def RetFresh (w : World) (xs : List Int) (e : Ending) (w' : World) : Prop :=
  ∃ A cap, e = .returned (.slice A xs.length cap) ∧ xs.length ≤ cap ∧ cap ≤ 9223372036854775807 ∧ Fresh w' w.heap.size w'.heap.size A xs ∧ Below w.heap.size w w'

set_option maxHeartbeats 800000 in
theorem toIntS_any (A : Option Addr) (xs : List Int) (cap : Nat) (w : World) (h : Ints w w.heap.size A xs) (hn : xs.length ≤ 1048576) :
    Calls Try.prog 16 #[.slice A xs.length cap] w (RetFresh w xs) := by
  have H := hide h
  have hmk := hide (make_ints xs.length xs.length (Nat.le_refl _) (by omega))
  clear h
  go_enter Try.func16, Try.ntmps16
  have hm := hmk.out
  go_wp2
  clear hm hmk
  go_loopw [4] (fun i wr => ∃ (k : Nat) (cur : Array Value), k ≤ xs.length ∧ i = .int .i64 k ∧ Hid (wr.heap[w.heap.size]? = some (.cells cur 3 (0, 0))) ∧ Hid (cur.size = xs.length) ∧ Hid (∀ j, j < k → cur[j]? = some (.int .i64 (at0 xs j))) ∧ Hid (Below w.heap.size w wr))
    (fun i _ => xs.length - (intOf i).toNat)
  case atStart =>
    exact ⟨0, zeros xs.length, Nat.zero_le _, rfl, heap_alloc_new w _, zeros_size _, fun j hj => absurd hj (by omega), (Below.refl _ w).alloc (Nat.le_refl _) _⟩
  case round =>
    obtain ⟨k, cur, hk, rfl, hblk, hsz, hcur, hbel⟩ := hrel
    by_cases hlt : k < xs.length
    · obtain ⟨b, off, rfl, hb, hc⟩ := H.out (by omega)
      have hcell : wr.cell? ⟨b, off + k, none⟩ = some (.int .i64 (at0 xs k)) := (hbel.out.cell (p := ⟨b, off + k, none⟩) hb).trans (hc k hlt)
      clear hc H
      have hdst : wr.cell? ⟨w.heap.size, 0 + k, none⟩ = some (cur[k]'(by rw [hsz.out]; exact hlt)) := by
        rw [Nat.zero_add]
        exact (cell_of_row wr w.heap.size k cur 3 (0, 0) hblk.out).trans (Array.getElem?_eq_getElem _)
      have hfr : wr.frozen? ⟨w.heap.size, 0 + k, none⟩ = false := by
        have := hblk.out
        simp [World.frozen?, this]
      simp only [Nat.zero_add] at hdst hfr
      go_wp2
      go_roundw
      case rel =>
        refine ⟨k + 1, cur.setIfInBounds k (.int .i64 (at0 xs k)), by omega, by go_num, ?_, ?_, ?_, ?_⟩
        · have := hblk.out
          show (World.setCell _ _ _).heap[w.heap.size]? = _
          simp [World.setCell, Array.getElem?_modify, this]
        · show (cur.setIfInBounds k _).size = _
          simp [hsz.out]
        · intro j hj
          have hs := hsz.out
          by_cases hjk : j = k
          · subst hjk
            simp [Array.getElem?_setIfInBounds, hs, hlt]
          · rw [Array.getElem?_setIfInBounds, if_neg (by omega)]
            exact hcur.out j (by omega)
        · exact hbel.out.setCell (p := ⟨w.heap.size, k, none⟩) (Nat.le_refl _) _
      case measure => simp [intOf]; omega
    · have hkk : k = xs.length := by omega
      subst hkk
      go_wp2
      go_ret
      have hgt : w.heap.size < wr.heap.size := by
        have := hblk.out
        rcases Nat.lt_or_ge w.heap.size wr.heap.size with h | h
        · exact h
        · rw [Array.getElem?_eq_none h] at this; cases this
      refine ⟨_, _, rfl, Nat.le_refl _, by omega, fun hp => ⟨w.heap.size, 0, rfl, Nat.le_refl _, hgt, fun j hj => ⟨?_, ?_⟩⟩, hbel.out⟩
      · rw [Nat.zero_add]
        exact (cell_of_row wr w.heap.size j cur 3 (0, 0) hblk.out).trans (hcur.out j hj)
      · have := hblk.out
        simp [World.frozen?, this]

set_option maxHeartbeats 800000 in
theorem eqIntS_same (A A' : Option Addr) (xs : List Int) (c c' : Nat) (w : World) (h : Ints w w.heap.size A xs) (h' : Ints w w.heap.size A' xs) (hn : xs.length ≤ 4194304) :
    Calls Try.prog 18 #[.slice A xs.length c, .slice A' xs.length c'] w fun e w' => e = .returned (.bool true) ∧ Below w.heap.size w w' := by
  have H := hide h
  have H' := hide h'
  clear h h'
  go_enter Try.func18, Try.ntmps18
  go_wp2
  go_loopw [5] (fun i wr => ∃ k : Nat, k ≤ xs.length ∧ i = .int .i64 k ∧ Hid (Below w.heap.size w wr)) (fun i _ => xs.length - (intOf i).toNat)
  case atStart => exact ⟨0, Nat.zero_le _, rfl, Below.refl _ _⟩
  case round =>
    obtain ⟨k, hk, rfl, hbel⟩ := hrel
    by_cases hlt : k < xs.length
    · obtain ⟨b, off, rfl, hb, hc⟩ := H.out (by omega)
      obtain ⟨b', off', rfl, hb', hc'⟩ := H'.out (by omega)
      have hcell : wr.cell? ⟨b, off + k, none⟩ = some (.int .i64 (at0 xs k)) := (hbel.out.cell (p := ⟨b, off + k, none⟩) hb).trans (hc k hlt)
      have hcell' : wr.cell? ⟨b', off' + k, none⟩ = some (.int .i64 (at0 xs k)) := (hbel.out.cell (p := ⟨b', off' + k, none⟩) hb').trans (hc' k hlt)
      clear hc hc' H H'
      have hlti : (k : Int) < (xs.length : Int) := by omega
      have h0i : (0 : Int) ≤ (k : Int) := by omega
      go_wp2
      go_quiet (fail)
      go_wp2
      go_roundw
      case rel => exact ⟨k + 1, by omega, by go_num, by first | exact hbel.out.drew | exact below_drewN hbel.out _⟩
      case measure => simp [intOf]; omega
    · go_wp2
      go_ret
      exact ⟨rfl, hbel.out⟩
end Go.Proofs.Ytepkahmialnifaa
