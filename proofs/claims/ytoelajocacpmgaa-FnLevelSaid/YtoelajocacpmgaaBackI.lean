/-
  WALKS: a floor in the opposite order: the program's.
-/
import Derived.Test.YtoelajocacpmgaaReverse
namespace Go.Proofs.Ytoelajocacpmgaa
set_option linter.unusedVariables false
set_option linter.unusedSimpArgs false
open Go.RowKit Go.Shelf Go.Sort Go.Lib

theorem grownBy_put (w : World) (n blk off : Nat) (d : Array Int) : w.grownBy (putRow (Value.int .i64) (Sort.ahead w n) blk off d) (some blk) :=
  ⟨rfl, rfl, rfl, by simp [Sort.ahead], fun i hi hne => by
    simp only [putRow, mapBlock, Sort.ahead]
    rw [Array.getElem?_modify]
    rw [if_neg (fun e => hne (by rw [e]))]⟩

theorem reverse_any (lo hi : Nat) (A : Option Addr) (xs : List Int) (cap : Nat) (w : World) (h : Fresh w lo hi A xs) (hp : 0 < xs.length) (hn : xs.length ≤ 1048576) :
    Calls Try.prog 65 #[.slice A xs.length cap] w fun e w' => e = .returned (.tuple #[]) ∧ Fresh w' lo hi A xs.reverse ∧ w'.heap.size = w.heap.size ∧ ∃ row, w.grownBy w' row ∧ ∀ g, row = some g → lo ≤ g ∧ g < hi := by
  obtain ⟨b, off, rfl, h1, h2, hc⟩ := h hp
  have hH : Holds (Value.int .i64) w b off xs.toArray := fun j hj => by
    simp only [List.size_toArray] at hj
    have := hc j hj
    simpa [at0, getElem!_pos, hj] using this
  have hsz : xs.toArray.size = xs.length := List.size_toArray
  have := reverse_arr b off cap xs.toArray w hH (by rw [hsz]; omega)
  rw [hsz] at this
  refine this.mono ?_
  rintro e w' ⟨rfl, n, rfl⟩
  have hput := holds_putRow (Value.int .i64) (Sort.ahead w n) b off xs.toArray xs.toArray.reverse (holds_ahead (Value.int .i64) w n b off xs.toArray hH) (by simp)
  refine ⟨rfl, fun _ => ⟨b, off, rfl, h1, h2, fun j hj => ?_⟩, by simp [Sort.ahead], some b, grownBy_put w n b off _, fun g e => by cases e; exact ⟨h1, h2⟩⟩
  have hj' : j < xs.length := by simpa using hj
  have := hput j (by simpa using hj')
  simpa [at0, getElem!_pos, hj'] using this

theorem back_rev (xs : List Int) : upto (backF xs) xs.length = xs.reverse := by
  apply list_eq_of_at0
  · simp [upto_length]
  · intro j hj
    rw [upto_length] at hj
    rw [at0_upto _ hj]
    simp only [backF, at0]
    rw [List.getElem?_reverse hj]

set_option maxHeartbeats 800000 in
theorem floorBack_any (A : Option Addr) (xs : List Int) (cap : Nat) (w : World) (h : Ints w w.heap.size A xs) (hn : xs.length ≤ 1048576) :
    Calls Try.prog 19 #[.slice A xs.length cap] w (RetList w (back xs) (floorOk xs)) := by
  have H := hide h
  clear h
  by_cases hf : floorOk xs = true
  · have HF := hide hf
    have HN := hide (show back xs = xs.reverse by simp [back, hf, back_rev])
    obtain ⟨hl1, hl2⟩ := floorOk_len hf
    obtain ⟨b, off, rfl, hb, hc⟩ := H.out (by omega)
    rw [HN.out, hf]
    clear hf hc
    go_enter Try.func19, Try.ntmps19
    go_wp2_with fail
    refine (floorValid_any _ xs _ _ H.out hn).mono ?_
    rintro e w1 ⟨rfl, hb1⟩
    rw [HF.out]
    go_wp2_with fail
    refine (clone_any b off xs _ _ (H.out.next hb1) hn (by omega)).mono ?_
    rintro e w2 ⟨A2, c2, rfl, h1, h2, hfr, hb2⟩
    go_wp2_with fail
    refine (reverse_any _ _ _ xs _ _ hfr (by omega) hn).mono ?_
    rintro e w3 ⟨rfl, hr, hsz, row, hg, hrow⟩
    have HS := hide hsz
    clear hsz
    go_wp2
    go_ret2
    have s1 := hb1.size
    have s2 := hb2.size
    have s3 := HS.out
    refine ⟨A2, c2, by rw [List.length_reverse]; rfl, by rw [List.length_reverse]; exact h1, h2, hr.mono s1 (by omega), (bt hb1 hb2).grown hg (by omega) (fun g e => by have := hrow g e; omega)⟩
  · have hf' : floorOk xs = false := by simpa using hf
    have HN := hide (show back xs = [] by simp [back, hf'])
    rw [HN.out]
    clear hf
    go_enter Try.func19, Try.ntmps19
    go_wp2_with (go_at_call 63; refine (floorValid_any _ xs _ _ H.out hn).mono ?_; rintro e w1 ⟨rfl, hb1⟩)
    go_ret2
    rw [hf']
    exact RetList.nil hb1
end Go.Proofs.Ytoelajocacpmgaa
