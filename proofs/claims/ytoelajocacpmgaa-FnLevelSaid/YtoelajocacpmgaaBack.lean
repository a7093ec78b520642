/-
  WALKS: a floor in the opposite order: the reference's.
-/
import Derived.Test.YtoelajocacpmgaaClone
namespace Go.Proofs.Ytoelajocacpmgaa
set_option linter.unusedVariables false
set_option linter.unusedSimpArgs false
open Go.RowKit Go.Shelf
attribute [local go_sem] Oper.semAt_some

/-- A list from its end. -/
def backF (xs : List Int) (k : Nat) : Int := at0 xs (xs.length - 1 - k)
/-- The floor from its end; nothing, if it is none. -/
def back (xs : List Int) : List Int := if floorOk xs = true then upto (backF xs) xs.length else []
theorem back_le (xs : List Int) : (back xs).length ≤ xs.length := by
  unfold back; split
  · rw [upto_length]; omega
  · exact Nat.zero_le _

set_option maxHeartbeats 1600000 in
theorem specFloorBack_any (A : Option Addr) (xs : List Int) (cap : Nat) (w : World) (h : Ints w w.heap.size A xs) (hn : xs.length ≤ 1048576) :
    Calls Try.prog 30 #[.slice A xs.length cap] w (RetList w (back xs) (floorOk xs)) := by
  have H := hide h
  clear h
  obtain ⟨i0, hi, hz0, hz1, hz2⟩ := info_parts infoInt
  by_cases hf : floorOk xs = true
  · have HF := hide hf
    have HN := hide (show back xs = upto (backF xs) xs.length by simp [back, hf])
    obtain ⟨hl1, hl2⟩ := floorOk_len hf
    obtain ⟨b, off, rfl, hb, hc⟩ := H.out (by omega)
    have HC := hide hc
    rw [HN.out, hf]
    clear hf hc
    go_enter Try.func30, Try.ntmps30
    go_wp2
    go_loopw [4, 5] (fun v i wr => ∃ k : Nat, k ≤ xs.length ∧ i = .int .i64 ((xs.length : Int) - 1 - (k : Int)) ∧ wr.ownsRow w.heap.size 3 1 v k ((upto (backF xs) k).map (Value.int .i64)) ∧ Hid (Below w.heap.size w wr))
      (fun _ i _ => (intOf i + 1).toNat)
    case atStart => exact ⟨0, Nat.zero_le _, by simp, World.ownsRow_made w #[] 0 (Nat.le_refl _) (Nat.zero_le _) rfl, (Below.refl _ w).alloc (Nat.le_refl _) _⟩
    case round =>
      obtain ⟨k, hk, rfl, hown, hbel⟩ := hrel
      have HO := hide hown
      clear hown
      by_cases hlt : k < xs.length
      · have e1 : (0 : Int) ≤ (xs.length : Int) - 1 - (k : Int) := by omega
        have e2 : (xs.length : Int) - 1 - (k : Int) < (xs.length : Int) := by omega
        have e3 : ((xs.length : Int) - 1 - (k : Int)).toNat = xs.length - 1 - k := by omega
        have c1 : wr.cell? ⟨b, off + (xs.length - 1 - k), none⟩ = some (.int .i64 (backF xs k)) := (hbel.out.cell (p := ⟨b, off + (xs.length - 1 - k), none⟩) hb).trans (HC.out _ (by omega))
        have hB := hbel.out
        go_wp2_with fail
        refine (specFloorValid_any _ xs _ _ ((H.out.below hbel.out).mono hbel.out.size) hn).mono ?_
        rintro e w' ⟨rfl, rfl⟩
        rw [HF.out]
        go_wp2_with (at_builtin; refine wpList_append_own _ rfl _ _ 23 rfl w.heap.size 3 i0 (.int .i64 0) 1 8 Try.underlying23 hi hz0 hz1 hz2 rfl (by decide) _ _ _ rfl (HO.out.alloc (.cells #[.int .i64 (backF xs k)] 3)) ⟨wr.heap.size, 0, none⟩ 1 1 [.int .i64 (backF xs k)] rfl rfl (cell_one_new _ _ _) (by simp [Value.oneCell']) (by unfold maxLen; omega) (by omega) (by have := hB.size; simp; omega) ?_; intro v' w1 hown' hgrow _)
        go_roundw
        case rel =>
          refine ⟨k + 1, by omega, by go_num, by rw [upto_succ]; simpa using hown', ?_⟩
          exact (hB.alloc hB.size (.cells #[.int .i64 (backF xs k)] 3)).grown hgrow (by have := hB.size; simp; omega) (fun g hg => (HO.out.lt g hg).1)
        case measure => simp [intOf]; omega
      · have hkk : k = xs.length := by omega
        have HE := hide hkk
        have e1 : ¬ (0 : Int) ≤ (xs.length : Int) - 1 - (k : Int) := by omega
        clear hkk
        go_wp2_with fail
        refine (specFloorValid_any _ xs _ _ ((H.out.below hbel.out).mono hbel.out.size) hn).mono ?_
        rintro e w' ⟨rfl, rfl⟩
        rw [HF.out]
        go_wp2
        go_ret2
        have hown := HO.out
        obtain ⟨A2, c2, rfl, g1, g2⟩ := own_form hown
        rw [HE.out] at hown g1
        have hfr := Fresh.of_own (xs := upto (backF xs) xs.length) hown
        unfold maxLen at g2
        refine ⟨A2, c2, ?_, by rw [upto_length]; exact g1, by omega, hfr, hbel.out⟩
        rw [upto_length, ← HE.out]; rfl
  · have hf' : floorOk xs = false := by simpa using hf
    have HN := hide (show back xs = [] by simp [back, hf'])
    rw [HN.out]
    clear hf
    have HB := hide ((Below.refl w.heap.size w).alloc (Nat.le_refl _) (.cells #[] 3))
    have hV : ∀ W, Below w.heap.size w W → Calls Try.prog 71 #[.slice A xs.length cap] W fun e w' => e = .returned (.bool false) ∧ W = w' := fun W hb => by
      have := specFloorValid_any A xs cap W ((H.out.below hb).mono hb.size) hn
      rw [hf'] at this
      exact this
    have HV := hide hV
    clear hV
    rw [hf']
    go_enter Try.func30, Try.ntmps30
    go_wp2
    go_loop [4, 5] (fun v i => v = .slice (some ⟨w.heap.size, 0, none⟩) 0 0 ∧ i = .int .i64 ((xs.length : Int) - 1)) (fun _ _ => 0)
    case atStart => exact ⟨rfl, by simp⟩
    case round =>
      obtain ⟨rfl, rfl⟩ := hrel
      by_cases h1 : (0 : Int) ≤ (xs.length : Int) - 1
      · go_wp2_with (go_at_call 71; refine (HV.out _ HB.out).mono ?_; rintro e w' ⟨rfl, rfl⟩)
        go_ret2
        exact ⟨_, 0, rfl, Nat.le_refl _, by omega, Fresh.nil _ _ _ _, HB.out⟩
      · have h1' : decide ((0 : Int) ≤ (xs.length : Int) - 1) = false := by simpa using h1
        go_wp2_with (go_at_call 71; refine (HV.out _ HB.out).mono ?_; rintro e w' ⟨rfl, rfl⟩)
        go_ret2
        exact ⟨_, 0, rfl, Nat.le_refl _, by omega, Fresh.nil _ _ _ _, HB.out⟩
end Go.Proofs.Ytoelajocacpmgaa
