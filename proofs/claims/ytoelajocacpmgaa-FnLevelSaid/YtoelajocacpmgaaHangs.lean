/-
  WALKS: the miles that hang: the reference's.
-/
import Derived.Test.YtoelajocacpmgaaSlack
namespace Go.Proofs.Ytoelajocacpmgaa
set_option linter.unusedVariables false
set_option linter.unusedSimpArgs false
open Go.RowKit Go.Shelf
attribute [local go_sem] Oper.semAt_some

/-- The first k miles, as far as they hang. -/
def hangTo (f p : List Int) : Nat → List Int
  | 0 => []
  | k + 1 => if at0 p k < needF f k then hangTo f p k ++ [(k : Int)] else hangTo f p k
theorem hangTo_le (f p : List Int) : ∀ k, (hangTo f p k).length ≤ k
  | 0 => Nat.le_refl _
  | k + 1 => by have := hangTo_le f p k; unfold hangTo; split <;> simp <;> omega
theorem hangTo_yes {f p : List Int} {k : Nat} (h : at0 p k < needF f k) : hangTo f p (k + 1) = hangTo f p k ++ [(k : Int)] := by rw [hangTo, if_pos h]
theorem hangTo_no {f p : List Int} {k : Nat} (h : ¬ at0 p k < needF f k) : hangTo f p (k + 1) = hangTo f p k := by rw [hangTo, if_neg h]
/-- The miles that hang; none, if it is no pay-out. -/
def hangs (f p : List Int) : List Int := if payOk f p = true then hangTo f p p.length else []
theorem hangs_le (f p : List Int) : (hangs f p).length ≤ p.length := by unfold hangs; split; exact hangTo_le _ _ _; simp

/-- A new list of ints comes back; what there was lies as it lay. -/
theorem RetFresh.of {w w' : World} {A : Option Addr} {cap : Nat} {xs : List Int} (h1 : xs.length ≤ cap) (h2 : cap ≤ 9223372036854775807) (h3 : Fresh w' w.heap.size w'.heap.size A xs) (h4 : Below w.heap.size w w') : RetFresh w xs (.returned (.slice A xs.length cap)) w' :=
  ⟨A, cap, rfl, h1, h2, h3, h4⟩

set_option maxHeartbeats 1600000 in
theorem specPayHangs_any (A A' : Option Addr) (f p : List Int) (c c' : Nat) (w : World) (h : Ints w w.heap.size A f) (h' : Ints w w.heap.size A' p) (hn : f.length ≤ 1048576) (hn' : p.length ≤ 1048576) :
    Calls Try.prog 58 #[.slice A f.length c, .slice A' p.length c'] w (RetFresh w (hangs f p)) := by
  have H := hide h
  have H' := hide h'
  clear h h'
  obtain ⟨i0, hi, hz0, hz1, hz2⟩ := info_parts infoInt
  by_cases hp : payOk f p = true
  · have HP := hide hp
    have HF := hide (show hangs f p = hangTo f p p.length by simp [hangs, hp])
    obtain ⟨h1, ⟨h2a, h2b⟩, h3, h4⟩ := payOk_deep hp
    have HD := hide h1
    have H4 := hide h4
    have hq1 : 0 < p.length := by omega
    have hq2 : p.length ≤ 15 := by omega
    have HL := hide h3
    clear hp h1 h4 h3
    rw [HF.out]
    obtain ⟨b, off, rfl, hb, hc⟩ := H'.out hq1
    have HC := hide hc
    clear hc
    go_enter Try.func58, Try.ntmps58
    go_wp2
    go_loopw [5, 6] (fun v i wr => ∃ k : Nat, k ≤ p.length ∧ i = .int .i64 (k : Int) ∧ wr.ownsRow w.heap.size 3 1 v (hangTo f p k).length ((hangTo f p k).map (Value.int .i64)) ∧ Hid (Below w.heap.size w wr))
      (fun _ i _ => p.length - (intOf i).toNat)
    case atStart => exact ⟨0, Nat.zero_le _, rfl, World.ownsRow_made w #[] 0 (Nat.le_refl _) (Nat.zero_le _) rfl, (Below.refl _ w).alloc (Nat.le_refl _) _⟩
    case round =>
      obtain ⟨k, hk, rfl, hown, hbel⟩ := hrel
      have HO := hide hown
      clear hown
      by_cases hlt : k < p.length
      · have e1 : (k : Int) < (p.length : Int) := by omega
        have e2 : (0 : Int) ≤ (k : Int) := by omega
        have c1 : wr.cell? ⟨b, off + k, none⟩ = some (.int .i64 (at0 p k)) := (hbel.out.cell (p := ⟨b, off + k, none⟩) hb).trans (HC.out k hlt)
        have hL := HL.out
        have hN := hide (fun m => l1Need_q A f c k (wr.drewN m) (((H.out.below hbel.out).mono hbel.out.size).next (below_drewN (Below.refl _ _) m)) HD.out (by omega) h2b)
        have hlk := hangTo_le f p k
        clear hL
        go_wp2_with fail
        refine (specPayValid_any _ _ f p _ _ _ ((H.out.below hbel.out).mono hbel.out.size) ((H'.out.below hbel.out).mono hbel.out.size) hn hn').mono ?_
        rintro e w' ⟨rfl, rfl⟩
        rw [HP.out]
        by_cases hh : at0 p k < needF f k
        · have HT := hide (hangTo_yes hh)
          go_wp2_with fail
          go_quiet ((go_at_call 62; exact Calls.quiet_of (hN.out _)))
          have hB := hbel.out
          go_wp2_with (at_builtin; refine wpList_append_own _ rfl _ _ 23 rfl w.heap.size 3 i0 (.int .i64 0) 1 8 Try.underlying23 hi hz0 hz1 hz2 rfl (by decide) _ _ _ rfl ((own_drewN HO.out nq).alloc (.cells #[.int .i64 (k : Int)] 3)) ⟨wr.heap.size, 0, none⟩ 1 1 [.int .i64 (k : Int)] rfl rfl (cell_one_new _ _ _) (by simp [Value.oneCell']) (by unfold maxLen; omega) (by omega) (by have := hB.size; simp; omega) ?_; intro v' w1 hown' hgrow _)
          go_roundw
          case rel =>
            refine ⟨k + 1, by omega, by go_num, by rw [HT.out]; simpa using hown', ?_⟩
            exact ((below_drewN hB nq).alloc hB.size (.cells #[.int .i64 (k : Int)] 3)).grown hgrow (by have := hB.size; simp; omega) (fun g hg => (HO.out.lt g hg).1)
          case measure => simp [intOf]; omega
        · have HT := hide (hangTo_no hh)
          go_wp2_with fail
          go_quiet ((go_at_call 62; exact Calls.quiet_of (hN.out _)))
          go_wp2
          go_roundw
          case rel => exact ⟨k + 1, by omega, by go_num, by rw [HT.out]; exact own_drewN HO.out _, below_drewN hbel.out _⟩
          case measure => simp [intOf]; omega
      · have hkk : k = p.length := by omega
        subst hkk
        go_wp2
        go_ret
        have hown := HO.out
        obtain ⟨A2, c2, rfl, g1, g2⟩ := own_form hown
        have hfr := Fresh.of_own (xs := hangTo f p p.length) hown
        unfold maxLen at g2
        exact RetFresh.of g1 (by omega) hfr hbel.out
  · have hp' : payOk f p = false := by simpa using hp
    have HF := hide (show hangs f p = [] by simp [hangs, hp'])
    clear hp
    rw [HF.out]
    have HB := hide ((Below.refl w.heap.size w).alloc (Nat.le_refl _) (.cells #[] 3))
    have hV : ∀ W, Below w.heap.size w W → Calls Try.prog 49 #[.slice A f.length c, .slice A' p.length c'] W fun e w' => e = .returned (.bool false) ∧ W = w' := fun W hb => by
      have := specPayValid_any A A' f p c c' W ((H.out.below hb).mono hb.size) ((H'.out.below hb).mono hb.size) hn hn'
      rw [hp'] at this
      exact this
    have HV := hide hV
    clear hV
    go_enter Try.func58, Try.ntmps58
    go_wp2
    go_loop [5, 6] (fun v i => v = .slice (some ⟨w.heap.size, 0, none⟩) 0 0 ∧ i = .int .i64 0) (fun _ _ => 0)
    case atStart => exact ⟨rfl, rfl⟩
    case round =>
      obtain ⟨rfl, rfl⟩ := hrel
      by_cases h1 : (0 : Int) < (p.length : Int)
      · go_wp2_with (go_at_call 49; refine (HV.out _ HB.out).mono ?_; rintro e w' ⟨rfl, rfl⟩)
        go_ret
        exact ⟨_, 0, rfl, Nat.le_refl _, by omega, Fresh.nil _ _ _ _, HB.out⟩
      · have h1' : decide ((0 : Int) < (p.length : Int)) = false := by simpa using h1
        go_wp2_with (go_at_call 49; refine (HV.out _ HB.out).mono ?_; rintro e w' ⟨rfl, rfl⟩)
        go_ret
        exact ⟨_, 0, rfl, Nat.le_refl _, by omega, Fresh.nil _ _ _ _, HB.out⟩
end Go.Proofs.Ytoelajocacpmgaa
