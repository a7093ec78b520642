/-
  WALKS: what can be paid out: the reference's.
-/
import Derived.Test.YtoelajocacpmgaaHangs
namespace Go.Proofs.Ytoelajocacpmgaa
set_option linter.unusedVariables false
set_option linter.unusedSimpArgs false
open Go.RowKit Go.Shelf
attribute [local go_sem] Oper.semAt_some

/-- The lesser of two. -/
def least (n a : Int) : Int := if n ≤ a then n else a
theorem least_l {n a : Int} (h : n ≤ a) : least n a = n := if_pos h
theorem least_r {n a : Int} (h : ¬ n ≤ a) : least n a = a := if_neg h
/-- What is left aboard ahead of mile k. -/
def leftF (f : List Int) (a : Int) : Nat → Int
  | 0 => a
  | k + 1 => leftF f a k - least (needF f k) (leftF f a k)
def carryF (f : List Int) (a : Int) (k : Nat) : Int := least (needF f k) (leftF f a k)
theorem leftF_succ (f : List Int) (a : Int) (k : Nat) : leftF f a (k + 1) = leftF f a k - carryF f a k := rfl
theorem leftF_bd {f : List Int} (hd : Deep f) {a : Int} (h0 : 0 ≤ a) (h1 : a ≤ 1000) : ∀ k, k ≤ f.length - 1 → 0 ≤ leftF f a k ∧ leftF f a k ≤ 1000
  | 0, _ => ⟨h0, h1⟩
  | k + 1, hk => by
    have ih := leftF_bd hd h0 h1 k (by omega)
    have := needF_bd hd (i := k) (by omega)
    unfold leftF least
    split <;> omega
/-- The floor is one, and there is not too much aboard. -/
def carryOk (f : List Int) (a : Int) : Bool := floorOk f && inB a 0 1000
/-- What is paid out, mile for mile. -/
def carry (f : List Int) (a : Int) : List Int := if carryOk f a = true then upto (carryF f a) (f.length - 1) else []

set_option maxHeartbeats 1600000 in
theorem specPayCarry_any (A : Option Addr) (f : List Int) (c : Nat) (a : Int) (w : World) (h : Ints w w.heap.size A f) (hn : f.length ≤ 1048576) :
    Calls Try.prog 53 #[.slice A f.length c, .int .i64 a] w (RetList w (carry f a) (carryOk f a)) := by
  have H := hide h
  clear h
  obtain ⟨i0, hi, hz0, hz1, hz2⟩ := info_parts infoInt
  by_cases hf : floorOk f = true
  · by_cases ha : inB a 0 1000 = true
    · have hok : carryOk f a = true := by simp [carryOk, hf, ha]
      have HF := hide hf
      have HN := hide (show carry f a = upto (carryF f a) (f.length - 1) by simp [carry, hok])
      obtain ⟨hl1, hl2⟩ := floorOk_len hf
      have HD := hide (floorOk_deep hf)
      obtain ⟨a0, a1⟩ := inB_iff.1 ha
      have HB := hide (leftF_bd (floorOk_deep hf) a0 a1)
      rw [HN.out, hok]
      clear hf hok a0 a1
      go_enter Try.func53, Try.ntmps53
      go_wp2_with (first | (go_at_call 71; refine (specFloorValid_any _ f _ _ (H.out.next ((Below.refl _ w).alloc (Nat.le_refl _) _)) hn).mono ?_; rintro e w1 ⟨rfl, rfl⟩; rw [HF.out]) | (go_at_call 78; refine (l6In_any _ _ _ _).mono ?_; rintro e w' ⟨rfl, rfl⟩; rw [ha]))
      go_loopw [1, 6, 7] (fun q v i wr => ∃ k : Nat, k ≤ f.length - 1 ∧ q = .int .i64 (leftF f a k) ∧ i = .int .i64 (k : Int) ∧ wr.ownsRow w.heap.size 3 1 v k ((upto (carryF f a) k).map (Value.int .i64)) ∧ Hid (Below w.heap.size w wr))
        (fun _ _ i _ => f.length - (intOf i).toNat)
      case atStart => exact ⟨0, Nat.zero_le _, rfl, rfl, World.ownsRow_made w #[] 0 (Nat.le_refl _) (Nat.zero_le _) rfl, (Below.refl _ w).alloc (Nat.le_refl _) _⟩
      case round =>
        obtain ⟨k, hk, rfl, rfl, hown, hbel⟩ := hrel
        have HO := hide hown
        clear hown
        by_cases hlt : k < f.length - 1
        · have e1 : (k : Int) + 1 < (f.length : Int) := by omega
          obtain ⟨b0, b1⟩ := HB.out k (by omega)
          obtain ⟨n1, n2⟩ := needF_bd HD.out (i := k) (by omega)
          have hB := hbel.out
          have hkb : k ≤ 16 := by omega
          by_cases hm : leftF f a k ≤ needF f k
          · have HC := hide (show carryF f a k = leftF f a k by unfold carryF least; split <;> omega)
            have HL := hide (leftF_succ f a k)
            go_wp2_with fail
            refine (l1Need_any _ f _ k _ ((H.out.below hbel.out).mono hbel.out.size) HD.out (by omega) hl2).mono ?_
            rintro e w' ⟨nq, rfl, rfl⟩
            go_wp2_with (at_builtin; refine wpList_append_own _ rfl _ _ 23 rfl w.heap.size 3 i0 (.int .i64 0) 1 8 Try.underlying23 hi hz0 hz1 hz2 rfl (by decide) _ _ _ rfl ((own_drewN HO.out nq).alloc (.cells #[.int .i64 (leftF f a k)] 3)) ⟨wr.heap.size, 0, none⟩ 1 1 [.int .i64 (leftF f a k)] rfl rfl (cell_one_new _ _ _) (by simp [Value.oneCell']) (by unfold maxLen; omega) (by omega) (by have := hB.size; simp; omega) ?_; intro v' w1 hown' hgrow _)
            go_roundw
            case rel =>
              refine ⟨k + 1, by omega, ?_, by go_num, ?_, ?_⟩
              · rw [HL.out, HC.out]; try go_num
              · rw [upto_succ, HC.out]; simpa using hown'
              · exact ((below_drewN hB nq).alloc hB.size (.cells #[.int .i64 (leftF f a k)] 3)).grown hgrow (by have := hB.size; simp; omega) (fun g hg => (HO.out.lt g hg).1)
            case measure => simp [intOf]; omega
          · have HC := hide (show carryF f a k = needF f k by unfold carryF least; split <;> omega)
            have HL := hide (leftF_succ f a k)
            go_wp2_with fail
            refine (l1Need_any _ f _ k _ ((H.out.below hbel.out).mono hbel.out.size) HD.out (by omega) hl2).mono ?_
            rintro e w' ⟨nq, rfl, rfl⟩
            go_wp2_with (at_builtin; refine wpList_append_own _ rfl _ _ 23 rfl w.heap.size 3 i0 (.int .i64 0) 1 8 Try.underlying23 hi hz0 hz1 hz2 rfl (by decide) _ _ _ rfl ((own_drewN HO.out nq).alloc (.cells #[.int .i64 (needF f k)] 3)) ⟨wr.heap.size, 0, none⟩ 1 1 [.int .i64 (needF f k)] rfl rfl (cell_one_new _ _ _) (by simp [Value.oneCell']) (by unfold maxLen; omega) (by omega) (by have := hB.size; simp; omega) ?_; intro v' w1 hown' hgrow _)
            go_roundw
            case rel =>
              refine ⟨k + 1, by omega, ?_, by go_num, ?_, ?_⟩
              · rw [HL.out, HC.out]; try go_num
              · rw [upto_succ, HC.out]; simpa using hown'
              · exact ((below_drewN hB nq).alloc hB.size (.cells #[.int .i64 (needF f k)] 3)).grown hgrow (by have := hB.size; simp; omega) (fun g hg => (HO.out.lt g hg).1)
            case measure => simp [intOf]; omega
        · have hkk : k = f.length - 1 := by omega
          have e1 : ¬ (k : Int) + 1 < (f.length : Int) := by omega
          go_wp2
          go_ret2
          have hown := HO.out
          obtain ⟨A2, c2, rfl, g1, g2⟩ := own_form hown
          rw [hkk] at hown g1
          have hfr := Fresh.of_own (xs := upto (carryF f a) (f.length - 1)) hown
          unfold maxLen at g2
          refine ⟨A2, c2, ?_, by rw [upto_length]; exact g1, by omega, hfr, hbel.out⟩
          rw [upto_length, ← hkk]; rfl
    · have ha' : inB a 0 1000 = false := by simpa using ha
      have hok : carryOk f a = false := by simp [carryOk, ha']
      have HN := hide (show carry f a = [] by simp [carry, hok])
      have HF := hide hf
      have HB := hide ((Below.refl w.heap.size w).alloc (Nat.le_refl _) (.cells #[] 3))
      rw [HN.out, hok]
      clear hf ha hok
      go_enter Try.func53, Try.ntmps53
      go_wp2_with (first | (go_at_call 71; refine (specFloorValid_any _ f _ _ (H.out.next ((Below.refl _ w).alloc (Nat.le_refl _) _)) hn).mono ?_; rintro e w1 ⟨rfl, rfl⟩; rw [HF.out]) | (go_at_call 78; refine (l6In_any _ _ _ _).mono ?_; rintro e w' ⟨rfl, rfl⟩; rw [ha']))
      go_ret2
      exact ⟨_, 0, rfl, Nat.le_refl _, by omega, Fresh.nil _ _ _ _, HB.out⟩
  · have hf' : floorOk f = false := by simpa using hf
    have hok : carryOk f a = false := by simp [carryOk, hf']
    have HN := hide (show carry f a = [] by simp [carry, hok])
    have HF := hide hf'
    have HB := hide ((Below.refl w.heap.size w).alloc (Nat.le_refl _) (.cells #[] 3))
    rw [HN.out, hok]
    clear hf hf' hok
    go_enter Try.func53, Try.ntmps53
    go_wp2_with (go_at_call 71; refine (specFloorValid_any _ f _ _ (H.out.next ((Below.refl _ w).alloc (Nat.le_refl _) _)) hn).mono ?_; rintro e w1 ⟨rfl, rfl⟩; rw [HF.out])
    go_ret2
    exact ⟨_, 0, rfl, Nat.le_refl _, by omega, Fresh.nil _ _ _ _, HB.out⟩
end Go.Proofs.Ytoelajocacpmgaa
