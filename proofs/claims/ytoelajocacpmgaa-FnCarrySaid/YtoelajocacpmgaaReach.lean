/-
  WALKS: for how many miles there is enough: the program's and the reference's.
-/
import Derived.Test.YtoelajocacpmgaaCarryI
import Derived.Test.YtoelajocacpmgaaHangsI
namespace Go.Proofs.Ytoelajocacpmgaa
set_option linter.unusedVariables false
set_option linter.unusedSimpArgs false
open Go.RowKit Go.Shelf
attribute [local go_sem] Oper.semAt_some

/-- For how many miles there is enough, or -1. -/
def reach (f : List Int) (a : Int) : Int := if carryOk f a = true then ((carry f a).length : Int) - ((hangs f (carry f a)).length : Int) else -1

theorem carryOk_iff {f : List Int} {a : Int} : carryOk f a = true ↔ floorOk f = true ∧ inB a 0 1000 = true := by simp [carryOk]
theorem carry_bd {f : List Int} (hd : Deep f) {a : Int} (h0 : 0 ≤ a) (h1 : a ≤ 1000) {k : Nat} (hk : k + 1 < f.length) : 0 ≤ carryF f a k ∧ carryF f a k ≤ 50 := by
  have := leftF_bd hd h0 h1 k (by omega)
  have := needF_bd hd (i := k) hk
  unfold carryF least
  split <;> omega
/-- Behind a mile that hangs nothing is left. -/
theorem left_none {f : List Int} (hd : Deep f) {a : Int} (h0 : 0 ≤ a) (h1 : a ≤ 1000) {k : Nat} (hk : k + 1 < f.length) (hh : carryF f a k < needF f k) : ∀ j, k + 1 + j < f.length → leftF f a (k + 1 + j) = 0
  | 0, hj => by
    show leftF f a k - least (needF f k) (leftF f a k) = 0
    unfold carryF least at hh
    unfold least
    split at hh <;> split <;> omega
  | j + 1, hj => by
    have ih := left_none hd h0 h1 hk hh j (by omega)
    have := needF_bd hd (i := k + 1 + j) (by omega)
    show leftF f a (k + 1 + j) - least (needF f (k + 1 + j)) (leftF f a (k + 1 + j)) = 0
    rw [ih]
    unfold least
    split <;> omega
theorem hang_all {f p : List Int} {k : Nat} (hk : hangTo f p k = []) (h : ∀ j, k ≤ j → j + 1 < f.length → at0 p j < needF f j) : ∀ m, k + m ≤ f.length - 1 → (hangTo f p (k + m)).length = m
  | 0, _ => by rw [Nat.add_zero, hk]; rfl
  | m + 1, hm => by
    rw [show k + (m + 1) = (k + m) + 1 by omega, hangTo_yes (h (k + m) (by omega) (by omega))]
    simp [hang_all hk h m (by omega)]
theorem carry_eq {f : List Int} {a : Int} (h : carryOk f a = true) : carry f a = upto (carryF f a) (f.length - 1) := by simp [carry, h]
theorem carry_pay {f : List Int} {a : Int} (h : carryOk f a = true) : payOk f (carry f a) = true := by
  obtain ⟨h1, h2⟩ := carryOk_iff.1 h
  obtain ⟨a0, a1⟩ := inB_iff.1 h2
  obtain ⟨l1, l2⟩ := floorOk_len h1
  rw [carry_eq h]
  refine payOk_iff.2 ⟨h1, by rw [upto_length]; omega, allIn_true fun k hk => ?_⟩
  rw [upto_length] at hk
  rw [at0_upto _ hk]
  have := carry_bd (floorOk_deep h1) a0 a1 (k := k) (by omega)
  rw [inB_iff]; omega
/-- Where no mile ahead of k hangs, and k does, the reach is k. -/
theorem reach_at {f : List Int} {a : Int} (h : carryOk f a = true) {k : Nat} (hk : k + 1 < f.length) (h0 : hangTo f (carry f a) k = []) (hh : at0 (carry f a) k < needF f k) : reach f a = (k : Int) := by
  obtain ⟨h1, h2⟩ := carryOk_iff.1 h
  obtain ⟨a0, a1⟩ := inB_iff.1 h2
  have hd := floorOk_deep h1
  have hat : ∀ j, j + 1 < f.length → at0 (carry f a) j = carryF f a j := fun j hj => by rw [carry_eq h]; exact at0_upto _ (by omega)
  rw [hat k hk] at hh
  have hall : ∀ j, k ≤ j → j + 1 < f.length → at0 (carry f a) j < needF f j := fun j hj hj' => by
    rw [hat j hj']
    by_cases e : j = k
    · subst e; exact hh
    · obtain ⟨d, rfl⟩ : ∃ d, j = k + 1 + d := ⟨j - (k + 1), by omega⟩
      have := left_none hd a0 a1 hk hh d (by omega)
      have := needF_bd hd (i := k + 1 + d) hj'
      unfold carryF least
      split <;> omega
  have hl := hang_all h0 hall (f.length - 1 - k) (by omega)
  rw [show k + (f.length - 1 - k) = f.length - 1 by omega] at hl
  have hc : (carry f a).length = f.length - 1 := by rw [carry_eq h, upto_length]
  simp only [reach, h, if_true, hangs, carry_pay h]
  rw [hc, hl]
  omega
/-- Where no mile hangs, the reach is all. -/
theorem reach_full {f : List Int} {a : Int} (h : carryOk f a = true) (h0 : hangTo f (carry f a) (f.length - 1) = []) : reach f a = ((f.length - 1 : Nat) : Int) := by
  have hc : (carry f a).length = f.length - 1 := by rw [carry_eq h, upto_length]
  simp only [reach, h, if_true, hangs, carry_pay h]
  rw [hc, h0]
  simp

set_option maxHeartbeats 800000 in
theorem specPayReach_any (A : Option Addr) (f : List Int) (c : Nat) (a : Int) (w : World) (h : Ints w w.heap.size A f) (hn : f.length ≤ 1048576) :
    Calls Try.prog 47 #[.slice A f.length c, .int .i64 a] w fun e w' => e = .returned (.int .i64 (reach f a)) ∧ Below w.heap.size w w' := by
  have H := hide h
  clear h
  have hcl := carry_le f a
  by_cases hok : carryOk f a = true
  · have HK := hide hok
    have HF := hide (show ((carry f a).length : Int) - ((hangs f (carry f a)).length : Int) = reach f a by simp [reach, hok])
    have hhl := hangs_le f (carry f a)
    clear hok
    go_enter Try.func47, Try.ntmps47
    go_wp2_with fail
    refine (specPayCarry_any _ f _ a _ H.out hn).mono ?_
    rintro e w1 ⟨A2, c2, rfl, h1, h2, hfr, hb1⟩
    rw [HK.out]
    go_wp2_with fail
    refine (specPayHangs_any _ _ f (carry f a) _ _ _ (H.out.next hb1) hfr.ints hn (by omega)).mono ?_
    rintro e w2 ⟨A3, c3, rfl, h3, h4, hfr2, hb2⟩
    go_wp2
    go_ret
    exact ⟨ret_int (by rw [← HF.out]), bt hb1 hb2⟩
  · have hok' : carryOk f a = false := by simpa using hok
    have HF := hide (show -1 = reach f a by simp [reach, hok'])
    clear hok
    go_enter Try.func47, Try.ntmps47
    go_wp2_with fail
    refine (specPayCarry_any _ f _ a _ H.out hn).mono ?_
    rintro e w1 ⟨A2, c2, rfl, h1, h2, hfr, hb1⟩
    rw [hok']
    go_wp2
    go_ret
    exact ⟨ret_int HF.out, hb1⟩
end Go.Proofs.Ytoelajocacpmgaa
