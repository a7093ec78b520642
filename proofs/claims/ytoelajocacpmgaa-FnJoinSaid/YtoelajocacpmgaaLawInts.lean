/-
  WALKS: the small helpers of the laws over lists of ints.
-/
import Derived.Test.YtoelajocacpmgaaSpecNeeds
namespace Go.Proofs.Ytoelajocacpmgaa
set_option linter.unusedVariables false
set_option linter.unusedSimpArgs false
open Go.RowKit

set_option maxHeartbeats 800000 in
theorem sameInts_same (A A' : Option Addr) (xs : List Int) (c c' : Nat) (w : World) (h : Ints w w.heap.size A xs) (h' : Ints w w.heap.size A' xs) (hn : xs.length ≤ 4194304) :
    Calls Try.prog 31 #[.slice A xs.length c, .slice A' xs.length c'] w fun e w' => e = .returned (.bool true) ∧ Below w.heap.size w w' := by
  have H := hide h
  have H' := hide h'
  clear h h'
  go_enter Try.func31, Try.ntmps31
  go_wp2
  go_loopw [5] (fun i wr => ∃ k : Nat, k ≤ xs.length ∧ i = .int .i64 k ∧ Hid (Below w.heap.size w wr)) (fun i _ => xs.length - (intOf i).toNat)
  case atStart => exact ⟨0, Nat.zero_le _, rfl, Below.refl _ _⟩
  case round =>
    obtain ⟨k, hk, rfl, hbel⟩ := hrel
    by_cases hlt : k < xs.length
    · obtain ⟨b, off, rfl, hb, hc⟩ := H.out (by omega)
      obtain ⟨b', off', rfl, hb', hc'⟩ := H'.out (by omega)
      have hcell : wr.cell? ⟨b, off + k, none⟩ = some (.int .i64 (at0 xs k)) := (hbel.out.cell (p := ⟨b, off + k, none⟩) hb).trans (hc k hlt)
      have hcell' : wr.cell? ⟨b', off' + k, none⟩ = some (.int .i64 (at0 xs k)) := (hbel.out.cell (p := ⟨b', off' + k, none⟩) hb').trans (hc' k hlt)
      clear hc hc' H H'
      have hlti : (k : Int) < (xs.length : Int) := by omega
      have h0i : (0 : Int) ≤ (k : Int) := by omega
      go_wp2
      go_quiet (fail)
      go_wp2
      go_roundw
      case rel => exact ⟨k + 1, by omega, by go_num, by first | exact hbel.out.drew | exact below_drewN hbel.out _⟩
      case measure => simp [intOf]; omega
    · go_wp2
      go_ret
      exact ⟨rfl, hbel.out⟩

set_option maxHeartbeats 800000 in
theorem sumOf_any (A : Option Addr) (xs : List Int) (cap : Nat) (w : World) (h : Ints w w.heap.size A xs) (hn : xs.length ≤ 1000) (hv : ∀ k, k < xs.length → -1000 ≤ at0 xs k ∧ at0 xs k ≤ 1000) :
    Calls Try.prog 22 #[.slice A xs.length cap] w fun e w' => e = .returned (.int .i64 (sumN (at0 xs) xs.length)) ∧ w = w' := by
  have H := hide h
  have HB := hide (fun k (hk : k ≤ xs.length) => sumN_bd (f := at0 xs) (lo := -1000) (hi := 1000) (n := xs.length) hv hk)
  have HV := hide hv
  clear h hv
  go_enter Try.func22, Try.ntmps22
  go_wp2
  go_loop [3, 4] (fun v i => ∃ k : Nat, k ≤ xs.length ∧ v = .int .i64 (sumN (at0 xs) k) ∧ i = .int .i64 (k : Int)) (fun _ i => xs.length - (intOf i).toNat)
  case atStart => exact ⟨0, Nat.zero_le _, rfl, rfl⟩
  case round =>
    obtain ⟨k, hk, rfl, rfl⟩ := hrel
    by_cases hlt : k < xs.length
    · obtain ⟨b, off, rfl, hb, hc⟩ := H.out (by omega)
      have hcell := hc k hlt
      obtain ⟨v1, v2⟩ := HV.out k hlt
      obtain ⟨b1, b2⟩ := HB.out k (by omega)
      have b3 : -10000000 ≤ sumN (at0 xs) k := by omega
      have b4 : sumN (at0 xs) k ≤ 10000000 := by omega
      clear hc b1 b2
      go_wp2
      go_round
      case rel => exact ⟨k + 1, by omega, by simp [sumN], by go_num⟩
      case measure => simp [intOf]; omega
    · have hkk : k = xs.length := by omega
      have HK := hide hkk
      clear hkk
      go_wp2
      go_ret
      exact ⟨ret_int (by rw [HK.out]), rfl⟩

/-- A list has a number. -/
def hasI (xs : List Int) (n : Int) : Bool := xs.any fun x => x == n
theorem hasI_yes {xs : List Int} {n : Int} {k : Nat} (hk : k < xs.length) (h : at0 xs k = n) : hasI xs n = true := by
  rw [at0_lt hk] at h
  simp only [hasI, List.any_eq_true]
  exact ⟨xs[k], List.getElem_mem hk, by simp [h]⟩
theorem hasI_no {xs : List Int} {n : Int} (h : ∀ k, k < xs.length → at0 xs k ≠ n) : hasI xs n = false := by
  cases e : hasI xs n
  · rfl
  · simp only [hasI, List.any_eq_true, beq_iff_eq] at e
    obtain ⟨x, hx, rfl⟩ := e
    obtain ⟨k, hk, rfl⟩ := List.getElem_of_mem hx
    exact absurd (at0_lt hk) (h k hk)

set_option maxHeartbeats 800000 in
theorem hasInt_any (A : Option Addr) (xs : List Int) (cap : Nat) (n : Int) (w : World) (h : Ints w w.heap.size A xs) (hn : xs.length ≤ 1048576) :
    Calls Try.prog 50 #[.slice A xs.length cap, .int .i64 n] w fun e w' => e = .returned (.bool (hasI xs n)) ∧ w = w' := by
  have H := hide h
  clear h
  go_enter Try.func50, Try.ntmps50
  go_wp2
  go_loop [5] (fun i => ∃ k : Nat, k ≤ xs.length ∧ i = .int .i64 (k : Int) ∧ Hid (∀ j, j < k → at0 xs j ≠ n)) (fun i => xs.length - (intOf i).toNat)
  case atStart => exact ⟨0, Nat.zero_le _, rfl, fun j hj => absurd hj (by omega)⟩
  case round =>
    obtain ⟨k, hk, rfl, hall⟩ := hrel
    by_cases hlt : k < xs.length
    · obtain ⟨b, off, rfl, hb, hc⟩ := H.out (by omega)
      have hcell := hc k hlt
      clear hc
      by_cases he : at0 xs k = n
      · have HY := hide (hasI_yes hlt he)
        have hd : (at0 xs k == n) = true := by simp [he]
        have HEq := hide he
        clear he
        go_wp2
        go_ret
        exact ⟨ret_bool HY.out.symm, rfl⟩
      · have hd : (at0 xs k == n) = false := beq_eq_false_iff_ne.2 he
        have HNe := hide he
        clear he
        go_wp2
        go_round
        case rel =>
          refine ⟨k + 1, by omega, by go_num, fun j hj => ?_⟩
          by_cases hjk : j = k
          · subst hjk; exact HNe.out
          · exact hall.out j (by omega)
        case measure => simp [intOf]; omega
    · have hkk : k = xs.length := by omega
      have HN := hide (hasI_no (xs := xs) (n := n) (fun j hj => hall.out j (by omega)))
      clear hkk hall
      go_wp2
      go_ret
      exact ⟨ret_bool HN.out.symm, rfl⟩

set_option maxHeartbeats 1600000 in
theorem backOf_any (A : Option Addr) (xs : List Int) (cap : Nat) (w : World) (h : Ints w w.heap.size A xs) (hn : xs.length ≤ 1048576) :
    Calls Try.prog 20 #[.slice A xs.length cap] w (RetFresh w xs.reverse) := by
  have H := hide h
  clear h
  obtain ⟨i0, hi, hz0, hz1, hz2⟩ := info_parts infoInt
  have HRv := hide (show ∀ k, k ≤ xs.length → upto (fun j => at0 xs (xs.length - 1 - j)) k = xs.reverse.take k from fun k hk => by
    apply list_eq_of_at0
    · rw [upto_length]; simp; omega
    · intro j hj
      rw [upto_length] at hj
      rw [at0_upto _ hj]
      simp only [at0]
      rw [List.getElem?_take_of_lt hj, List.getElem?_reverse (by omega)])
  go_enter Try.func20, Try.ntmps20
  go_wp2
  go_loopw [3, 4] (fun v i wr => ∃ k : Nat, k ≤ xs.length ∧ i = .int .i64 ((xs.length : Int) - 1 - (k : Int)) ∧ wr.ownsRow w.heap.size 3 1 v k ((upto (fun j => at0 xs (xs.length - 1 - j)) k).map (Value.int .i64)) ∧ Hid (Below w.heap.size w wr))
    (fun _ i _ => (intOf i + 1).toNat)
  case atStart => exact ⟨0, Nat.zero_le _, by simp, World.ownsRow_made w #[] 0 (Nat.le_refl _) (Nat.zero_le _) rfl, (Below.refl _ w).alloc (Nat.le_refl _) _⟩
  case round =>
    obtain ⟨k, hk, rfl, hown, hbel⟩ := hrel
    have HO := hide hown
    clear hown
    by_cases hlt : k < xs.length
    · have e1 : (0 : Int) ≤ (xs.length : Int) - 1 - (k : Int) := by omega
      have e2 : (xs.length : Int) - 1 - (k : Int) < (xs.length : Int) := by omega
      have e3 : ((xs.length : Int) - 1 - (k : Int)).toNat = xs.length - 1 - k := by omega
      obtain ⟨b, off, rfl, hb, hc⟩ := H.out (by omega)
      have c1 : wr.cell? ⟨b, off + (xs.length - 1 - k), none⟩ = some (.int .i64 (at0 xs (xs.length - 1 - k))) := (hbel.out.cell (p := ⟨b, off + (xs.length - 1 - k), none⟩) hb).trans (hc _ (by omega))
      have hB := hbel.out
      clear hc
      go_wp2_with (at_builtin; refine wpList_append_own _ rfl _ _ 23 rfl w.heap.size 3 i0 (.int .i64 0) 1 8 Try.underlying23 hi hz0 hz1 hz2 rfl (by decide) _ _ _ rfl (HO.out.alloc (.cells #[.int .i64 (at0 xs (xs.length - 1 - k))] 3)) ⟨wr.heap.size, 0, none⟩ 1 1 [.int .i64 (at0 xs (xs.length - 1 - k))] rfl rfl (cell_one_new _ _ _) (by simp [Value.oneCell']) (by unfold maxLen; omega) (by omega) (by have := hB.size; simp; omega) ?_; intro v' w1 hown' hgrow _)
      go_roundw
      case rel =>
        refine ⟨k + 1, by omega, by go_num, by rw [upto_succ]; simpa using hown', ?_⟩
        exact (hB.alloc hB.size (.cells #[.int .i64 (at0 xs (xs.length - 1 - k))] 3)).grown hgrow (by have := hB.size; simp; omega) (fun g hg => (HO.out.lt g hg).1)
      case measure => simp [intOf]; omega
    · have hkk : k = xs.length := by omega
      have HE := hide hkk
      have e1 : ¬ (0 : Int) ≤ (xs.length : Int) - 1 - (k : Int) := by omega
      clear hkk
      go_wp2
      go_ret
      have hown := HO.out
      obtain ⟨A2, c2, rfl, g1, g2⟩ := own_form hown
      rw [HRv.out k hk, HE.out, List.take_of_length_le (by simp)] at hown
      rw [HE.out] at g1
      have hfr := Fresh.of_own (xs := xs.reverse) hown
      unfold maxLen at g2
      refine ⟨A2, c2, ?_, by rw [List.length_reverse]; exact g1, by omega, hfr, hbel.out⟩
      rw [List.length_reverse, ← HE.out]; try rfl
end Go.Proofs.Ytoelajocacpmgaa
