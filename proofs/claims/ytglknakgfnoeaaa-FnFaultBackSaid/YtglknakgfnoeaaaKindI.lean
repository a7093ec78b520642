/-
  WALKS: the kind of a mile: the program's.
-/
import Derived.Test.YtglknakgfnoeaaaCableMiles
namespace Go.Proofs.Ytglknakgfnoeaaa
set_option linter.unusedVariables false
set_option linter.unusedSimpArgs false
open Go.RowKit

theorem sumMi_mono {fl : List Int} {n : Nat} (h : cableOk fl n = true) {j : Nat} : ∀ k : Nat, j ≤ k → k ≤ n → sumMi fl j ≤ sumMi fl k
  | 0, hj, _ => by rw [show j = 0 by omega]; exact Int.le_refl _
  | k + 1, hj, hk => by
    by_cases e : j = k + 1
    · rw [e]; exact Int.le_refl _
    · have := sumMi_mono h (j := j) k (by omega) (by omega)
      have := (sec_bd h (show k < n by omega)).1
      rw [sumMi_succ]; omega
/-- The section of a mile. -/
def loc (fl : List Int) (n : Nat) (m : Int) : Nat := (List.range n).findIdx fun k => decide (m < sumMi fl (k + 1))
theorem loc_eq {fl : List Int} {n k : Nat} {m : Int} (h : cableOk fl n = true) (hk : k < n) (h1 : sumMi fl k ≤ m) (h2 : m < sumMi fl (k + 1)) : loc fl n m = k := by
  unfold loc
  rw [List.findIdx_eq (by simpa using hk)]
  refine ⟨by simpa using h2, fun j hj => ?_⟩
  have := sumMi_mono h (j := j + 1) k (by omega) (by omega)
  simp
  omega
/-- The kind of a mile, or -1. -/
def kind (fl : List Int) (n : Nat) (m : Int) : Int := if inB m 0 (miles fl n - 1) = true then at0 fl (loc fl n m * 3 + 1) else -1
theorem inB_mile {fl : List Int} {n : Nat} {m : Int} (h : inB m 0 (miles fl n - 1) = true) : cableOk fl n = true ∧ 0 ≤ m ∧ m < sumMi fl n := by
  obtain ⟨h0, h1⟩ := inB_iff.1 h
  cases e : cableOk fl n
  · simp [miles, e] at h1; omega
  · have : miles fl n = sumMi fl n := by simp [miles, e]
    exact ⟨rfl, h0, by omega⟩

set_option maxHeartbeats 1600000 in
theorem at_any (p : Option Addr) (fl : List Int) (n : Nat) (m : Int) (w : World) (h : Links w w.heap.size fl (from' n n) p) (hok : cableOk fl n = true) (m0 : 0 ≤ m) (m1 : m < sumMi fl n) :
    Calls Try.prog 47 #[.pointer p, .int .i64 m] w fun e w' => e = .returned (.agg #[.int .i64 (at0 fl (loc fl n m * 3)), .int .i64 (at0 fl (loc fl n m * 3 + 1)), .int .i64 (at0 fl (loc fl n m * 3 + 2))]) ∧ Below w.heap.size w w' := by
  obtain ⟨⟨n1, n2⟩, -⟩ := cableOk_iff.1 hok
  have HK := hide hok
  have hM := sumMi_bd hok (Nat.le_refl n)
  have m2 : m ≤ 400 := by omega
  have hB0 : Below w.heap.size w (w.alloc (.cells #[.int .i64 0, .int .i64 0, .int .i64 0] 42)) := (Below.refl _ w).alloc (Nat.le_refl _) _
  have HB0 := hide hB0
  have HL := hide (show Links (w.alloc (.cells #[.int .i64 0, .int .i64 0, .int .i64 0] 42)) w.heap.size fl (from' n (n - 0)) p from h.below hB0)
  have HM1 := hide m1
  clear h hok hM hB0 m1
  go_enter Try.func47, Try.ntmps47
  go_wp2
  go_loop [0, 1] (fun l ml => ∃ (k : Nat) (q : Option Addr), k < n ∧ l = .pointer q ∧ ml = .int .i64 (m - sumMi fl k) ∧ sumMi fl k ≤ m ∧ Hid (Links (w.alloc (.cells #[.int .i64 0, .int .i64 0, .int .i64 0] 42)) w.heap.size fl (from' n (n - k)) q)) (fun _ ml => (intOf ml).toNat)
  case atStart => exact ⟨0, p, by omega, rfl, by simp [sumMi, sumN], m0, HL.out⟩
  case round =>
    obtain ⟨k, q, hk, rfl, rfl, hle, hq⟩ := hrel
    obtain ⟨g, q', rfl, hg, c0, c1, c2, c3, hr⟩ := links_at hq.out hk
    obtain ⟨⟨v1, v2⟩, -⟩ := sec_bd HK.out hk
    have b1 : 0 ≤ sumMi fl k := by have := (sumMi_bd HK.out (show k ≤ n by omega)).1; omega
    have HS := hide (sumMi_succ fl k)
    by_cases hge : at0 fl (k * 3) ≤ m - sumMi fl k
    · have hk1 : k + 1 < n := by
        rcases Nat.lt_or_ge (k + 1) n with h | h
        · exact h
        · have e : k + 1 = n := by omega
          have h1 := HM1.out
          rw [← e, HS.out] at h1
          omega
      have HR := hide hr
      clear hr
      go_wp2
      go_round
      case rel => exact ⟨k + 1, q', hk1, rfl, by rw [HS.out]; congr 1; omega, by rw [HS.out]; omega, HR.out⟩
      case measure => simp [intOf]; omega
    · have HLoc := hide (loc_eq HK.out hk hle (by rw [HS.out]; omega))
      clear hr
      go_wp2
      rw [HLoc.out]
      exact bodyPost_ret (v := .agg #[.int .i64 (at0 fl (k * 3)), .int .i64 (at0 fl (k * 3 + 1)), .int .i64 (at0 fl (k * 3 + 2))]) (by simp [results, Try.results47, go_sem]) rfl ⟨rfl, (Below.refl _ w).alloc (Nat.le_refl _) _⟩

theorem kind_field (a b c : Int) (w : World) : (Instr.field 42 (.agg #[.int .i64 a, .int .i64 b, .int .i64 c]) 1).run Try.prog w = .ok (.int .i64 b) w := by kernel_rfl
attribute [local go_sem] kind_field
theorem miles_bd (fl : List Int) (n : Nat) : -1 ≤ miles fl n ∧ miles fl n ≤ 400 := by
  unfold miles
  split
  · rename_i h
    have := sumMi_bd h (Nat.le_refl n)
    obtain ⟨⟨n1, n2⟩, -⟩ := cableOk_iff.1 h
    omega
  · omega

theorem cableKind_any (A : Option Addr) (fl : List Int) (n cap : Nat) (m : Int) (w : World) (hl : fl.length = n * 3) (h : Ints w w.heap.size A fl) (hn : n ≤ 1048576) :
    Calls Try.prog 19 #[.slice A n cap, .int .i64 m] w fun e w' => e = .returned (.int .i64 (kind fl n m)) ∧ Below w.heap.size w w' := by
  have H := hide h
  have HL := hide hl
  obtain ⟨mb0, mb1⟩ := miles_bd fl n
  clear h hl
  by_cases hin : inB m 0 (miles fl n - 1) = true
  · obtain ⟨hok, m0, m1⟩ := inB_mile hin
    obtain ⟨⟨n1, n2⟩, -⟩ := cableOk_iff.1 hok
    have HK := hide hok
    have HIn := hide hin
    have HM := hide (show kind fl n m = at0 fl (loc fl n m * 3 + 1) by simp [kind, hin])
    rw [HM.out]
    clear hok hin
    go_enter Try.func19, Try.ntmps19
    go_wp2_with fail
    (with_reducible refine (cableMiles_any _ fl n _ _ HL.out H.out hn).mono ?_)
    rintro e w1 ⟨rfl, hb1⟩
    go_wp2_with fail
    (with_reducible refine (within_any _ _ _ _).mono ?_)
    rintro e w' ⟨rfl, rfl⟩
    rw [HIn.out]
    go_wp2_with fail
    (with_reducible refine (linkOf_any _ fl n _ _ HL.out (H.out.next hb1) n1 n2).mono ?_)
    rintro e w2 ⟨p, rfl, hL, hb2⟩
    go_wp2_with fail
    (with_reducible refine (at_any _ fl n _ _ (hL.below (Below.refl _ _)) HK.out m0 m1).mono ?_)
    rintro e w3 ⟨rfl, hb3⟩
    go_wp2
    go_ret
    exact ⟨rfl, bt (bt hb1 hb2) hb3⟩
  · have hin' : inB m 0 (miles fl n - 1) = false := by simpa using hin
    have HIn := hide hin'
    have HM := hide (show kind fl n m = -1 by simp [kind, hin'])
    rw [HM.out]
    clear hin hin'
    go_enter Try.func19, Try.ntmps19
    go_wp2_with fail
    (with_reducible refine (cableMiles_any _ fl n _ _ HL.out H.out hn).mono ?_)
    rintro e w1 ⟨rfl, hb1⟩
    go_wp2_with fail
    (with_reducible refine (within_any _ _ _ _).mono ?_)
    rintro e w' ⟨rfl, rfl⟩
    rw [HIn.out]
    go_wp2
    go_ret
    exact ⟨rfl, hb1⟩
end Go.Proofs.Ytglknakgfnoeaaa
