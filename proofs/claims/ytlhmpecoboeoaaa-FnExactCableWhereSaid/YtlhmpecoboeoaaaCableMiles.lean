/-
  WALKS: the miles of a cable: the program's and the reference's.
-/
import Derived.Test.YtlhmpecoboeoaaaLinkAt
import Derived.Test.YtlhmpecoboeoaaaLinkOf
namespace Go.Proofs.Ytlhmpecoboeoaaa
set_option linter.unusedVariables false
set_option linter.unusedSimpArgs false
open Go.RowKit

/-- The miles of the first k sections. -/
def sumMi (fl : List Int) (k : Nat) : Int := sumN (fun i => at0 fl (i * 3)) k
theorem sumMi_succ (fl : List Int) (k : Nat) : sumMi fl (k + 1) = sumMi fl k + at0 fl (k * 3) := rfl
/-- The miles of a cable, or -1. -/
def miles (fl : List Int) (n : Nat) : Int := if cableOk fl n = true then sumMi fl n else -1
theorem sumMi_bd {fl : List Int} {n k : Nat} (h : cableOk fl n = true) (hk : k ≤ n) : (k : Int) ≤ sumMi fl k ∧ sumMi fl k ≤ 50 * (k : Int) := by
  have := sumN_bd (f := fun i => at0 fl (i * 3)) (lo := 1) (hi := 50) (n := n) (fun j hj => (sec_bd h hj).1) hk
  unfold sumMi
  omega
set_option maxHeartbeats 1600000 in
theorem length_any (p : Option Addr) (fl : List Int) (N hi : Nat) (w : World) (h : Links w hi fl (from' N N) p) (hok : cableOk fl N = true) :
    Calls Try.prog 57 #[.pointer p] w fun e w' => e = .returned (.int .i64 (sumMi fl N)) ∧ w = w' := by
  obtain ⟨⟨n1, n2⟩, -⟩ := cableOk_iff.1 hok
  have HK := hide hok
  have HL := hide (show Links w hi fl (from' N (N - 0)) p from h)
  clear h hok
  go_enter Try.func57, Try.ntmps57
  go_wp2
  go_loop [0, 3] (fun l s => ∃ (k : Nat) (q : Option Addr), k ≤ N ∧ l = .pointer q ∧ s = .int .i64 (sumMi fl k) ∧ Hid (Links w hi fl (from' N (N - k)) q)) (fun _ s => (400 - intOf s).toNat)
  case atStart => exact ⟨0, p, Nat.zero_le _, rfl, rfl, HL.out⟩
  case round =>
    obtain ⟨k, q, hk, rfl, rfl, hq⟩ := hrel
    by_cases hlt : k < N
    · obtain ⟨g, q', rfl, hg, c0, c1, c2, c3, hr⟩ := links_at hq.out hlt
      obtain ⟨⟨v1, v2⟩, -⟩ := sec_bd HK.out hlt
      obtain ⟨b1, b2⟩ := sumMi_bd HK.out (show k ≤ N by omega)
      have b3 : 0 ≤ sumMi fl k := by omega
      have b4 : sumMi fl k ≤ 350 := by omega
      have HR := hide hr
      clear hr b1 b2
      go_wp2
      go_round
      case rel => exact ⟨k + 1, q', by omega, rfl, by rw [sumMi_succ], HR.out⟩
      case measure => simp [intOf]; omega
    · obtain rfl : k = N := by omega
      obtain rfl := links_end hq.out
      go_wp2
      go_ret
      exact ⟨rfl, rfl⟩

set_option maxHeartbeats 1600000 in
theorem cableMiles_any (A : Option Addr) (fl : List Int) (n cap : Nat) (w : World) (hl : fl.length = n * 3) (h : Ints w w.heap.size A fl) (hn : n ≤ 1048576) :
    Calls Try.prog 23 #[.slice A n cap] w fun e w' => e = .returned (.int .i64 (miles fl n)) ∧ Below w.heap.size w w' := by
  have H := hide h
  have HL := hide hl
  clear h hl
  by_cases hok : cableOk fl n = true
  · obtain ⟨⟨n1, n2⟩, -⟩ := cableOk_iff.1 hok
    have HK := hide hok
    have HM := hide (show miles fl n = sumMi fl n by simp [miles, hok])
    rw [HM.out]
    clear hok
    go_enter Try.func23, Try.ntmps23
    go_wp2_with fail
    (with_reducible refine (cableValid_any _ fl n _ _ HL.out H.out hn).mono ?_)
    rintro e w1 ⟨rfl, hb1⟩
    rw [HK.out]
    go_wp2_with fail
    (with_reducible refine (linkOf_any _ fl n _ _ HL.out (H.out.next hb1) n1 n2).mono ?_)
    rintro e w2 ⟨p, rfl, hL, hb2⟩
    go_wp2_with fail
    (with_reducible refine (length_any _ fl n _ _ hL HK.out).mono ?_)
    rintro e w' ⟨rfl, rfl⟩
    go_wp2
    go_ret
    exact ⟨rfl, bt hb1 hb2⟩
  · have hok' : cableOk fl n = false := by simpa using hok
    have HK := hide hok'
    have HM := hide (show miles fl n = -1 by simp [miles, hok'])
    rw [HM.out]
    clear hok hok'
    go_enter Try.func23, Try.ntmps23
    go_wp2_with fail
    (with_reducible refine (cableValid_any _ fl n _ _ HL.out H.out hn).mono ?_)
    rintro e w1 ⟨rfl, hb1⟩
    rw [HK.out]
    go_wp2
    go_ret
    exact ⟨rfl, hb1⟩

set_option maxHeartbeats 1600000 in
theorem specCableMiles_any (A : Option Addr) (fl : List Int) (n cap : Nat) (w : World) (hl : fl.length = n * 3) (h : Ints w w.heap.size A fl) (hn : n ≤ 1048576) :
    Calls Try.prog 22 #[.slice A n cap] w fun e w' => e = .returned (.int .i64 (miles fl n)) ∧ Below w.heap.size w w' := by
  have H := hide h
  have HL := hide hl
  clear h hl
  by_cases hok : cableOk fl n = true
  · obtain ⟨⟨n1, n2⟩, -⟩ := cableOk_iff.1 hok
    have HK := hide hok
    have HM := hide (show miles fl n = sumMi fl n by simp [miles, hok])
    rw [HM.out]
    clear hok
    go_enter Try.func22, Try.ntmps22
    go_wp2_with fail
    (with_reducible refine (specCableValid_any _ fl n _ _ HL.out H.out hn).mono ?_)
    rintro e w1 ⟨rfl, hb1⟩
    rw [HK.out]
    have H1 := hide (H.out.next hb1)
    go_wp2_with fail
    go_loop [3, 4] (fun s i => ∃ k : Nat, k ≤ n ∧ s = .int .i64 (sumMi fl k) ∧ i = .int .i64 (k : Int)) (fun _ i => n - (intOf i).toNat)
    case atStart => exact ⟨0, Nat.zero_le _, rfl, rfl⟩
    case round =>
      obtain ⟨k, hk, rfl, rfl⟩ := hrel
      by_cases hlt : k < n
      · obtain ⟨b, off, rfl, hb, hc⟩ := H1.out (by have := HL.out; omega)
        obtain ⟨c0, c1, c2⟩ := sec_cells (w := w1) (hi := 0) HL.out hc hlt
        obtain ⟨⟨v1, v2⟩, -⟩ := sec_bd HK.out hlt
        obtain ⟨b1, b2⟩ := sumMi_bd HK.out (show k ≤ n by omega)
        have b3 : 0 ≤ sumMi fl k := by omega
        have b4 : sumMi fl k ≤ 400 := by omega
        have hlt' : (k : Int) < (n : Int) := by omega
        clear hc b1 b2
        go_wp2
        go_round
        case rel => exact ⟨k + 1, by omega, by rw [sumMi_succ], by go_num⟩
        case measure => simp [intOf]; omega
      · obtain rfl : k = n := by omega
        go_wp2
        go_ret
        exact ⟨rfl, hb1⟩
  · have hok' : cableOk fl n = false := by simpa using hok
    have HK := hide hok'
    have HM := hide (show miles fl n = -1 by simp [miles, hok'])
    rw [HM.out]
    clear hok hok'
    go_enter Try.func22, Try.ntmps22
    go_wp2_with fail
    (with_reducible refine (specCableValid_any _ fl n _ _ HL.out H.out hn).mono ?_)
    rintro e w1 ⟨rfl, hb1⟩
    rw [HK.out]
    go_wp2
    go_ret
    exact ⟨rfl, hb1⟩
end Go.Proofs.Ytlhmpecoboeoaaa
