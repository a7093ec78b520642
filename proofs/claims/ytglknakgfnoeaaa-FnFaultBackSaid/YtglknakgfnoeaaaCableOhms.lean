/-
  WALKS: the resistance of a cable: the program's and the reference's.
-/
import Derived.Test.YtglknakgfnoeaaaCableMiles
import Derived.Deep.LoopGhost
namespace Go.Proofs.Ytglknakgfnoeaaa
set_option linter.unusedVariables false
set_option linter.unusedSimpArgs false
open Go.RowKit

/-- The miles that are left behind some sections. -/
def leftM (fl : List Int) (m : Int) : Nat → Int
  | 0 => m
  | k + 1 => leftM fl m k - (if at0 fl (k * 3) < leftM fl m k then at0 fl (k * 3) else leftM fl m k)
/-- The miles of a section that are taken. -/
def partM (fl : List Int) (m : Int) (k : Nat) : Int := if at0 fl (k * 3) < leftM fl m k then at0 fl (k * 3) else leftM fl m k
theorem leftM_succ (fl : List Int) (m : Int) (k : Nat) : leftM fl m (k + 1) = leftM fl m k - partM fl m k := rfl
/-- The resistance of the first k sections, up to a mile. -/
def ohmsTo (fl : List Int) (m : Int) (k : Nat) : Int := sumN (fun i => partM fl m i * at0 fl (i * 3 + 2)) k
theorem ohmsTo_succ (fl : List Int) (m : Int) (k : Nat) : ohmsTo fl m (k + 1) = ohmsTo fl m k + partM fl m k * at0 fl (k * 3 + 2) := rfl
/-- The resistance up to a mile, or -1. -/
def ohms (fl : List Int) (n : Nat) (m : Int) : Int := if inB m 0 (miles fl n) = true then ohmsTo fl m n else -1
section
variable {fl : List Int} {n : Nat} {m : Int}
theorem leftM_bd (h : cableOk fl n = true) (h0 : 0 ≤ m) (h1 : m ≤ 400) : ∀ k : Nat, k ≤ n → 0 ≤ leftM fl m k ∧ leftM fl m k ≤ 400
  | 0, _ => ⟨h0, h1⟩
  | k + 1, hk => by
    have ih := leftM_bd h h0 h1 k (by omega)
    obtain ⟨⟨v1, v2⟩, -⟩ := sec_bd h (show k < n by omega)
    rw [leftM_succ]
    unfold partM
    split <;> omega
theorem partM_bd (h : cableOk fl n = true) (h0 : 0 ≤ m) (h1 : m ≤ 400) {k : Nat} (hk : k < n) : 0 ≤ partM fl m k ∧ partM fl m k ≤ 50 := by
  have ih := leftM_bd h h0 h1 k (by omega)
  obtain ⟨⟨v1, v2⟩, -⟩ := sec_bd h hk
  unfold partM
  split <;> omega
theorem mul_bd {a b x y : Int} (h0 : 0 ≤ a) (h1 : a ≤ x) (h2 : 0 ≤ b) (h3 : b ≤ y) : 0 ≤ a * b ∧ a * b ≤ x * y :=
  ⟨Int.mul_nonneg h0 h2, Int.mul_le_mul h1 h3 h2 (Int.le_trans h0 h1)⟩
theorem term_bd (h : cableOk fl n = true) (h0 : 0 ≤ m) (h1 : m ≤ 400) {k : Nat} (hk : k < n) : 0 ≤ partM fl m k * at0 fl (k * 3 + 2) ∧ partM fl m k * at0 fl (k * 3 + 2) ≤ 1000 := by
  obtain ⟨p1, p2⟩ := partM_bd h h0 h1 hk
  obtain ⟨-, -, v5, v6⟩ := sec_bd h hk
  exact mul_bd p1 p2 (by omega) v6
theorem ohmsTo_bd (h : cableOk fl n = true) (h0 : 0 ≤ m) (h1 : m ≤ 400) {k : Nat} (hk : k ≤ n) : 0 ≤ ohmsTo fl m k ∧ ohmsTo fl m k ≤ 8000 := by
  have := sumN_bd (f := fun i => partM fl m i * at0 fl (i * 3 + 2)) (lo := 0) (hi := 1000) (n := n) (fun j hj => term_bd h h0 h1 hj) hk
  have hn := (cableOk_iff.1 h).1
  unfold ohmsTo
  omega
theorem miles_le (h : cableOk fl n = true) : 0 ≤ miles fl n ∧ miles fl n ≤ 400 := by
  have := sumMi_bd h (Nat.le_refl n)
  have hn := (cableOk_iff.1 h).1
  simp only [miles, h, if_true]
  omega
theorem inB_miles (h : inB m 0 (miles fl n) = true) : cableOk fl n = true ∧ 0 ≤ m ∧ m ≤ 400 := by
  obtain ⟨h0, h1⟩ := inB_iff.1 h
  cases e : cableOk fl n
  · simp [miles, e] at h1; omega
  · have := miles_le e; exact ⟨rfl, h0, by omega⟩
end

set_option maxHeartbeats 1600000 in
theorem specCableOhms_any (A : Option Addr) (fl : List Int) (n cap : Nat) (m : Int) (w : World) (hl : fl.length = n * 3) (h : Ints w w.heap.size A fl) (hn : n ≤ 1048576) :
    Calls Try.prog 30 #[.slice A n cap, .int .i64 m] w fun e w' => e = .returned (.int .i64 (ohms fl n m)) ∧ Below w.heap.size w w' := by
  have H := hide h
  have HL := hide hl
  clear h hl
  by_cases hin : inB m 0 (miles fl n) = true
  · obtain ⟨hok, m0, m1⟩ := inB_miles hin
    obtain ⟨⟨n1, n2⟩, -⟩ := cableOk_iff.1 hok
    have HK := hide hok
    have HIn := hide hin
    have HTB := hide (fun k (hk : k < n) => term_bd hok m0 m1 hk)
    have HM := hide (show ohms fl n m = ohmsTo fl m n by simp [ohms, hin])
    rw [HM.out]
    clear hok hin
    go_enter Try.func30, Try.ntmps30
    go_wp2_with fail
    (with_reducible refine (specCableMiles_any _ fl n _ _ HL.out H.out hn).mono ?_)
    rintro e w1 ⟨rfl, hb1⟩
    go_wp2_with fail
    (with_reducible refine (l6In_any _ _ _ _).mono ?_)
    rintro e w' ⟨rfl, rfl⟩
    rw [HIn.out]
    have H1 := hide (H.out.next hb1)
    go_wp2_with fail
    go_loop [1, 5, 6] (fun l s i => ∃ k : Nat, k ≤ n ∧ l = .int .i64 (leftM fl m k) ∧ s = .int .i64 (ohmsTo fl m k) ∧ i = .int .i64 (k : Int)) (fun _ _ i => n - (intOf i).toNat)
    case atStart => exact ⟨0, Nat.zero_le _, rfl, rfl, rfl⟩
    case round =>
      obtain ⟨k, hk, rfl, rfl, rfl⟩ := hrel
      by_cases hlt : k < n
      · obtain ⟨b, off, rfl, hb, hc⟩ := H1.out (by have := HL.out; omega)
        obtain ⟨c0, c1, c2⟩ := sec_cells (w := w1) (hi := 0) HL.out hc hlt
        obtain ⟨⟨v1, v2⟩, -, v5, v6⟩ := sec_bd HK.out hlt
        obtain ⟨b1, b2⟩ := leftM_bd HK.out m0 m1 k (by omega)
        obtain ⟨b3, b4⟩ := ohmsTo_bd HK.out m0 m1 (show k ≤ n by omega)
        have hlt' : (k : Int) < (n : Int) := by omega
        clear hc
        by_cases hm : at0 fl (k * 3) < leftM fl m k
        · have HP := hide (show partM fl m k = at0 fl (k * 3) by unfold partM; exact if_pos hm)
          have HT := HTB.out k hlt
          rw [HP.out] at HT
          obtain ⟨t1, t2⟩ := HT
          go_wp2
          go_round
          case rel => exact ⟨k + 1, by omega, by rw [leftM_succ, HP.out]; try simp, by rw [ohmsTo_succ, HP.out], by go_num⟩
          case measure => simp [intOf]; omega
        · have HP := hide (show partM fl m k = leftM fl m k by unfold partM; exact if_neg hm)
          have HT := HTB.out k hlt
          rw [HP.out] at HT
          obtain ⟨t1, t2⟩ := HT
          go_wp2
          go_round
          case rel => exact ⟨k + 1, by omega, by rw [leftM_succ, HP.out]; try simp, by rw [ohmsTo_succ, HP.out], by go_num⟩
          case measure => simp [intOf]; omega
      · obtain rfl : k = n := by omega
        go_wp2
        go_ret
        exact ⟨rfl, hb1⟩
  · have hin' : inB m 0 (miles fl n) = false := by simpa using hin
    have HIn := hide hin'
    have HM := hide (show ohms fl n m = -1 by simp [ohms, hin'])
    rw [HM.out]
    clear hin hin'
    go_enter Try.func30, Try.ntmps30
    go_wp2_with fail
    (with_reducible refine (specCableMiles_any _ fl n _ _ HL.out H.out hn).mono ?_)
    rintro e w1 ⟨rfl, hb1⟩
    go_wp2_with fail
    (with_reducible refine (l6In_any _ _ _ _).mono ?_)
    rintro e w' ⟨rfl, rfl⟩
    rw [HIn.out]
    go_wp2
    go_ret
    exact ⟨rfl, hb1⟩

set_option maxHeartbeats 1600000 in
theorem resistance_any (p : Option Addr) (fl : List Int) (N hi : Nat) (m : Int) (w : World) (h : Links w hi fl (from' N N) p) (hok : cableOk fl N = true) (m0 : 0 ≤ m) (m1 : m ≤ 400) :
    Calls Try.prog 49 #[.pointer p, .int .i64 m] w fun e w' => e = .returned (.int .i64 (ohmsTo fl m N)) ∧ w = w' := by
  obtain ⟨⟨n1, n2⟩, -⟩ := cableOk_iff.1 hok
  have HK := hide hok
  have HTB := hide (fun k (hk : k < N) => term_bd hok m0 m1 hk)
  have HL := hide (show Links w hi fl (from' N (N - 0)) p from h)
  clear h hok
  go_enter Try.func49, Try.ntmps49
  go_wp2
  go_loopg [0, 1, 5] N (fun t l ml s wr => ∃ (k : Nat) (q : Option Addr), wr = w ∧ k ≤ N ∧ t = N - k ∧ l = .pointer q ∧ ml = .int .i64 (leftM fl m k) ∧ s = .int .i64 (ohmsTo fl m k) ∧ Hid (Links w hi fl (from' N (N - k)) q))
  case atStart => exact ⟨0, p, rfl, Nat.zero_le _, rfl, rfl, rfl, rfl, HL.out⟩
  case round =>
    obtain ⟨k, q, rfl, hk, rfl, rfl, rfl, rfl, hq⟩ := hrel
    by_cases hlt : k < N
    · obtain ⟨g, q', rfl, hg, c0, c1, c2, c3, hr⟩ := links_at hq.out hlt
      obtain ⟨⟨v1, v2⟩, -, v5, v6⟩ := sec_bd HK.out hlt
      obtain ⟨b1, b2⟩ := leftM_bd HK.out m0 m1 k (by omega)
      obtain ⟨b3, b4⟩ := ohmsTo_bd HK.out m0 m1 (show k ≤ N by omega)
      have HR := hide hr
      clear hr
      by_cases hm : at0 fl (k * 3) < leftM fl m k
      · have HP := hide (show partM fl m k = at0 fl (k * 3) by unfold partM; exact if_pos hm)
        have HT := HTB.out k hlt
        rw [HP.out] at HT
        obtain ⟨t1, t2⟩ := HT
        go_wp2
        go_roundg (N - (k + 1))
        case rel => exact ⟨k + 1, q', rfl, by omega, rfl, rfl, by rw [leftM_succ, HP.out]; try simp, by rw [ohmsTo_succ, HP.out], HR.out⟩
        case measure => omega
      · have HP := hide (show partM fl m k = leftM fl m k by unfold partM; exact if_neg hm)
        have HT := HTB.out k hlt
        rw [HP.out] at HT
        obtain ⟨t1, t2⟩ := HT
        go_wp2
        go_roundg (N - (k + 1))
        case rel => exact ⟨k + 1, q', rfl, by omega, rfl, rfl, by rw [leftM_succ, HP.out]; try simp, by rw [ohmsTo_succ, HP.out], HR.out⟩
        case measure => omega
    · obtain rfl : k = N := by omega
      obtain rfl := links_end hq.out
      go_wp2
      go_ret
      exact ⟨rfl, rfl⟩

set_option maxHeartbeats 1600000 in
theorem cableOhms_any (A : Option Addr) (fl : List Int) (n cap : Nat) (m : Int) (w : World) (hl : fl.length = n * 3) (h : Ints w w.heap.size A fl) (hn : n ≤ 1048576) :
    Calls Try.prog 22 #[.slice A n cap, .int .i64 m] w fun e w' => e = .returned (.int .i64 (ohms fl n m)) ∧ Below w.heap.size w w' := by
  have H := hide h
  have HL := hide hl
  clear h hl
  by_cases hin : inB m 0 (miles fl n) = true
  · obtain ⟨hok, m0, m1⟩ := inB_miles hin
    obtain ⟨⟨n1, n2⟩, -⟩ := cableOk_iff.1 hok
    have HK := hide hok
    have HIn := hide hin
    have HM := hide (show ohms fl n m = ohmsTo fl m n by simp [ohms, hin])
    rw [HM.out]
    clear hok hin
    go_enter Try.func22, Try.ntmps22
    go_wp2_with fail
    (with_reducible refine (cableMiles_any _ fl n _ _ HL.out H.out hn).mono ?_)
    rintro e w1 ⟨rfl, hb1⟩
    go_wp2_with fail
    (with_reducible refine (within_any _ _ _ _).mono ?_)
    rintro e w' ⟨rfl, rfl⟩
    rw [HIn.out]
    go_wp2_with fail
    (with_reducible refine (linkOf_any _ fl n _ _ HL.out (H.out.next hb1) n1 n2).mono ?_)
    rintro e w2 ⟨p, rfl, hL, hb2⟩
    go_wp2_with fail
    (with_reducible refine (resistance_any _ fl n _ _ _ hL HK.out m0 m1).mono ?_)
    rintro e w' ⟨rfl, rfl⟩
    go_wp2
    go_ret
    exact ⟨rfl, bt hb1 hb2⟩
  · have hin' : inB m 0 (miles fl n) = false := by simpa using hin
    have HIn := hide hin'
    have HM := hide (show ohms fl n m = -1 by simp [ohms, hin'])
    rw [HM.out]
    clear hin hin'
    go_enter Try.func22, Try.ntmps22
    go_wp2_with fail
    (with_reducible refine (cableMiles_any _ fl n _ _ HL.out H.out hn).mono ?_)
    rintro e w1 ⟨rfl, hb1⟩
    go_wp2_with fail
    (with_reducible refine (within_any _ _ _ _).mono ?_)
    rintro e w' ⟨rfl, rfl⟩
    rw [HIn.out]
    go_wp2
    go_ret
    exact ⟨rfl, hb1⟩

theorem specCableAll_any (A : Option Addr) (fl : List Int) (n cap : Nat) (w : World) (hl : fl.length = n * 3) (h : Ints w w.heap.size A fl) (hn : n ≤ 1048576) :
    Calls Try.prog 33 #[.slice A n cap] w fun e w' => e = .returned (.int .i64 (ohms fl n (miles fl n))) ∧ Below w.heap.size w w' := by
  have H := hide h
  have HL := hide hl
  clear h hl
  go_enter Try.func33, Try.ntmps33
  go_wp2_with fail
  (with_reducible refine (specCableMiles_any _ fl n _ _ HL.out H.out hn).mono ?_)
  rintro e w1 ⟨rfl, hb1⟩
  go_wp2_with fail
  (with_reducible refine (specCableOhms_any _ fl n _ _ _ HL.out (H.out.next hb1) hn).mono ?_)
  rintro e w2 ⟨rfl, hb2⟩
  go_wp2
  go_ret
  exact ⟨rfl, bt hb1 hb2⟩

theorem cableAll_any (A : Option Addr) (fl : List Int) (n cap : Nat) (w : World) (hl : fl.length = n * 3) (h : Ints w w.heap.size A fl) (hn : n ≤ 1048576) :
    Calls Try.prog 31 #[.slice A n cap] w fun e w' => e = .returned (.int .i64 (ohms fl n (miles fl n))) ∧ Below w.heap.size w w' := by
  have H := hide h
  have HL := hide hl
  clear h hl
  go_enter Try.func31, Try.ntmps31
  go_wp2_with fail
  (with_reducible refine (cableMiles_any _ fl n _ _ HL.out H.out hn).mono ?_)
  rintro e w1 ⟨rfl, hb1⟩
  go_wp2_with fail
  (with_reducible refine (cableOhms_any _ fl n _ _ _ HL.out (H.out.next hb1) hn).mono ?_)
  rintro e w2 ⟨rfl, hb2⟩
  go_wp2
  go_ret
  exact ⟨rfl, bt hb1 hb2⟩

end Go.Proofs.Ytglknakgfnoeaaa
