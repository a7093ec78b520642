/-
  WALKS: the mile of a resistance: the program's and the reference's.
-/
import Derived.Test.YtlhmpecoboeoaaaCableOhms
import Derived.OwnWalk
import Derived.BigQuiet
import Derived.BigRegion
import Derived.Deep.QuietTactic
namespace Go.Proofs.Ytlhmpecoboeoaaa
set_option linter.unusedVariables false
set_option linter.unusedSimpArgs false
set_option linter.unusedSectionVars false
open Go.RowKit

theorem leftM_mono {fl : List Int} {a b : Int} (h : a ≤ b) : ∀ k : Nat, leftM fl a k ≤ leftM fl b k
  | 0 => h
  | k + 1 => by
    have := leftM_mono (fl := fl) h k
    rw [leftM_succ, leftM_succ]; unfold partM; split <;> split <;> omega
theorem partM_mono {fl : List Int} {a b : Int} (h : a ≤ b) (k : Nat) : partM fl a k ≤ partM fl b k := by
  have := leftM_mono (fl := fl) h k
  unfold partM; split <;> split <;> omega
theorem ohmsTo_mono {fl : List Int} {n : Nat} (hk : cableOk fl n = true) {a b : Int} (h : a ≤ b) : ∀ k : Nat, k ≤ n → ohmsTo fl a k ≤ ohmsTo fl b k
  | 0, _ => Int.le_refl _
  | k + 1, hn => by
    have ih := ohmsTo_mono hk h k (by omega)
    obtain ⟨-, -, v5, v6⟩ := sec_bd hk (show k < n by omega)
    have := Int.mul_le_mul_of_nonneg_right (partM_mono (fl := fl) h k) (show 0 ≤ at0 fl (k * 3 + 2) by omega)
    rw [ohmsTo_succ, ohmsTo_succ]; omega
/-- The resistance of the first k sections, whole. -/
def fullO (fl : List Int) (k : Nat) : Int := sumN (fun i => at0 fl (i * 3) * at0 fl (i * 3 + 2)) k
theorem fullO_succ (fl : List Int) (k : Nat) : fullO fl (k + 1) = fullO fl k + at0 fl (k * 3) * at0 fl (k * 3 + 2) := rfl
theorem where_pre {fl : List Int} {n k : Nat} {p : Int} (hok : cableOk fl n = true) (hk : k < n) (p0 : 0 ≤ p) (p1 : p ≤ at0 fl (k * 3)) : ∀ j : Nat, j ≤ k → leftM fl (sumMi fl k + p) j = sumMi fl k + p - sumMi fl j ∧ ohmsTo fl (sumMi fl k + p) j = fullO fl j
  | 0, _ => ⟨by simp [leftM, sumMi, sumN], rfl⟩
  | j + 1, hj => by
    obtain ⟨i1, i2⟩ := where_pre hok hk p0 p1 j (by omega)
    have hm : sumMi fl (j + 1) ≤ sumMi fl k := by
      have : ∀ a b : Nat, a ≤ b → b ≤ n → sumMi fl a ≤ sumMi fl b := by
        intro a b hab hb
        induction b with
        | zero => rw [show a = 0 by omega]; exact Int.le_refl _
        | succ b ih =>
          by_cases e : a = b + 1
          · rw [e]; exact Int.le_refl _
          · have := ih (by omega) (by omega)
            have := (sec_bd hok (show b < n by omega)).1
            rw [sumMi_succ]; omega
      exact this _ _ hj (by omega)
    have hs := sumMi_succ fl j
    have hp : partM fl (sumMi fl k + p) j = at0 fl (j * 3) := by unfold partM; split <;> omega
    refine ⟨?_, ?_⟩
    · rw [leftM_succ, hp, i1]; omega
    · rw [ohmsTo_succ, hp, i2, fullO_succ]
theorem where_part {fl : List Int} {n k : Nat} {p : Int} (hok : cableOk fl n = true) (hk : k < n) (p0 : 0 ≤ p) (p1 : p ≤ at0 fl (k * 3)) : partM fl (sumMi fl k + p) k = p := by
  have := (where_pre hok hk p0 p1 k (Nat.le_refl k)).1
  unfold partM; split <;> omega
theorem where_post {fl : List Int} {n k : Nat} {p : Int} (hok : cableOk fl n = true) (hk : k < n) (p0 : 0 ≤ p) (p1 : p ≤ at0 fl (k * 3)) : ∀ d : Nat, k + 1 + d ≤ n → leftM fl (sumMi fl k + p) (k + 1 + d) = 0 ∧ ohmsTo fl (sumMi fl k + p) (k + 1 + d) = fullO fl k + p * at0 fl (k * 3 + 2)
  | 0, _ => by
    have h1 := (where_pre hok hk p0 p1 k (Nat.le_refl k))
    have h2 := where_part hok hk p0 p1
    refine ⟨?_, ?_⟩
    · rw [Nat.add_zero, leftM_succ, h2]; omega
    · rw [Nat.add_zero, ohmsTo_succ, h2, h1.2]
  | d + 1, hd => by
    obtain ⟨i1, i2⟩ := where_post hok hk p0 p1 d (by omega)
    have v1 := (sec_bd hok (show k + 1 + d < n by omega)).1
    have hp : partM fl (sumMi fl k + p) (k + 1 + d) = 0 := by unfold partM; split <;> omega
    refine ⟨?_, ?_⟩
    · rw [show k + 1 + (d + 1) = k + 1 + d + 1 by omega, leftM_succ, hp]; omega
    · rw [show k + 1 + (d + 1) = k + 1 + d + 1 by omega, ohmsTo_succ, hp, i2]; simp
theorem ohmsTo_in {fl : List Int} {n k : Nat} {p : Int} (hok : cableOk fl n = true) (hk : k < n) (p0 : 0 ≤ p) (p1 : p ≤ at0 fl (k * 3)) : ohmsTo fl (sumMi fl k + p) n = fullO fl k + p * at0 fl (k * 3 + 2) := by
  have := (where_post hok hk p0 p1 (n - (k + 1)) (by omega)).2
  rwa [show k + 1 + (n - (k + 1)) = n by omega] at this
theorem ohmsTo_full {fl : List Int} {n : Nat} (hok : cableOk fl n = true) : ohmsTo fl (sumMi fl n) n = fullO fl n := by
  obtain ⟨⟨n1, n2⟩, -⟩ := cableOk_iff.1 hok
  obtain ⟨k, rfl⟩ : ∃ k, n = k + 1 := ⟨n - 1, by omega⟩
  have v1 := (sec_bd hok (show k < k + 1 by omega)).1
  have := ohmsTo_in hok (show k < k + 1 by omega) (p := at0 fl (k * 3)) (by omega) (Int.le_refl _)
  rw [fullO_succ, sumMi_succ]; exact this
theorem fullO_bd {fl : List Int} {n k : Nat} (h : cableOk fl n = true) (hk : k ≤ n) : 0 ≤ fullO fl k ∧ fullO fl k ≤ 8000 := by
  have := sumN_bd (f := fun i => at0 fl (i * 3) * at0 fl (i * 3 + 2)) (lo := 0) (hi := 1000) (n := n) (fun j hj => by
    obtain ⟨⟨v1, v2⟩, -, v5, v6⟩ := sec_bd h hj
    exact mul_bd (x := 50) (y := 20) (by omega) v2 (by omega) v6) hk
  have hn := (cableOk_iff.1 h).1
  unfold fullO
  omega

theorem Links.drew {w : World} {hi : Nat} {fl : List Int} {ks : List Nat} {p : Option Addr} (h : Links w hi fl ks p) : Links w.drew hi fl ks p := Links.keep (w := w) (w' := w.drew) (Nat.le_refl _) (fun g cs _ h => h) h
/-- A mile is that of a resistance. -/
def IsWhere (fl : List Int) (n : Nat) (o M : Int) : Prop := 0 ≤ M ∧ M ≤ miles fl n ∧ ohmsTo fl M n ≤ o ∧ (M < miles fl n → o < ohmsTo fl (M + 1) n)
theorem IsWhere.one {fl : List Int} {n : Nat} {o a b : Int} (hk : cableOk fl n = true) (ha : IsWhere fl n o a) (hb : IsWhere fl n o b) : a = b := by
  obtain ⟨a0, a1, a2, a3⟩ := ha
  obtain ⟨b0, b1, b2, b3⟩ := hb
  rcases Int.lt_trichotomy a b with h | h | h
  · have := a3 (by omega)
    have := ohmsTo_mono hk (show a + 1 ≤ b by omega) n (Nat.le_refl n)
    omega
  · exact h
  · have := b3 (by omega)
    have := ohmsTo_mono hk (show b + 1 ≤ a by omega) n (Nat.le_refl n)
    omega
/-- The mile of a resistance: the first that is one. -/
def whereM (fl : List Int) (n : Nat) (o : Int) : Int :=
  ((List.range ((miles fl n).toNat + 1)).find? fun m : Nat => decide (ohmsTo fl (m : Int) n ≤ o) && (!decide ((m : Int) < miles fl n) || decide (o < ohmsTo fl ((m : Int) + 1) n))).elim 0 (fun m => (m : Int))
theorem whereM_eq {fl : List Int} {n : Nat} {o M : Int} (hk : cableOk fl n = true) (h : IsWhere fl n o M) : whereM fl n o = M := by
  unfold whereM
  cases e : (List.range ((miles fl n).toNat + 1)).find? fun m : Nat => decide (ohmsTo fl (m : Int) n ≤ o) && (!decide ((m : Int) < miles fl n) || decide (o < ohmsTo fl ((m : Int) + 1) n)) with
  | none =>
    obtain ⟨M0, M1, M2, M3⟩ := h
    obtain ⟨m, rfl⟩ : ∃ m : Nat, M = (m : Int) := ⟨M.toNat, by omega⟩
    have hx := List.find?_eq_none.1 e m (List.mem_range.2 (by omega))
    by_cases hl : (m : Int) < miles fl n
    · simp [M2, M3 hl] at hx
    · simp [M2, hl] at hx
  | some m =>
    have h1 := List.mem_range.1 (List.mem_of_find?_eq_some e)
    have h2 := List.find?_some e
    have hM := h.1
    have hM1 := h.2.1
    refine IsWhere.one hk ⟨by simp, by simp; omega, ?_, ?_⟩ h
    · simp only [Bool.and_eq_true, decide_eq_true_eq] at h2
      exact h2.1
    · intro hl
      simp only [Option.elim] at hl ⊢
      simp [hl] at h2
      exact h2.2
/-- There is a mile of a resistance. -/
def whOk (fl : List Int) (n : Nat) (o : Int) : Bool := cableOk fl n && decide (0 ≤ o)
def whM (fl : List Int) (n : Nat) (o : Int) : Int := if whOk fl n o = true then whereM fl n o else 0
def whL (fl : List Int) (n : Nat) (o : Int) : Int := if whOk fl n o = true then o - ohmsTo fl (whereM fl n o) n else 0

set_option maxHeartbeats 1600000 in
theorem where_any (p : Option Addr) (fl : List Int) (N hi : Nat) (o : Int) (w : World) (h : Links w hi fl (from' N N) p) (hok : cableOk fl N = true) (o0 : 0 ≤ o) (o1 : o ≤ 9223372036854775807) :
    Calls Try.prog 65 #[.pointer p, .int .i64 o] w fun e w' => e = .returned (.tuple #[.int .i64 (whereM fl N o), .int .i64 (o - ohmsTo fl (whereM fl N o) N)]) ∧ Below w.heap.size w w' := by
  obtain ⟨⟨n1, n2⟩, -⟩ := cableOk_iff.1 hok
  have HK := hide hok
  have HMi := hide (show miles fl N = sumMi fl N by simp [miles, hok])
  have HL := hide (show Links w hi fl (from' N (N - 0)) p from h)
  clear h hok
  go_enter Try.func65, Try.ntmps65
  go_wp2
  go_loopg [0, 1, 6] N (fun t l ml s wr => ∃ (k : Nat) (q : Option Addr), Hid (Below w.heap.size w wr) ∧ k ≤ N ∧ t = N - k ∧ l = .pointer q ∧ ml = .int .i64 (o - fullO fl k) ∧ s = .int .i64 (sumMi fl k) ∧ fullO fl k ≤ o ∧ Hid (Links wr hi fl (from' N (N - k)) q))
  case atStart => exact ⟨0, p, Below.refl _ w, Nat.zero_le _, rfl, rfl, by simp [fullO, sumN], rfl, o0, HL.out⟩
  case round =>
    obtain ⟨k, q, hB, hk, rfl, rfl, rfl, rfl, hle, hq⟩ := hrel
    by_cases hlt : k < N
    · obtain ⟨g, q', rfl, hg, c0, c1, c2, c3, hr⟩ := links_at hq.out hlt
      obtain ⟨⟨v1, v2⟩, -, v5, v6⟩ := sec_bd HK.out hlt
      obtain ⟨b1, b2⟩ := sumMi_bd HK.out (show k ≤ N by omega)
      have b3 : 0 ≤ sumMi fl k := by omega
      have b4 : sumMi fl k ≤ 400 := by omega
      obtain ⟨f1, f2⟩ := fullO_bd HK.out (show k ≤ N by omega)
      have HR := hide hr
      clear hr b1 b2
      have hd : (o - fullO fl k).tdiv (at0 fl (k * 3 + 2)) = (o - fullO fl k) / at0 fl (k * 3 + 2) := Int.tdiv_eq_ediv_of_nonneg (by omega)
      have hd0 : 0 ≤ (o - fullO fl k) / at0 fl (k * 3 + 2) := Int.ediv_nonneg (by omega) (by omega)
      have hd1 : (o - fullO fl k) / at0 fl (k * 3 + 2) ≤ o - fullO fl k := Int.ediv_le_self _ (by omega)
      have hd2 := Int.mul_ediv_add_emod (o - fullO fl k) (at0 fl (k * 3 + 2))
      have hd3 := Int.emod_nonneg (o - fullO fl k) (b := at0 fl (k * 3 + 2)) (by omega)
      have hd4 := Int.emod_lt_of_pos (o - fullO fl k) (b := at0 fl (k * 3 + 2)) (by omega)
      rw [← hd] at hd0 hd1 hd2
      have HD2 := hide hd2
      have HD3 := hide hd3
      have HD4 := hide hd4
      clear hd hd2 hd3 hd4
      by_cases hm : at0 fl (k * 3) < (o - fullO fl k).tdiv (at0 fl (k * 3 + 2))
      · have HT := mul_bd (a := at0 fl (k * 3)) (b := at0 fl (k * 3 + 2)) (x := 50) (y := 20) (by omega) v2 (by omega) v6
        obtain ⟨t1, t2⟩ := HT
        have HN := hide (show fullO fl (k + 1) ≤ o by
          have := Int.mul_le_mul_of_nonneg_right (Int.le_of_lt hm) (show 0 ≤ at0 fl (k * 3 + 2) by omega)
          have h2 := HD2.out
          have h3 := HD3.out
          rw [Int.mul_comm] at h2
          rw [fullO_succ]; omega)
        go_wp2_with fail
        go_region
        go_wp2
        go_roundg (N - (k + 1))
        case rel => exact ⟨k + 1, q', below_drewN hB.out _, by omega, rfl, rfl, by rw [fullO_succ]; congr 1; omega, by rw [sumMi_succ], HN.out, Links.drew HR.out⟩
        case measure => omega
      · have HT := mul_bd (a := (o - fullO fl k).tdiv (at0 fl (k * 3 + 2))) (b := at0 fl (k * 3 + 2)) (x := 50) (y := 20) hd0 (by omega) (by omega) v6
        obtain ⟨t1, t2⟩ := HT
        have HN := hide (show (o - fullO fl k).tdiv (at0 fl (k * 3 + 2)) * at0 fl (k * 3 + 2) ≤ o - fullO fl k by
          have h2 := HD2.out
          have h3 := HD3.out
          rw [Int.mul_comm] at h2
          omega)
        by_cases he : (o - fullO fl k).tdiv (at0 fl (k * 3 + 2)) < at0 fl (k * 3)
        · have HU := hide (show o - fullO fl k < ((o - fullO fl k).tdiv (at0 fl (k * 3 + 2)) + 1) * at0 fl (k * 3 + 2) by
            have h2 := HD2.out
            have h4 := HD4.out
            rw [Int.mul_comm] at h2
            rw [Int.add_mul]; omega)
          have HO := hide (ohmsTo_in HK.out hlt hd0 (by omega))
          have HO1 := hide (ohmsTo_in HK.out hlt (p := (o - fullO fl k).tdiv (at0 fl (k * 3 + 2)) + 1) (by omega) (by omega))
          have HSm := hide (show sumMi fl (k + 1) ≤ sumMi fl N by
            have : ∀ d : Nat, k + 1 + d ≤ N → sumMi fl (k + 1) ≤ sumMi fl (k + 1 + d) := by
              intro d
              induction d with
              | zero => intro _; exact Int.le_refl _
              | succ d ih =>
                intro hd
                have ih' := ih (by omega)
                have v := (sec_bd HK.out (show k + 1 + d < N by omega)).1
                rw [show k + 1 + (d + 1) = k + 1 + d + 1 by omega, sumMi_succ fl (k + 1 + d)]; omega
            have := this (N - (k + 1)) (by omega)
            rwa [show k + 1 + (N - (k + 1)) = N by omega] at this)
          have HW := hide (whereM_eq HK.out (o := o) (M := sumMi fl k + (o - fullO fl k).tdiv (at0 fl (k * 3 + 2))) ⟨by omega, by
              have := HSm.out
              rw [sumMi_succ] at this; rw [HMi.out]; omega, by
              have := HN.out
              rw [HO.out]; omega, fun _ => by
              have := HU.out
              rw [Int.add_assoc, HO1.out]; omega⟩)
          go_wp2_with fail
          go_region
          go_wp2
          go_ret2
          exact ⟨by rw [HW.out, HO.out, ← Int.sub_sub]; rfl, below_drewN hB.out _⟩
        · have e : (o - fullO fl k).tdiv (at0 fl (k * 3 + 2)) = at0 fl (k * 3) := by omega
          have HE := hide e
          have HN2 := hide (show fullO fl (k + 1) ≤ o by
            have := HN.out
            rw [e] at this
            rw [fullO_succ]; omega)
          clear e
          go_wp2_with fail
          go_region
          go_wp2
          go_roundg (N - (k + 1))
          case rel => exact ⟨k + 1, q', below_drewN hB.out _, by omega, rfl, rfl, by rw [HE.out, fullO_succ]; congr 1; omega, by rw [HE.out, sumMi_succ], HN2.out, Links.drew HR.out⟩
          case measure => omega
    · obtain rfl : k = N := by omega
      obtain rfl := links_end hq.out
      have HW := hide (whereM_eq HK.out (o := o) (M := sumMi fl k) ⟨by have := (sumMi_bd HK.out (Nat.le_refl k)).1; omega, by rw [HMi.out]; exact Int.le_refl _, by rw [ohmsTo_full HK.out]; exact hle, fun h => absurd h (by rw [HMi.out]; omega)⟩)
      have HF := hide (ohmsTo_full HK.out)
      go_wp2
      go_ret2
      exact ⟨by rw [HW.out, HF.out]; rfl, hB.out⟩
set_option maxHeartbeats 1600000 in
theorem cableWhere_any (A : Option Addr) (fl : List Int) (n cap : Nat) (o : Int) (w : World) (hl : fl.length = n * 3) (h : Ints w w.heap.size A fl) (hn : n ≤ 1048576) (o1 : o ≤ 9223372036854775807) :
    Calls Try.prog 38 #[.slice A n cap, .int .i64 o] w fun e w' => e = .returned (.tuple #[.int .i64 (whM fl n o), .int .i64 (whL fl n o), .bool (whOk fl n o)]) ∧ Below w.heap.size w w' := by
  have H := hide h
  have HL := hide hl
  clear h hl
  cases hok : cableOk fl n
  · have HW := hide (show whOk fl n o = false by simp [whOk, hok])
    have HV := hide (show whM fl n o = 0 ∧ whL fl n o = 0 by simp [whM, whL, HW.out])
    rw [HV.out.1, HV.out.2, HW.out]
    have HK := hide hok
    clear hok
    go_enter Try.func38, Try.ntmps38
    go_wp2_with fail
    (with_reducible refine (cableValid_any _ fl n _ _ HL.out H.out hn).mono ?_)
    rintro e w1 ⟨rfl, hb1⟩
    rw [HK.out]
    go_wp2
    go_ret3
    exact ⟨rfl, hb1⟩
  · have HK := hide hok
    obtain ⟨⟨n1, n2⟩, -⟩ := cableOk_iff.1 hok
    by_cases o0 : o < 0
    · have HW := hide (show whOk fl n o = false by simp [whOk]; omega)
      have HV := hide (show whM fl n o = 0 ∧ whL fl n o = 0 by simp [whM, whL, HW.out])
      rw [HV.out.1, HV.out.2, HW.out]
      clear hok
      go_enter Try.func38, Try.ntmps38
      go_wp2_with fail
      (with_reducible refine (cableValid_any _ fl n _ _ HL.out H.out hn).mono ?_)
      rintro e w1 ⟨rfl, hb1⟩
      rw [HK.out]
      go_wp2
      go_ret3
      exact ⟨rfl, hb1⟩
    · have o0' : 0 ≤ o := by omega
      have HW := hide (show whOk fl n o = true by simp [whOk, hok, o0'])
      have HV := hide (show whM fl n o = whereM fl n o ∧ whL fl n o = o - ohmsTo fl (whereM fl n o) n by simp [whM, whL, HW.out])
      rw [HV.out.1, HV.out.2, HW.out]
      clear hok
      go_enter Try.func38, Try.ntmps38
      go_wp2_with fail
      (with_reducible refine (cableValid_any _ fl n _ _ HL.out H.out hn).mono ?_)
      rintro e w1 ⟨rfl, hb1⟩
      rw [HK.out]
      go_wp2_with fail
      (with_reducible refine (linkOf_any _ fl n _ _ HL.out (H.out.next hb1) n1 n2).mono ?_)
      rintro e w2 ⟨p, rfl, hL, hb2⟩
      go_wp2_with fail
      (with_reducible refine (where_any _ fl n _ _ _ hL HK.out o0' o1).mono ?_)
      rintro e w3 ⟨rfl, hb3⟩
      go_wp2
      go_ret3
      exact ⟨rfl, bt (bt hb1 hb2) hb3⟩

set_option maxHeartbeats 1600000 in
theorem specCableWhere_any (A : Option Addr) (fl : List Int) (n cap : Nat) (o : Int) (w : World) (hl : fl.length = n * 3) (h : Ints w w.heap.size A fl) (hn : n ≤ 1048576) (o1 : o ≤ 9223372036854775807) :
    Calls Try.prog 37 #[.slice A n cap, .int .i64 o] w fun e w' => e = .returned (.tuple #[.int .i64 (whM fl n o), .int .i64 (whL fl n o), .bool (whOk fl n o)]) ∧ Below w.heap.size w w' := by
  have H := hide h
  have HL := hide hl
  clear h hl
  cases hok : cableOk fl n
  · have HW := hide (show whOk fl n o = false by simp [whOk, hok])
    have HV := hide (show whM fl n o = 0 ∧ whL fl n o = 0 by simp [whM, whL, HW.out])
    rw [HV.out.1, HV.out.2, HW.out]
    have HK := hide hok
    clear hok
    go_enter Try.func37, Try.ntmps37
    go_wp2_with fail
    (with_reducible refine (specCableValid_any _ fl n _ _ HL.out H.out hn).mono ?_)
    rintro e w1 ⟨rfl, hb1⟩
    rw [HK.out]
    go_wp2
    go_ret3
    exact ⟨rfl, hb1⟩
  · have HK := hide hok
    obtain ⟨⟨n1, n2⟩, -⟩ := cableOk_iff.1 hok
    by_cases o0 : o < 0
    · have HW := hide (show whOk fl n o = false by simp [whOk]; omega)
      have HV := hide (show whM fl n o = 0 ∧ whL fl n o = 0 by simp [whM, whL, HW.out])
      rw [HV.out.1, HV.out.2, HW.out]
      clear hok
      go_enter Try.func37, Try.ntmps37
      go_wp2_with fail
      (with_reducible refine (specCableValid_any _ fl n _ _ HL.out H.out hn).mono ?_)
      rintro e w1 ⟨rfl, hb1⟩
      rw [HK.out]
      go_wp2
      go_ret3
      exact ⟨rfl, hb1⟩
    · have o0' : 0 ≤ o := by omega
      have HW := hide (show whOk fl n o = true by simp [whOk, hok, o0'])
      have HV := hide (show whM fl n o = whereM fl n o ∧ whL fl n o = o - ohmsTo fl (whereM fl n o) n by simp [whM, whL, HW.out])
      rw [HV.out.1, HV.out.2, HW.out]
      obtain ⟨ml0, ml1⟩ := miles_le hok
      have HZ := hide (show ohmsTo fl 0 n ≤ o by
        have := ohmsTo_in hok (show 0 < n by omega) (p := 0) (Int.le_refl _) (by have := (sec_bd hok (show 0 < n by omega)).1; omega)
        simp [sumMi, fullO, sumN] at this
        rw [this]; exact o0')
      clear hok
      go_enter Try.func37, Try.ntmps37
      go_wp2_with fail
      (with_reducible refine (specCableValid_any _ fl n _ _ HL.out H.out hn).mono ?_)
      rintro e w1 ⟨rfl, hb1⟩
      rw [HK.out]
      go_wp2_with fail
      go_loopw [7] (fun i wr => ∃ m : Nat, i = .int .i64 (m : Int) ∧ (m : Int) ≤ miles fl n ∧ ohmsTo fl (m : Int) n ≤ o ∧ Hid (Below w.heap.size w wr)) (fun i _ => 400 - (intOf i).toNat)
      case atStart => exact ⟨0, rfl, ml0, HZ.out, hb1⟩
      case round =>
        obtain ⟨m, rfl, hm, hle, hB⟩ := hrel
        have HLe := hide hle
        have HC := hide (fun x : Int => fun (x0 : 0 ≤ x) (x1 : x ≤ miles fl n) => show ohms fl n x = ohmsTo fl x n by simp only [ohms, inB_iff.2 ⟨x0, x1⟩, if_true])
        clear hle
        by_cases hlt : (m : Int) < miles fl n
        · go_wp2_with fail
          (with_reducible refine (specCableMiles_any _ fl n _ _ HL.out (H.out.next hB.out) hn).mono ?_)
          rintro e w2 ⟨rfl, hb2⟩
          go_wp2_with fail
          (with_reducible refine (specCableOhms_any _ fl n _ _ _ HL.out (H.out.next (bt hB.out hb2)) hn).mono ?_)
          rintro e w3 ⟨rfl, hb3⟩
          rw [HC.out _ (by omega) (by omega)]
          have HB3 := hide (bt (bt hB.out hb2) hb3)
          by_cases hc : ohmsTo fl ((m : Int) + 1) n ≤ o
          · go_wp2
            go_round
            case rel => exact ⟨m + 1, by go_num, by omega, hc, HB3.out⟩
            case measure => simp [intOf]; omega
          · have HWM := hide (whereM_eq HK.out (o := o) (M := (m : Int)) ⟨by omega, hm, HLe.out, fun _ => by omega⟩)
            have ob := ohmsTo_bd HK.out (m := (m : Int)) (by omega) (by omega) (Nat.le_refl n)
            go_wp2_with fail
            (with_reducible refine (specCableOhms_any _ fl n _ _ _ HL.out (H.out.next HB3.out) hn).mono ?_)
            rintro e w4 ⟨rfl, hb4⟩
            rw [HC.out _ (by omega) hm]
            go_wp2
            go_ret3
            exact ⟨by rw [HWM.out]; rfl, bt HB3.out hb4⟩
        · have HWM := hide (whereM_eq HK.out (o := o) (M := (m : Int)) ⟨by omega, hm, HLe.out, fun h => absurd h hlt⟩)
          have ob := ohmsTo_bd HK.out (m := (m : Int)) (by omega) (by omega) (Nat.le_refl n)
          go_wp2_with fail
          (with_reducible refine (specCableMiles_any _ fl n _ _ HL.out (H.out.next hB.out) hn).mono ?_)
          rintro e w2 ⟨rfl, hb2⟩
          go_wp2_with fail
          (with_reducible refine (specCableOhms_any _ fl n _ _ _ HL.out (H.out.next (bt hB.out hb2)) hn).mono ?_)
          rintro e w4 ⟨rfl, hb4⟩
          rw [HC.out _ (by omega) hm]
          go_wp2
          go_ret3
          exact ⟨by rw [HWM.out]; rfl, bt (bt hB.out hb2) hb4⟩
end Go.Proofs.Ytlhmpecoboeoaaa
