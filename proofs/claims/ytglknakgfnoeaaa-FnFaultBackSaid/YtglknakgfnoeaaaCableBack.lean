/-
  WALKS: a cable in the opposite order: the program's and the reference's.
-/
import Derived.Test.YtglknakgfnoeaaaCloneS
import Derived.Test.YtglknakgfnoeaaaSecApp
namespace Go.Proofs.Ytglknakgfnoeaaa
set_option linter.unusedVariables false
set_option linter.unusedSimpArgs false
open Go.RowKit Go.Shelf
attribute [local go_sem] Oper.semAt_some

/-- A cable from its end; nothing, if it is none. -/
def cback (fl : List Int) (n : Nat) : List Int := if cableOk fl n = true then upto (backC fl n) (n * 3) else []
def cbackN (fl : List Int) (n : Nat) : Nat := if cableOk fl n = true then n else 0
theorem cback_no {fl : List Int} {n : Nat} (h : cableOk fl n = false) {w : World} {A : Option Addr} {cap : Nat} (hcap : cap ≤ 9223372036854775807) {w' : World} (hb : Below w.heap.size w w') :
    RetSecs w (cback fl n) (cbackN fl n) false (.returned (.tuple #[.slice A 0 cap, .bool false])) w' := by
  simp only [cback, cbackN, h]
  exact ⟨A, cap, rfl, rfl, Nat.zero_le _, hcap, Fresh.nil _ _ _ _, hb⟩

set_option maxHeartbeats 1600000 in
theorem cableBack_any (A : Option Addr) (fl : List Int) (n cap : Nat) (w : World) (hl : fl.length = n * 3) (h : Ints w w.heap.size A fl) (hn : n ≤ 1048576) :
    Calls Try.prog 12 #[.slice A n cap] w (RetSecs w (cback fl n) (cbackN fl n) (cableOk fl n)) := by
  have H := hide h
  have HL := hide hl
  clear h hl
  by_cases hf : cableOk fl n = true
  · have HF := hide hf
    obtain ⟨⟨n1, n2⟩, -⟩ := cableOk_iff.1 hf
    have HK1 := hide (show cback fl n = upto (backC fl n) (n * 3) by simp [cback, hf])
    have HK2 := hide (show cbackN fl n = n by simp [cbackN, hf])
    rw [hf]
    clear hf
    go_enter Try.func12, Try.ntmps12
    go_wp2_with fail
    (with_reducible refine (cableValid_any _ fl n _ _ HL.out H.out hn).mono ?_)
    rintro e w1 ⟨rfl, hb1⟩
    rw [HF.out]
    go_wp2_with fail
    (with_reducible refine (cloneS_any _ fl n _ _ HL.out (H.out.next hb1) hn (by omega)).mono ?_)
    rintro e w2 ⟨A2, c2, rfl, h1, h2, hfr, hb2⟩
    go_wp2_with fail
    (with_reducible refine (reverseS_any _ _ _ fl n _ _ HL.out hfr (by omega) hn).mono ?_)
    rintro e w3 ⟨rfl, hr, hsz, row, hg, hrow⟩
    have HS := hide hsz
    clear hsz
    go_wp2_with fail
    (with_reducible refine (clipS_any _ _ _ _ h1 h2).mono ?_)
    rintro e w' ⟨rfl, rfl⟩
    go_wp2
    go_ret2
    have s1 := hb1.size
    have s2 := hb2.size
    have s3 := HS.out
    rw [HK1.out, HK2.out]
    exact ⟨A2, n, rfl, upto_length _ _, Nat.le_refl _, by omega, hr.mono s1 (by omega), (bt hb1 hb2).grown hg (by omega) (fun g e => by have := hrow g e; omega)⟩
  · have hf' : cableOk fl n = false := by simpa using hf
    have HF := hide hf'
    rw [hf']
    clear hf hf'
    go_enter Try.func12, Try.ntmps12
    go_wp2_with fail
    (with_reducible refine (cableValid_any _ fl n _ _ HL.out H.out hn).mono ?_)
    rintro e w1 ⟨rfl, hb1⟩
    rw [HF.out]
    go_wp2
    go_ret2
    exact cback_no HF.out (by omega) hb1

theorem back_step (fl : List Int) {n k : Nat} (h : k < n) : upto (backC fl n) ((k + 1) * 3) = upto (backC fl n) (k * 3) ++ [at0 fl ((n - 1 - k) * 3), at0 fl ((n - 1 - k) * 3 + 1), at0 fl ((n - 1 - k) * 3 + 2)] := by
  have e : (k + 1) * 3 = k * 3 + 1 + 1 + 1 := by omega
  rw [e, upto_succ, upto_succ, upto_succ, List.append_assoc, List.append_assoc]
  have e0 : k * 3 / 3 = k := by omega
  have e1 : (k * 3 + 1) / 3 = k := by omega
  have e2 : (k * 3 + 1 + 1) / 3 = k := by omega
  have f0 : k * 3 % 3 = 0 := by omega
  have f1 : (k * 3 + 1) % 3 = 1 := by omega
  have f2 : (k * 3 + 1 + 1) % 3 = 2 := by omega
  simp only [backC, e0, e1, e2, f0, f1, f2, Nat.add_zero]
  rfl

set_option maxHeartbeats 3200000 in
theorem specCableBack_any (A : Option Addr) (fl : List Int) (n cap : Nat) (w : World) (hl : fl.length = n * 3) (h : Ints w w.heap.size A fl) (hn : n ≤ 1048576) :
    Calls Try.prog 13 #[.slice A n cap] w (RetSecs w (cback fl n) (cbackN fl n) (cableOk fl n)) := by
  have H := hide h
  have HL := hide hl
  clear h hl
  by_cases hf : cableOk fl n = true
  · have HF := hide hf
    obtain ⟨⟨n1, n2⟩, -⟩ := cableOk_iff.1 hf
    have HK1 := hide (show cback fl n = upto (backC fl n) (n * 3) by simp [cback, hf])
    have HK2 := hide (show cbackN fl n = n by simp [cbackN, hf])
    obtain ⟨b, off, rfl, hb, hc⟩ := H.out (by have := HL.out; omega)
    have HC := hide hc
    rw [hf]
    clear hf hc
    go_enter Try.func13, Try.ntmps13
    go_wp2
    go_loopw [4, 5] (fun v i wr => ∃ k : Nat, k ≤ n ∧ i = .int .i64 ((n : Int) - 1 - (k : Int)) ∧ wr.ownsRow w.heap.size 42 3 v k ((upto (backC fl n) (k * 3)).map (Value.int .i64)) ∧ Hid (Below w.heap.size w wr))
      (fun _ i _ => (intOf i + 1).toNat)
    case atStart => exact ⟨0, Nat.zero_le _, by simp, own_empty w 42 3, (Below.refl _ w).alloc (Nat.le_refl _) _⟩
    case round =>
      obtain ⟨k, hk, rfl, hown, hbel⟩ := hrel
      have HO := hide hown
      clear hown
      by_cases hlt : k < n
      · have e1 : (0 : Int) ≤ (n : Int) - 1 - (k : Int) := by omega
        have e2 : (n : Int) - 1 - (k : Int) < (n : Int) := by omega
        have e3 : ((n : Int) - 1 - (k : Int)).toNat = n - 1 - k := by omega
        have hB := hide hbel.out
        go_wp2_with fail
        (with_reducible refine (specCableValid_any _ fl n _ _ HL.out ((H.out.below hB.out).mono hB.out.size) hn).mono ?_)
        rintro e w1 ⟨rfl, hb1⟩
        have B1 := bt hB.out hb1
        obtain ⟨c0, c1, c2⟩ := sec_cells (w := w1) (hi := 0) (b := b) (off := off) (k := n - 1 - k) HL.out (fun j hj => (B1.cell (p := ⟨b, off + j, none⟩) hb).trans (HC.out j hj)) (by omega)
        obtain ⟨v', w2, hr, ho', hb2, hs2⟩ := append_sec w1 w.heap.size _ k (upto (backC fl n) (k * 3)) (at0 fl ((n - 1 - k) * 3)) (at0 fl ((n - 1 - k) * 3 + 1)) (at0 fl ((n - 1 - k) * 3 + 2)) (own_on HO.out hb1) B1.size (by omega)
        have HR := hide hr
        have B2 := hide (B1.trans hb2)
        rw [← back_step fl hlt] at ho'
        have HO' := hide ho'
        clear hr ho' hb2 hs2
        rw [HF.out]
        go_wp2_with (at_builtin; refine Lib.wpList_append_run _ rfl _ _ _ _ rfl _ _ rfl rfl _ _ HR.out ?_)
        go_roundw
        case rel => exact ⟨k + 1, by omega, by go_num, HO'.out, B2.out⟩
        case measure => simp [intOf]; omega
      · have hkk : k = n := by omega
        have HE := hide hkk
        have e1 : ¬ (0 : Int) ≤ (n : Int) - 1 - (k : Int) := by omega
        clear hkk
        go_wp2_with fail
        (with_reducible refine (specCableValid_any _ fl n _ _ HL.out ((H.out.below hbel.out).mono hbel.out.size) hn).mono ?_)
        rintro e w1 ⟨rfl, hb1⟩
        rw [HF.out]
        go_wp2
        go_ret2
        have hown := HO.out
        rw [HE.out] at hown
        obtain ⟨A2, c2, rfl, g1, g2⟩ := own_formS hown
        have hfr := Fresh.of_ownS (fl := upto (backC fl n) (n * 3)) hown
        unfold maxLen at g2
        rw [HK1.out, HK2.out]
        exact ⟨A2, c2, rfl, upto_length _ _, g1, by omega, (hfr.below hb1).mono (Nat.le_refl _) hb1.size, bt hbel.out hb1⟩
  · have hf' : cableOk fl n = false := by simpa using hf
    have HF := hide hf'
    rw [hf']
    clear hf hf'
    have HB := hide ((Below.refl w.heap.size w).alloc (Nat.le_refl _) (.cells #[] 42))
    have HV := hide (show ∀ W, Below w.heap.size w W → Calls Try.prog 43 #[.slice A n cap] W fun e w' => e = .returned (.bool false) ∧ Below W.heap.size W w' from fun W hb => by
      have := specCableValid_any A fl n cap W HL.out ((H.out.below hb).mono hb.size) hn
      rw [HF.out] at this
      exact this)
    go_enter Try.func13, Try.ntmps13
    go_wp2
    go_loop [4, 5] (fun v i => v = .slice (some ⟨w.heap.size, 0, none⟩) 0 0 ∧ i = .int .i64 ((n : Int) - 1)) (fun _ _ => 0)
    case atStart => exact ⟨rfl, by simp⟩
    case round =>
      obtain ⟨rfl, rfl⟩ := hrel
      by_cases h1 : (0 : Int) ≤ (n : Int) - 1
      · go_wp2_with (go_at_call 43; first | (refine (HV.out _ HB.out).mono ?_; rintro e w1 ⟨rfl, hb1⟩; have B1 := bt HB.out hb1) | (refine (HV.out _ B1).mono ?_; rintro e w2 ⟨rfl, hb2⟩; have B2 := bt B1 hb2))
        go_ret2
        exact cback_no HF.out (by omega) (by assumption)
      · have h1' : decide ((0 : Int) ≤ (n : Int) - 1) = false := by simpa using h1
        go_wp2_with (go_at_call 43; refine (HV.out _ HB.out).mono ?_; rintro e w1 ⟨rfl, hb1⟩)
        go_ret2
        exact cback_no HF.out (by omega) (bt HB.out hb1)
end Go.Proofs.Ytglknakgfnoeaaa
