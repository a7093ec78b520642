/-
  WALKS: two cables spliced: the program's and the reference's.
-/
import Derived.Test.YtlhmpecoboeoaaaConcatS
import Derived.Test.YtlhmpecoboeoaaaCable
namespace Go.Proofs.Ytlhmpecoboeoaaa
set_option linter.unusedVariables false
set_option linter.unusedSimpArgs false
open Go.RowKit

/-- A new list of sections comes back, and a bool; what there was lies as it lay. -/
def RetSecs (w : World) (fl : List Int) (n : Nat) (ok : Bool) (e : Ending) (w' : World) : Prop :=
  ∃ A cap, e = .returned (.tuple #[.slice A n cap, .bool ok]) ∧ fl.length = n * 3 ∧ n ≤ cap ∧ cap ≤ 9223372036854775807 ∧ Fresh w' w.heap.size w'.heap.size A fl ∧ Below w.heap.size w w'
theorem own_formS {w : World} {base size : Nat} {e : TypeId} {v : Value} {n : Nat} {xs : List Value} (h : w.ownsRow base e size v n xs) : ∃ A cap, v = .slice A n cap ∧ n ≤ cap ∧ cap ≤ maxLen := by
  rcases h.2 with ⟨rfl, rfl⟩ | ⟨g, cap, cur, rfl, _, _, hle, hm, _⟩
  · exact ⟨none, 0, rfl, Nat.le_refl _, Nat.zero_le _⟩
  · exact ⟨_, cap, rfl, hle, hm⟩
theorem Fresh.of_ownS {w : World} {base size : Nat} {e : TypeId} {A : Option Addr} {n cap : Nat} {fl : List Int} (h : w.ownsRow base e size (.slice A n cap) n (fl.map (Value.int .i64))) : Fresh w base w.heap.size A fl := fun hp => by
  have hlen : fl.length = n * size := by have := h.1; simpa using this
  have hn : 0 < n := by
    rcases Nat.eq_zero_or_pos n with h0 | h0
    · rw [h0, Nat.zero_mul] at hlen; omega
    · exact h0
  obtain ⟨g, cap', hv, hb, hlt⟩ := h.form hn
  have hA : A = some ⟨g, 0, none⟩ ∧ cap = cap' := by
    injection hv with h1 h2 h3
    exact ⟨h1, h3⟩
  obtain ⟨rfl, rfl⟩ := hA
  refine ⟨g, 0, rfl, hb, hlt, fun j hj => ⟨?_, h.frozenAt (0 + j)⟩⟩
  have := h.cellAt j (by omega)
  rw [Nat.zero_add, this, List.getElem?_map, List.getElem?_eq_getElem hj, at0_lt hj]
  rfl

theorem clipS_any (A : Option Addr) (n cap : Nat) (w : World) (h : n ≤ cap) (hc : cap ≤ 9223372036854775807) :
    Calls Try.prog 61 #[.slice A n cap] w fun e w' => e = .returned (.slice A n n) ∧ w = w' := by
  go_enter Try.func61, Try.ntmps61
  go_wp2
  go_ret
  exact ⟨rfl, rfl⟩

/-- Two cables can be spliced. -/
def spliceOk (xs ys : List Int) (n m : Nat) : Bool := cableOk xs n && (cableOk ys m && cableOk (xs ++ ys) (n + m))
def splice (xs ys : List Int) (n m : Nat) : List Int := if spliceOk xs ys n m = true then xs ++ ys else []
def spliceN (xs ys : List Int) (n m : Nat) : Nat := if spliceOk xs ys n m = true then n + m else 0
theorem splice_no {xs ys : List Int} {n m : Nat} (h : spliceOk xs ys n m = false) {w : World} {A : Option Addr} {cap : Nat} (hcap : cap ≤ 9223372036854775807) {w' : World} (hb : Below w.heap.size w w') : RetSecs w (splice xs ys n m) (spliceN xs ys n m) (spliceOk xs ys n m) (.returned (.tuple #[.slice A 0 cap, .bool false])) w' := by
  simp only [splice, spliceN, h]
  exact ⟨A, cap, rfl, rfl, Nat.zero_le _, hcap, Fresh.nil _ _ _ _, hb⟩

set_option maxHeartbeats 3200000 in
theorem cableSplice_any (A B : Option Addr) (xs ys : List Int) (n m c d : Nat) (w : World) (hl : xs.length = n * 3) (hl' : ys.length = m * 3) (h : Ints w w.heap.size A xs) (h' : Ints w w.heap.size B ys) (hn : n ≤ 1048576) (hm : m ≤ 1048576) :
    Calls Try.prog 42 #[.slice A n c, .slice B m d] w (RetSecs w (splice xs ys n m) (spliceN xs ys n m) (spliceOk xs ys n m)) := by
  have H := hide h
  have H' := hide h'
  have HL := hide hl
  have HL' := hide hl'
  obtain ⟨L, hL⟩ : ∃ L, L = xs ++ ys := ⟨_, rfl⟩
  have HLn := hide (show L.length = (n + m) * 3 by rw [hL, List.length_append]; omega)
  have HLe := hide hL
  clear h h' hl hl' hL
  go_enter Try.func42, Try.ntmps42
  go_wp2_with fail
  (with_reducible refine (concatS_new _ _ _ _ _ _ _ xs ys HL.out HL'.out H.out H'.out hn hm).mono ?_)
  rintro e w1 ⟨v, rfl, hown, hb1⟩
  rw [← HLe.out] at hown
  obtain ⟨AL, cL, rfl, hc1, hc2⟩ := own_formS hown
  unfold maxLen at hc2
  have HF := hide (Fresh.of_ownS (fl := L) hown)
  have HC1 := hide hc1
  clear hown hc1
  go_wp2_with fail
  (with_reducible refine (cableValid_any _ xs n _ _ HL.out (H.out.next hb1) hn).mono ?_)
  rintro e w2 ⟨rfl, hb2⟩
  have B2 := bt hb1 hb2
  by_cases h1 : cableOk xs n = true
  · rw [h1]
    have H1 := hide h1
    clear h1
    go_wp2_with fail
    (with_reducible refine (cableValid_any _ ys m _ _ HL'.out (H'.out.next B2) hm).mono ?_)
    rintro e w3 ⟨rfl, hb3⟩
    have B3 := bt B2 hb3
    by_cases h2 : cableOk ys m = true
    · rw [h2]
      have H2 := hide h2
      obtain ⟨⟨m1, m2⟩, -⟩ := cableOk_iff.1 h2
      obtain ⟨⟨n1, n2⟩, -⟩ := cableOk_iff.1 H1.out
      clear h2
      have HF3 := hide ((HF.out.below (bt hb2 hb3)).mono (Nat.le_refl _) (show _ ≤ w3.heap.size from (bt hb2 hb3).size))
      go_wp2_with fail
      (with_reducible refine (cableValid_any _ L (n + m) _ _ HLn.out HF3.out.ints (by omega)).mono ?_)
      rintro e w4 ⟨rfl, hb4⟩
      have B4 := bt B3 hb4
      have HF4 := hide ((HF3.out.below hb4).mono (Nat.le_refl _) (show _ ≤ w4.heap.size from hb4.size))
      by_cases h3 : cableOk L (n + m) = true
      · rw [h3]
        have HK := hide (show spliceOk xs ys n m = true by simp only [spliceOk, H1.out, H2.out, ← HLe.out, h3]; rfl)
        have HK1 := hide (show splice xs ys n m = L by simp only [splice, HK.out, if_true, HLe.out])
        have HK2 := hide (show spliceN xs ys n m = n + m by simp only [spliceN, HK.out, if_true])
        clear h3
        go_wp2_with fail
        (with_reducible refine (clipS_any _ _ _ _ HC1.out (by omega)).mono ?_)
        rintro e w' ⟨rfl, rfl⟩
        go_wp2
        go_ret2
        rw [HK.out, HK1.out, HK2.out]
        exact ⟨AL, n + m, rfl, HLn.out, Nat.le_refl _, by omega, HF4.out, B4⟩
      · have h3' : cableOk L (n + m) = false := by simpa using h3
        rw [h3']
        have HK := hide (show spliceOk xs ys n m = false by simp only [spliceOk, ← HLe.out, h3', Bool.and_false])
        clear h3 h3'
        go_wp2
        go_ret2
        exact splice_no HK.out (by omega) B4
    · have h2' : cableOk ys m = false := by simpa using h2
      rw [h2']
      have HK := hide (show spliceOk xs ys n m = false by simp only [spliceOk, h2', Bool.false_and, Bool.and_false])
      clear h2 h2'
      go_wp2
      go_ret2
      exact splice_no HK.out (by omega) B3
  · have h1' : cableOk xs n = false := by simpa using h1
    rw [h1']
    have HK := hide (show spliceOk xs ys n m = false by simp only [spliceOk, h1', Bool.false_and])
    clear h1 h1'
    go_wp2
    go_ret2
    exact splice_no HK.out (by omega) B2

set_option maxHeartbeats 3200000 in
theorem specCableSplice_any (A B : Option Addr) (xs ys : List Int) (n m c d : Nat) (w : World) (hl : xs.length = n * 3) (hl' : ys.length = m * 3) (h : Ints w w.heap.size A xs) (h' : Ints w w.heap.size B ys) (hn : n ≤ 1048576) (hm : m ≤ 1048576) :
    Calls Try.prog 41 #[.slice A n c, .slice B m d] w (RetSecs w (splice xs ys n m) (spliceN xs ys n m) (spliceOk xs ys n m)) := by
  have H := hide h
  have H' := hide h'
  have HL := hide hl
  have HL' := hide hl'
  obtain ⟨L, hL⟩ : ∃ L, L = xs ++ ys := ⟨_, rfl⟩
  have HLn := hide (show L.length = (n + m) * 3 by rw [hL, List.length_append]; omega)
  have HLe := hide hL
  obtain ⟨i0, hi, hz0, hz1, hz2⟩ := info_parts infoSec
  have hB0 : Below w.heap.size w (w.alloc (.cells #[] 52)) := (Below.refl _ w).alloc (Nat.le_refl _) _
  obtain ⟨v1, u1, r1, p1, q1⟩ := run_append_flat (P := Try.prog) (w.alloc (.cells #[] 52)) w.heap.size 25 25 52 i0 _ 3 24 Try.underlying25 hi hz0 hz1 hz2 rfl (by decide) _ 0 [] (own_empty w 52 3) w.heap.size A n c xs hl (h.below hB0) (by unfold maxLen; omega) (by omega) (by simp)
  have hb0 := hB0.trans (append_own_below (base := w.heap.size) (own_empty w 52 3) q1 (by simp))
  obtain ⟨v2, u2, r2, p2, q2⟩ := run_append_flat (P := Try.prog) u1 w.heap.size 25 25 52 i0 _ 3 24 Try.underlying25 hi hz0 hz1 hz2 rfl (by decide) _ _ _ p1 w.heap.size B m d ys hl' (h'.below hb0) (by unfold maxLen; omega) (by omega) hb0.size
  have hb1 := hb0.trans (append_own_below p1 q2 hb0.size)
  have hown : u2.ownsRow w.heap.size 52 3 v2 (n + m) (L.map (Value.int .i64)) := by rw [hL]; simpa using p2
  have HR1 := hide r1
  have HR2 := hide r2
  clear r1 r2 p1 p2 q1 q2
  clear h h' hl hl' hL
  go_enter Try.func41, Try.ntmps41
  go_wp2_with (at_builtin; first | (refine Lib.wpList_append_run _ rfl _ _ _ _ rfl _ _ rfl rfl _ _ HR1.out ?_) | (refine Lib.wpList_append_run _ rfl _ _ _ _ rfl _ _ rfl rfl _ _ HR2.out ?_))
  obtain ⟨AL, cL, rfl, hc1, hc2⟩ := own_formS hown
  unfold maxLen at hc2
  have HF := hide (Fresh.of_ownS (fl := L) hown)
  have HC1 := hide hc1
  clear hown hc1
  go_wp2_with fail
  (with_reducible refine (specCableValid_any _ xs n _ _ HL.out (H.out.next hb1) hn).mono ?_)
  rintro e w2 ⟨rfl, hb2⟩
  have B2 := bt hb1 hb2
  by_cases h1 : cableOk xs n = true
  · rw [h1]
    have H1 := hide h1
    clear h1
    go_wp2_with fail
    (with_reducible refine (specCableValid_any _ ys m _ _ HL'.out (H'.out.next B2) hm).mono ?_)
    rintro e w3 ⟨rfl, hb3⟩
    have B3 := bt B2 hb3
    by_cases h2 : cableOk ys m = true
    · rw [h2]
      have H2 := hide h2
      obtain ⟨⟨m1, m2⟩, -⟩ := cableOk_iff.1 h2
      obtain ⟨⟨n1, n2⟩, -⟩ := cableOk_iff.1 H1.out
      clear h2
      have HF3 := hide ((HF.out.below (bt hb2 hb3)).mono (Nat.le_refl _) (show _ ≤ w3.heap.size from (bt hb2 hb3).size))
      go_wp2_with fail
      (with_reducible refine (specCableValid_any _ L (n + m) _ _ HLn.out HF3.out.ints (by omega)).mono ?_)
      rintro e w4 ⟨rfl, hb4⟩
      have B4 := bt B3 hb4
      have HF4 := hide ((HF3.out.below hb4).mono (Nat.le_refl _) (show _ ≤ w4.heap.size from hb4.size))
      by_cases h3 : cableOk L (n + m) = true
      · rw [h3]
        have HK := hide (show spliceOk xs ys n m = true by simp only [spliceOk, H1.out, H2.out, ← HLe.out, h3]; rfl)
        have HK1 := hide (show splice xs ys n m = L by simp only [splice, HK.out, if_true, HLe.out])
        have HK2 := hide (show spliceN xs ys n m = n + m by simp only [spliceN, HK.out, if_true])
        clear h3
        go_wp2
        go_ret2
        rw [HK.out, HK1.out, HK2.out]
        exact ⟨AL, cL, rfl, HLn.out, HC1.out, by omega, HF4.out, B4⟩
      · have h3' : cableOk L (n + m) = false := by simpa using h3
        rw [h3']
        have HK := hide (show spliceOk xs ys n m = false by simp only [spliceOk, ← HLe.out, h3', Bool.and_false])
        clear h3 h3'
        go_wp2
        go_ret2
        exact splice_no HK.out (by omega) (B4.alloc B4.size _)
    · have h2' : cableOk ys m = false := by simpa using h2
      rw [h2']
      have HK := hide (show spliceOk xs ys n m = false by simp only [spliceOk, h2', Bool.false_and, Bool.and_false])
      clear h2 h2'
      go_wp2
      go_ret2
      exact splice_no HK.out (by omega) (B3.alloc B3.size _)
  · have h1' : cableOk xs n = false := by simpa using h1
    rw [h1']
    have HK := hide (show spliceOk xs ys n m = false by simp only [spliceOk, h1', Bool.false_and])
    clear h1 h1'
    go_wp2
    go_ret2
    exact splice_no HK.out (by omega) (B2.alloc B2.size _)

end Go.Proofs.Ytlhmpecoboeoaaa
