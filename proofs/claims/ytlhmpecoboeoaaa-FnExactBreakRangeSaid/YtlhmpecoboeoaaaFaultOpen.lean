/-
  WALKS: what is measured of a fault, open.
-/
import Derived.Test.YtlhmpecoboeoaaaFault
import Derived.BigRegion
namespace Go.Proofs.Ytlhmpecoboeoaaa
set_option linter.unusedVariables false
set_option linter.unusedSimpArgs false
open Go.RowKit

theorem ohms_bd (fl : List Int) (n : Nat) (m : Int) : -1 ≤ ohms fl n m ∧ ohms fl n m ≤ 8000 := by
  unfold ohms
  split
  · rename_i h
    obtain ⟨hk, h0, h1⟩ := inB_miles h
    have := ohmsTo_bd hk h0 h1 (Nat.le_refl n)
    omega
  · omega
/-- What is measured from A, and from B. -/
def foA (fl : List Int) (n : Nat) (m o : Int) : Int := if faultOk fl n m o = true then ohms fl n m + o else 0
def foB (fl : List Int) (n : Nat) (m o : Int) : Int := if faultOk fl n m o = true then ohms fl n (miles fl n) - ohms fl n m + o else 0

set_option maxHeartbeats 1600000 in
theorem sides_any (A : Option Addr) (fl : List Int) (n cap : Nat) (m o : Int) (w : World) (hl : fl.length = n * 3) (h : Ints w w.heap.size A fl) (hn : n ≤ 1048576) :
    Calls Try.prog 68 #[.slice A n cap, .agg #[.int .i64 m, .int .i64 o]] w fun e w' => e = .returned (.tuple #[.int .i64 (ohms fl n m), .int .i64 (ohms fl n (miles fl n) - ohms fl n m)]) ∧ Below w.heap.size w w' := by
  obtain ⟨a1, a2⟩ := ohms_bd fl n m
  obtain ⟨a3, a4⟩ := ohms_bd fl n (miles fl n)
  have H := hide h
  clear h
  have hB0 : Below w.heap.size w (w.alloc (.cells #[.int .i64 m, .int .i64 o] 33)) := (Below.refl _ w).alloc (Nat.le_refl _) _
  go_enter Try.func68, Try.ntmps68
  go_wp2_with fail
  (with_reducible refine (cableOhms_any _ fl n _ _ _ hl (H.out.next hB0) hn).mono ?_)
  rintro e w1 ⟨rfl, hb1⟩
  have hB1 := bt hB0 hb1
  go_wp2_with fail
  (with_reducible refine (cableAll_any _ fl n _ _ hl (H.out.next hB1) hn).mono ?_)
  rintro e w2 ⟨rfl, hb2⟩
  go_wp2
  go_ret2
  exact ⟨rfl, bt hB1 hb2⟩

set_option maxHeartbeats 3200000 in
theorem faultOpen_any (A : Option Addr) (fl : List Int) (n cap : Nat) (m o : Int) (w : World) (hl : fl.length = n * 3) (h : Ints w w.heap.size A fl) (hn : n ≤ 1048576) :
    Calls Try.prog 49 #[.slice A n cap, .agg #[.int .i64 m, .int .i64 o]] w fun e w' => e = .returned (.tuple #[.int .i64 (foA fl n m o), .int .i64 (foB fl n m o), .bool (faultOk fl n m o)]) ∧ Below w.heap.size w w' := by
  obtain ⟨a1, a2⟩ := ohms_bd fl n m
  obtain ⟨a3, a4⟩ := ohms_bd fl n (miles fl n)
  have HV := hide (fun (w' : World) (hb : Boxed w w' m o) => faultValid_any A fl n cap m o w' hl (h.next hb.2.2.2) hn)
  have HS := hide (fun (w' : World) (hb : Boxed w w' m o) => sides_any A fl n cap m o w' hl (h.next hb.2.2.2) hn)
  clear hl h
  have B0 : Boxed w (w.alloc (.cells #[.int .i64 m, .int .i64 o] 33)) m o := ⟨by go_cell, by go_cell, by simp, by go_grown⟩
  by_cases hf : faultOk fl n m o = true
  · obtain ⟨o0, o1⟩ := inB_iff.1 (show inB o 0 1000 = true by simp [faultOk] at hf; exact hf.2)
    have HF := hide hf
    have HA := hide (show foA fl n m o = ohms fl n m + o by simp [foA, hf])
    have HB := hide (show foB fl n m o = ohms fl n (miles fl n) - ohms fl n m + o by simp [foB, hf])
    rw [HF.out, HA.out, HB.out]
    clear hf
    go_enter Try.func49, Try.ntmps49
    go_wp2_with fail
    (with_reducible refine (HV.out _ B0).mono ?_)
    rintro e w1 ⟨rfl, hb1⟩
    rw [HF.out]
    have B1 := B0.on hb1
    have k0 := B1.1
    have k1 := B1.2.1
    go_wp2_with fail
    (with_reducible refine (HS.out _ B1).mono ?_)
    rintro e w2 ⟨rfl, hb2⟩
    have B2 := B1.on hb2
    have j0 := B2.1
    have j1 := B2.2.1
    go_wp2_with fail
    go_region
    go_wp2
    go_ret3
    exact ⟨rfl, below_drewN B2.2.2.2 _⟩
  · have hf' : faultOk fl n m o = false := by simpa using hf
    have HF := hide hf'
    have HA := hide (show foA fl n m o = 0 by simp [foA, hf'])
    have HB := hide (show foB fl n m o = 0 by simp [foB, hf'])
    rw [HF.out, HA.out, HB.out]
    clear hf hf'
    go_enter Try.func49, Try.ntmps49
    go_wp2_with fail
    (with_reducible refine (HV.out _ B0).mono ?_)
    rintro e w1 ⟨rfl, hb1⟩
    rw [HF.out]
    have B1 := B0.on hb1
    go_wp2
    go_ret3
    exact ⟨rfl, B1.2.2.2⟩

set_option maxHeartbeats 1600000 in
theorem l3Sides_any (A : Option Addr) (fl : List Int) (n cap : Nat) (m : Int) (w : World) (hl : fl.length = n * 3) (h : Ints w w.heap.size A fl) (hn : n ≤ 1048576) :
    Calls Try.prog 67 #[.slice A n cap, .int .i64 m] w fun e w' => e = .returned (.tuple #[.int .i64 (ohms fl n m), .int .i64 (ohms fl n (miles fl n) - ohms fl n m)]) ∧ Below w.heap.size w w' := by
  obtain ⟨a1, a2⟩ := ohms_bd fl n m
  obtain ⟨a3, a4⟩ := ohms_bd fl n (miles fl n)
  have H := hide h
  clear h
  go_enter Try.func67, Try.ntmps67
  go_wp2_with fail
  (with_reducible refine (specCableOhms_any _ fl n _ _ _ hl H.out hn).mono ?_)
  rintro e w1 ⟨rfl, hb1⟩
  have hB1 := hb1
  go_wp2_with fail
  (with_reducible refine (specCableAll_any _ fl n _ _ hl (H.out.next hB1) hn).mono ?_)
  rintro e w2 ⟨rfl, hb2⟩
  go_wp2
  go_ret2
  exact ⟨rfl, bt hB1 hb2⟩

set_option maxHeartbeats 3200000 in
theorem specFaultOpen_any (A : Option Addr) (fl : List Int) (n cap : Nat) (m o : Int) (w : World) (hl : fl.length = n * 3) (h : Ints w w.heap.size A fl) (hn : n ≤ 1048576) :
    Calls Try.prog 48 #[.slice A n cap, .agg #[.int .i64 m, .int .i64 o]] w fun e w' => e = .returned (.tuple #[.int .i64 (foA fl n m o), .int .i64 (foB fl n m o), .bool (faultOk fl n m o)]) ∧ Below w.heap.size w w' := by
  obtain ⟨a1, a2⟩ := ohms_bd fl n m
  obtain ⟨a3, a4⟩ := ohms_bd fl n (miles fl n)
  have HV := hide (fun (w' : World) (hb : Boxed w w' m o) => specFaultValid_any A fl n cap m o w' hl (h.next hb.2.2.2) hn)
  have HS := hide (fun (w' : World) (hb : Boxed w w' m o) => l3Sides_any A fl n cap m w' hl (h.next hb.2.2.2) hn)
  clear hl h
  have B0 : Boxed w (w.alloc (.cells #[.int .i64 m, .int .i64 o] 33)) m o := ⟨by go_cell, by go_cell, by simp, by go_grown⟩
  by_cases hf : faultOk fl n m o = true
  · obtain ⟨o0, o1⟩ := inB_iff.1 (show inB o 0 1000 = true by simp [faultOk] at hf; exact hf.2)
    have HF := hide hf
    have HA := hide (show foA fl n m o = ohms fl n m + o by simp [foA, hf])
    have HB := hide (show foB fl n m o = ohms fl n (miles fl n) - ohms fl n m + o by simp [foB, hf])
    rw [HF.out, HA.out, HB.out]
    clear hf
    go_enter Try.func48, Try.ntmps48
    go_wp2_with fail
    (with_reducible refine (HV.out _ B0).mono ?_)
    rintro e w1 ⟨rfl, hb1⟩
    rw [HF.out]
    have B1 := B0.on hb1
    have k0 := B1.1
    have k1 := B1.2.1
    go_wp2_with fail
    (with_reducible refine (HS.out _ B1).mono ?_)
    rintro e w2 ⟨rfl, hb2⟩
    have B2 := B1.on hb2
    have j0 := B2.1
    have j1 := B2.2.1
    go_wp2_with fail
    go_region
    go_wp2
    go_ret3
    exact ⟨rfl, below_drewN B2.2.2.2 _⟩
  · have hf' : faultOk fl n m o = false := by simpa using hf
    have HF := hide hf'
    have HA := hide (show foA fl n m o = 0 by simp [foA, hf'])
    have HB := hide (show foB fl n m o = 0 by simp [foB, hf'])
    rw [HF.out, HA.out, HB.out]
    clear hf hf'
    go_enter Try.func48, Try.ntmps48
    go_wp2_with fail
    (with_reducible refine (HV.out _ B0).mono ?_)
    rintro e w1 ⟨rfl, hb1⟩
    rw [HF.out]
    have B1 := B0.on hb1
    go_wp2
    go_ret3
    exact ⟨rfl, B1.2.2.2⟩

/-- What is measured of a broken cable. -/
def brk (fl : List Int) (n : Nat) (m o : Int) : Int := if faultOk fl n m o = true then ohms fl n m + o else -1

set_option maxHeartbeats 1600000 in
theorem breakOpen_any (A : Option Addr) (fl : List Int) (n cap : Nat) (m o : Int) (w : World) (hl : fl.length = n * 3) (h : Ints w w.heap.size A fl) (hn : n ≤ 1048576) :
    Calls Try.prog 47 #[.slice A n cap, .int .i64 m, .int .i64 o] w fun e w' => e = .returned (.int .i64 (brk fl n m o)) ∧ Below w.heap.size w w' := by
  have H := hide h
  clear h
  by_cases hf : faultOk fl n m o = true
  · have HF := hide hf
    have HA := hide (show foA fl n m o = brk fl n m o by simp [foA, brk, hf])
    clear hf
    go_enter Try.func47, Try.ntmps47
    go_wp2_with fail
    (with_reducible refine (faultOpen_any _ fl n _ m o _ hl H.out hn).mono ?_)
    rintro e w1 ⟨rfl, hb1⟩
    rw [HF.out, HA.out]
    go_wp2
    go_ret
    exact ⟨rfl, hb1⟩
  · have hf' : faultOk fl n m o = false := by simpa using hf
    have HF := hide hf'
    have HA := hide (show brk fl n m o = -1 by simp [brk, hf'])
    rw [HA.out]
    clear hf hf'
    go_enter Try.func47, Try.ntmps47
    go_wp2_with fail
    (with_reducible refine (faultOpen_any _ fl n _ m o _ hl H.out hn).mono ?_)
    rintro e w1 ⟨rfl, hb1⟩
    rw [HF.out]
    go_wp2
    go_ret
    exact ⟨rfl, hb1⟩

set_option maxHeartbeats 1600000 in
theorem specBreakOpen_any (A : Option Addr) (fl : List Int) (n cap : Nat) (m o : Int) (w : World) (hl : fl.length = n * 3) (h : Ints w w.heap.size A fl) (hn : n ≤ 1048576) :
    Calls Try.prog 46 #[.slice A n cap, .int .i64 m, .int .i64 o] w fun e w' => e = .returned (.int .i64 (brk fl n m o)) ∧ Below w.heap.size w w' := by
  obtain ⟨a1, a2⟩ := ohms_bd fl n m
  have H := hide h
  clear h
  by_cases hm : inB m 0 (miles fl n) = true
  · obtain ⟨hk, m0, m1⟩ := inB_miles hm
    have hO : ohms fl n m = ohmsTo fl m n := by simp [ohms, hm]
    have a3 : 0 ≤ ohms fl n m := by rw [hO]; exact (ohmsTo_bd hk m0 m1 (Nat.le_refl n)).1
    clear hO hk
    by_cases ho : inB o 0 1000 = true
    · obtain ⟨o0, o1⟩ := inB_iff.1 ho
      have HO := hide ho
      have HA := hide (show brk fl n m o = ohms fl n m + o by simp [brk, faultOk, hm, ho])
      rw [HA.out]
      clear hm ho
      go_enter Try.func46, Try.ntmps46
      go_wp2_with fail
      (with_reducible refine (specCableOhms_any _ fl n _ _ _ hl H.out hn).mono ?_)
      rintro e w1 ⟨rfl, hb1⟩
      go_wp2_with fail
      (with_reducible refine (l6In_any _ _ _ _).mono ?_)
      rintro e w' ⟨rfl, rfl⟩
      rw [HO.out]
      go_wp2
      go_ret
      exact ⟨rfl, hb1⟩
    · have ho' : inB o 0 1000 = false := by simpa using ho
      have HO := hide ho'
      have HA := hide (show brk fl n m o = -1 by simp [brk, faultOk, ho'])
      rw [HA.out]
      clear hm ho ho'
      go_enter Try.func46, Try.ntmps46
      go_wp2_with fail
      (with_reducible refine (specCableOhms_any _ fl n _ _ _ hl H.out hn).mono ?_)
      rintro e w1 ⟨rfl, hb1⟩
      go_wp2_with fail
      (with_reducible refine (l6In_any _ _ _ _).mono ?_)
      rintro e w' ⟨rfl, rfl⟩
      rw [HO.out]
      go_wp2
      go_ret
      exact ⟨rfl, hb1⟩
  · have hm' : inB m 0 (miles fl n) = false := by simpa using hm
    have HO := hide (show ohms fl n m = -1 by simp [ohms, hm'])
    have HA := hide (show brk fl n m o = -1 by simp [brk, faultOk, hm'])
    rw [HA.out]
    clear hm hm'
    go_enter Try.func46, Try.ntmps46
    go_wp2_with fail
    (with_reducible refine (specCableOhms_any _ fl n _ _ _ hl H.out hn).mono ?_)
    rintro e w1 ⟨rfl, hb1⟩
    rw [HO.out]
    go_wp2
    go_ret
    exact ⟨rfl, hb1⟩
end Go.Proofs.Ytlhmpecoboeoaaa
