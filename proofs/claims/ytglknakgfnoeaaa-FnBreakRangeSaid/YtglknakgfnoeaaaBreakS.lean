/-
  WALKS: the miles at which a cable can be broken: the reference's.
-/
import Derived.Test.YtglknakgfnoeaaaBreakX
namespace Go.Proofs.Ytglknakgfnoeaaa
set_option linter.unusedVariables false
set_option linter.unusedSimpArgs false
open Go.RowKit

theorem inB_hit {fl : List Int} {n : Nat} {x e : Int} {k : Nat} : inB x (ohms fl n (k : Int)) (ohms fl n (k : Int) + e) = brHit fl n x e k := by
  simp only [inB, brHit]
set_option maxHeartbeats 3200000 in
theorem specBreakRange_any (A : Option Addr) (fl : List Int) (n cap : Nat) (x e : Int) (w : World) (hl : fl.length = n * 3) (h : Ints w w.heap.size A fl) (hn : n ≤ 1048576) (x1 : x ≤ 9223372036854775807) :
    Calls Try.prog 36 #[.slice A n cap, .int .i64 x, .int .i64 e] w fun r w' => r = .returned (.tuple #[.int .i64 (brLo fl n x e), .int .i64 (brHi fl n x e), .bool (brOk fl n x e)]) ∧ Below w.heap.size w w' := by
  have H := hide h
  have HL := hide hl
  clear h hl
  by_cases ha : cableOk fl n = true
  · have HA := hide ha
    by_cases hx : 0 ≤ x
    · by_cases he : inB e 0 1000 = true
      · have HE := hide he
        obtain ⟨e0, e1⟩ := inB_iff.1 he
        obtain ⟨z0, z1⟩ := miles_le ha
        obtain ⟨M, hM⟩ : ∃ M : Nat, miles fl n = (M : Int) := ⟨(miles fl n).toNat, by omega⟩
        have HAl := hide (show brAll fl n x e = brS fl n x e (M + 1) by simp [brAll, hM])
        have hM1 : (M : Int) ≤ 400 := by omega
        have HM := hide hM
        clear ha he hM z0 z1
        go_enter Try.func36, Try.ntmps36
        go_wp2_with fail
        (with_reducible refine (specCableValid_any _ fl n _ _ HL.out H.out hn).mono ?_)
        rintro r w1 ⟨rfl, hb1⟩
        rw [HA.out]
        have B1 := hide hb1
        clear hb1
        go_wp2_with fail
        (with_reducible refine (l6In_any _ _ _ _).mono ?_)
        rintro r w' ⟨rfl, rfl⟩
        rw [HE.out]
        go_wp2_with fail
        go_loopw [9, 10, 11] (fun a b i wr => ∃ k : Nat, k ≤ M + 1 ∧ i = .int .i64 (k : Int) ∧ a = .int .i64 (brS fl n x e k).1 ∧ b = .int .i64 (brS fl n x e k).2 ∧ Hid (Below w.heap.size w wr)) (fun _ _ i _ => M + 1 - (intOf i).toNat)
        case atStart => exact ⟨0, Nat.zero_le _, rfl, rfl, rfl, B1.out⟩
        case round =>
          obtain ⟨k, hk, rfl, rfl, rfl, hB⟩ := hrel
          go_wp2_with fail
          (with_reducible refine (specCableMiles_any _ fl n _ _ HL.out ((H.out.below hB.out).mono hB.out.size) hn).mono ?_)
          rintro r w2 ⟨rfl, hb2⟩
          rw [HM.out]
          have B2 := hide (bt hB.out hb2)
          clear hb2
          by_cases hlt : (k : Int) ≤ (M : Int)
          · obtain ⟨o0, o1⟩ := ohms_in HA.out (show (0 : Int) ≤ (k : Int) by omega) (show (k : Int) ≤ miles fl n by rw [HM.out]; omega)
            go_wp2_with fail
            (with_reducible refine (specCableOhms_any _ fl n _ _ _ HL.out ((H.out.below B2.out).mono B2.out.size) hn).mono ?_)
            rintro r w3 ⟨rfl, hb3⟩
            have B3 := hide (bt B2.out hb3)
            clear hb3
            go_wp2_with fail
            (with_reducible refine (l6In_any _ _ _ _).mono ?_)
            rintro r w' ⟨rfl, rfl⟩
            rw [inB_hit]
            by_cases hh : brHit fl n x e k = true
            · rw [hh]
              by_cases hz : (brS fl n x e k).1 < 0
              · have E := hide (brS_hit hh hz)
                clear hh
                go_wp2
                go_roundw
                case rel => exact ⟨k + 1, by omega, by go_num, by rw [E.out], by rw [E.out], B3.out⟩
                case measure => simp [intOf]; omega
              · have E := hide (brS_hit' hh hz)
                clear hh
                go_wp2
                go_roundw
                case rel => exact ⟨k + 1, by omega, by go_num, by rw [E.out], by rw [E.out], B3.out⟩
                case measure => simp [intOf]; omega
            · have hh' : brHit fl n x e k = false := by simpa using hh
              rw [hh']
              have E := hide (brS_no hh')
              clear hh hh'
              go_wp2
              go_roundw
              case rel => exact ⟨k + 1, by omega, by go_num, by rw [E.out], by rw [E.out], B3.out⟩
              case measure => simp [intOf]; omega
          · have hkk : k = M + 1 := by omega
            subst hkk
            by_cases hz : (brS fl n x e (M + 1)).1 < 0
            · have HO := hide (show brOk fl n x e = false by
                simp only [brOk, Bool.and_eq_false_iff, decide_eq_false_iff_not]; exact Or.inr (by rw [HAl.out]; omega))
              have HO1 := hide (show brLo fl n x e = 0 by simp [brLo, HO.out])
              have HO2 := hide (show brHi fl n x e = 0 by simp [brHi, HO.out])
              go_wp2
              go_ret3
              rw [HO.out, HO1.out, HO2.out]
              exact ⟨rfl, B2.out⟩
            · have HO := hide (show brOk fl n x e = true by
                show ((cableOk fl n && (decide (0 ≤ x) && inB e 0 1000)) && decide (0 ≤ (brAll fl n x e).1)) = true
                rw [HA.out, HE.out, decide_eq_true hx, decide_eq_true (show 0 ≤ (brAll fl n x e).1 by rw [HAl.out]; omega)]; rfl)
              have HO1 := hide (show brLo fl n x e = (brS fl n x e (M + 1)).1 by simp only [brLo, HO.out, if_true, HAl.out])
              have HO2 := hide (show brHi fl n x e = (brS fl n x e (M + 1)).2 by simp only [brHi, HO.out, if_true, HAl.out])
              go_wp2
              go_ret3
              rw [HO.out, HO1.out, HO2.out]
              exact ⟨rfl, B2.out⟩
      · have he' : inB e 0 1000 = false := by simpa using he
        have HE := hide he'
        have HO := hide (show brOk fl n x e = false by simp [brOk, brAsk, he'])
        have HO1 := hide (show brLo fl n x e = 0 by simp [brLo, HO.out])
        have HO2 := hide (show brHi fl n x e = 0 by simp [brHi, HO.out])
        rw [HO.out, HO1.out, HO2.out]
        clear ha he he'
        go_enter Try.func36, Try.ntmps36
        go_wp2_with fail
        (with_reducible refine (specCableValid_any _ fl n _ _ HL.out H.out hn).mono ?_)
        rintro r w1 ⟨rfl, hb1⟩
        rw [HA.out]
        go_wp2_with fail
        (with_reducible refine (l6In_any _ _ _ _).mono ?_)
        rintro r w' ⟨rfl, rfl⟩
        rw [HE.out]
        go_wp2
        go_ret3
        exact ⟨rfl, hb1⟩
    · have HO := hide (show brOk fl n x e = false by simp [brOk, brAsk, hx])
      have HO1 := hide (show brLo fl n x e = 0 by simp [brLo, HO.out])
      have HO2 := hide (show brHi fl n x e = 0 by simp [brHi, HO.out])
      rw [HO.out, HO1.out, HO2.out]
      clear ha
      have hx' : x < 0 := by omega
      go_enter Try.func36, Try.ntmps36
      go_wp2_with fail
      (with_reducible refine (specCableValid_any _ fl n _ _ HL.out H.out hn).mono ?_)
      rintro r w1 ⟨rfl, hb1⟩
      rw [HA.out]
      go_wp2
      go_ret3
      exact ⟨rfl, hb1⟩
  · have ha' : cableOk fl n = false := by simpa using ha
    have HA := hide ha'
    have HO := hide (show brOk fl n x e = false by simp [brOk, brAsk, ha'])
    have HO1 := hide (show brLo fl n x e = 0 by simp [brLo, HO.out])
    have HO2 := hide (show brHi fl n x e = 0 by simp [brHi, HO.out])
    rw [HO.out, HO1.out, HO2.out]
    clear ha ha'
    go_enter Try.func36, Try.ntmps36
    go_wp2_with fail
    (with_reducible refine (specCableValid_any _ fl n _ _ HL.out H.out hn).mono ?_)
    rintro r w1 ⟨rfl, hb1⟩
    rw [HA.out]
    go_wp2
    go_ret3
    exact ⟨rfl, hb1⟩
end Go.Proofs.Ytglknakgfnoeaaa
