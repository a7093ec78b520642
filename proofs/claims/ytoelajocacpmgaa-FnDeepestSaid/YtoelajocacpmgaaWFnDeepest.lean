/-
  WALK: the law FnDeepest.
-/
import Derived.Test.YtoelajocacpmgaaLawNeedsP
import Derived.Test.YtoelajocacpmgaaFirst
import Derived.Test.YtoelajocacpmgaaDrawsFloor
import Derived.Test.YtoelajocacpmgaaLawInts
import Derived.Deep.RegionHeld3
namespace Go.Proofs.Ytoelajocacpmgaa
set_option linter.unusedVariables false
set_option linter.unusedSimpArgs false
open Go.RowKit

set_option maxRecDepth 100000 in
set_option maxHeartbeats 4000000 in
theorem walk_FnDeepest (w0 : World) (A0 : Option Addr) (len0 cap0 : Nat) (bs0 : List Int) (i0 : IsList .u8 w0 A0 len0 cap0 bs0) :
    Calls Try.prog 5 #[.slice A0 len0 cap0] w0 fun e w' => e = .returned (.bool true) ∧ Below w0.heap.size w0 w' := by
  have hB0 := hide (IsList.byts i0)
  obtain ⟨rfl, hbc0, hbm0, -⟩ := i0
  unfold maxLen at hbm0
  by_cases big0 : (1048576 : Int) < (bs0.length : Int)
  · go_enter Try.func5, Try.ntmps5
    go_wp2
    go_ret
    exact ⟨rfl, Below.refl _ _⟩
  · skip
    have T := Below.refl w0.heap.size w0
    go_enter Try.func5, Try.ntmps5
    go_wp2_with fail
    (with_reducible refine (drawFloorDeepest_any A0 bs0 cap0 w0 hB0.out hbc0 hbm0).mono ?_)
    rintro e w1 ⟨D0, cD0, f, rfl, hcD0, hdD0, hbd, d0, hb1⟩
    have sz1 := hb1.size
    replace T := bt T hb1
    have hfl : f.length ≤ 17 := hbd.1
    have hn : f.length ≤ 1048576 := by omega
    have HBD := hide hbd
    clear hbd
    by_cases hf : floorOk f = true
    · have HF := hide hf
      have hl2 := floorOk_len hf
      obtain ⟨o, ho⟩ : ∃ o, o = firstMax f := ⟨_, rfl⟩
      have hol : o < f.length := by rw [ho]; exact firstTo_lt f f.length (by omega)
      have HN := hide (show deepest f = (o : Int) by rw [ho]; simp [deepest, hf])
      obtain ⟨o1, o2⟩ := firstTo_spec f f.length
      rw [show firstTo f f.length = o from ho.symm] at o1 o2
      have O1 := hide o1
      have O2 := hide o2
      have g1 := (floorLen_ge hf (a := 0) (b := o) (by omega) hol).1
      have g2 := (floorLen_ge hf (a := o) (b := f.length - 1) (by omega) (by omega)).2
      have g3 := floorLen_split hf (a := 0) (k := o) (b := f.length - 1) (by omega) (by omega) (by omega)
      have G := hide (show 10 * ((f.length : Int) - 1) + 2 * at0 f o - at0 f 0 - at0 f (f.length - 1) ≤ floorLen f 0 ((f.length : Int) - 1) by
        rw [show ((f.length - 1 : Nat) : Int) = (f.length : Int) - 1 by omega, show ((0 : Nat) : Int) = 0 from rfl] at g3
        rw [show ((f.length - 1 : Nat) : Int) = (f.length : Int) - 1 by omega] at g2
        rw [show ((0 : Nat) : Int) = 0 from rfl] at g1
        omega)
      obtain ⟨v1, v2⟩ := floorOk_get hf hol
      obtain ⟨v3, v4⟩ := floorOk_get hf (show 0 < f.length by omega)
      obtain ⟨v5, v6⟩ := floorOk_get hf (show f.length - 1 < f.length by omega)
      clear g1 g2 g3 o1 o2 ho hf
      go_wp2_with fail
      (with_reducible refine (floorDeepest_any _ f _ _ (d0.ints.mono (by omega)) hn).mono ?_)
      rintro e w2 ⟨rfl, hb2⟩
      have sz2 := hb2.size
      replace d0 := d0.below (hb2.mono (by omega))
      replace T := bt T hb2
      go_wp2_with fail
      (with_reducible refine (specFloorDeepest_any _ f _ _ (d0.ints.mono (by omega)) hn).mono ?_)
      rintro e w3 ⟨rfl, hb3⟩
      have sz3 := hb3.size
      replace d0 := d0.below (hb3.mono (by omega))
      replace T := bt T hb3
      rw [HN.out]
      go_wp2_with fail
      go_loopw [6] (fun i wr => ∃ k : Nat, k ≤ (f).length ∧ i = .int .i64 (k : Int) ∧ Hid (Below w3.heap.size w3 wr)) (fun i _ => (f).length - (intOf i).toNat)
      case atStart => exact ⟨0, Nat.zero_le _, rfl, Below.refl _ _⟩
      case round =>
        obtain ⟨k, hk, rfl, hbel⟩ := hrel
        by_cases hlt : k < (f).length
        · obtain ⟨b, off, rfl, hb1, hb2', hc⟩ := d0 (by omega)
          have hcell := (hbel.out.cell (p := ⟨b, off + k, none⟩) (by show b < _; omega)).trans (hc k hlt).1
          have hcell' := (hbel.out.cell (p := ⟨b, off + o, none⟩) (by show b < _; omega)).trans (hc o hol).1
          have hlt' : (k : Int) < ((f).length : Int) := by omega
          have hol' : (o : Int) < ((f).length : Int) := by omega
          have y1 := O1.out k hlt
          have hd : decide (at0 (f) o < at0 (f) k) = false := by simpa using y1
          have HBE := hide hbel.out
          clear hc
          by_cases hko : (k : Int) < (o : Int)
          · have y2 := O2.out k (by omega)
            have hq : (at0 (f) k == at0 (f) o) = false := beq_eq_false_iff_ne.2 (by omega)
            have hd2 : decide (k < o) = true := by simpa using hko
            clear y1 y2
            go_wp2_with fail
            go_quiet (fail)
            go_wp2
            go_roundw
            case rel => exact ⟨k + 1, by omega, by go_num, by first | exact HBE.out.drew | exact below_drewN HBE.out _⟩
            case measure => simp [intOf]; omega
          · have hd2 : decide (k < o) = false := by simpa using hko
            clear y1
            go_wp2_with fail
            go_quiet (fail)
            go_wp2
            go_roundw
            case rel => exact ⟨k + 1, by omega, by go_num, by first | exact HBE.out.drew | exact below_drewN HBE.out _⟩
            case measure => simp [intOf]; omega
        · have hlt' : ¬ (k : Int) < ((f).length : Int) := by omega
          have hb4 := hbel.out
          have sz4 := hb4.size
          replace d0 := d0.below (hb4.mono (by omega))
          replace T := bt T hb4
          obtain ⟨b, off, rfl, hba, hbb, hc⟩ := d0 (by omega)
          have HS := hide (show ∀ W, Below wr.heap.size wr W → W.cell? ⟨b, off + o, none⟩ = some (.int .i64 (at0 f o)) ∧ W.cell? ⟨b, off, none⟩ = some (.int .i64 (at0 f 0)) ∧ W.cell? ⟨b, off + (f.length - 1), none⟩ = some (.int .i64 (at0 f (f.length - 1))) ∧ Below wr.heap.size wr W from fun W hW =>
            ⟨(hW.cell (p := ⟨b, off + o, none⟩) (by show b < _; omega)).trans (hc o hol).1, (hW.cell (p := ⟨b, off, none⟩) (by show b < _; omega)).trans (by have := (hc 0 (by omega)).1; rwa [Nat.add_zero] at this), (hW.cell (p := ⟨b, off + (f.length - 1), none⟩) (by show b < _; omega)).trans (hc (f.length - 1) (by omega)).1, hW⟩)
          have HD0 := hide d0
          have HC := hide (show ∀ W, Below wr.heap.size wr W → Calls Try.prog 23 #[.slice (some ⟨b, off, none⟩) f.length cD0, .int .i64 0, .int .i64 ((f.length : Int) - 1)] W fun e w' => e = .returned (.int .i64 (floorLen f 0 ((f.length : Int) - 1))) ∧ Below wr.heap.size wr w' from fun W hW =>
            (floorLength_any _ f cD0 0 ((f.length : Int) - 1) W (((HD0.out.below (hW.mono (by omega))).ints).mono (by have := hW.size; omega)) hn hcD0 hdD0).mono (by rintro e w' ⟨rfl, hb⟩; exact ⟨rfl, bt hW hb⟩))
          have hq0 := Below.refl wr.heap.size wr
          have hqd := (Below.refl wr.heap.size wr).drew
          obtain ⟨k1, k2, k3, -⟩ := HS.out _ hq0
          have HT := hide T
          have e1 : (0 : Int) ≤ (f.length : Int) - 1 := by omega
          have e2 : (f.length : Int) - 1 < (f.length : Int) := by omega
          have e3 : ((f.length : Int) - 1).toNat = f.length - 1 := by omega
          have e4 : (0 : Int) < (f.length : Int) := by omega
          have e5 : (1 : Int) ≤ (f.length : Int) := by omega
          have e6 : 0 < f.length := by omega
          have e7 : f.length - 1 < f.length := by omega
          have e8 : (o : Int) < (f.length : Int) := by omega
          have e9 : (0 : Int) ≤ (o : Int) := by omega
          have s1 : IntKind.i64.wrap (10 * ((f.length : Int) - 1)) = 10 * ((f.length : Int) - 1) := IntWalk.i64_in _ ⟨by omega, by omega⟩
          have s2 : IntKind.i64.wrap (2 * at0 f o) = 2 * at0 f o := IntWalk.i64_in _ ⟨by omega, by omega⟩
          have s3 : IntKind.i64.wrap (10 * ((f.length : Int) - 1) + 2 * at0 f o) = 10 * ((f.length : Int) - 1) + 2 * at0 f o := IntWalk.i64_in _ ⟨by omega, by omega⟩
          have s4 : IntKind.i64.wrap (10 * ((f.length : Int) - 1) + 2 * at0 f o - at0 f 0) = 10 * ((f.length : Int) - 1) + 2 * at0 f o - at0 f 0 := IntWalk.i64_in _ ⟨by omega, by omega⟩
          have s5 : IntKind.i64.wrap (10 * ((f.length : Int) - 1) + 2 * at0 f o - at0 f 0 - at0 f (f.length - 1)) = 10 * ((f.length : Int) - 1) + 2 * at0 f o - at0 f 0 - at0 f (f.length - 1) := IntWalk.i64_in _ ⟨by omega, by omega⟩
          clear hc d0 T
          go_wp2_with fail
          go_region_held3 (fun w' => w'.cell? ⟨b, off + o, none⟩ = some (.int .i64 (at0 f o)) ∧ w'.cell? ⟨b, off, none⟩ = some (.int .i64 (at0 f 0)) ∧ w'.cell? ⟨b, off + (f.length - 1), none⟩ = some (.int .i64 (at0 f (f.length - 1))) ∧ Below wr.heap.size wr w') (exact HS.out _ (by assumption))
            ((go_at_call 23; (with_reducible refine (HC.out _ (by assumption)).mono ?_); rintro e w9 ⟨rfl, hb9⟩))
          all_goals
            clear s1 s2 s3 s4 s5
            go_wp2
            go_ret
            refine ⟨ret_bool ?_, HT.out.trans ((show Below wr.heap.size wr _ by assumption).mono HT.out.size)⟩
            exact decide_eq_true G.out
    · have hf' : floorOk f = false := by simpa using hf
      have HF := hide hf'
      clear hf hf'
      have HN := hide (show deepest f = -1 by simp [deepest, HF.out])
      go_wp2_with fail
      (with_reducible refine (floorDeepest_any _ f _ _ (d0.ints.mono (by omega)) hn).mono ?_)
      rintro e w2 ⟨rfl, hb2⟩
      have sz2 := hb2.size
      replace d0 := d0.below (hb2.mono (by omega))
      replace T := bt T hb2
      go_wp2_with fail
      (with_reducible refine (specFloorDeepest_any _ f _ _ (d0.ints.mono (by omega)) hn).mono ?_)
      rintro e w3 ⟨rfl, hb3⟩
      have sz3 := hb3.size
      replace d0 := d0.below (hb3.mono (by omega))
      replace T := bt T hb3
      rw [HN.out]
      go_wp2
      go_ret
      exact ⟨rfl, T⟩
end Go.Proofs.Ytoelajocacpmgaa
