/-
  WALK: the law FnSteepest.
-/
import Derived.Test.YtoelajocacpmgaaLawPayP
import Derived.Test.YtoelajocacpmgaaSteep
import Derived.Test.YtoelajocacpmgaaDrawsFloor
import Derived.Test.YtoelajocacpmgaaLawInts
import Derived.Deep.RegionHeld3
namespace Go.Proofs.Ytoelajocacpmgaa
set_option linter.unusedVariables false
set_option linter.unusedSimpArgs false
open Go.RowKit

set_option maxRecDepth 100000 in
set_option maxHeartbeats 4000000 in
theorem walk_FnSteepest (w0 : World) (A0 : Option Addr) (len0 cap0 : Nat) (bs0 : List Int) (i0 : IsList .u8 w0 A0 len0 cap0 bs0) :
    Calls Try.prog 8 #[.slice A0 len0 cap0] w0 fun e w' => e = .returned (.bool true) ∧ Below w0.heap.size w0 w' := by
  have hB0 := hide (IsList.byts i0)
  obtain ⟨rfl, hbc0, hbm0, -⟩ := i0
  unfold maxLen at hbm0
  by_cases big0 : (1048576 : Int) < (bs0.length : Int)
  · go_enter Try.func8, Try.ntmps8
    go_wp2
    go_ret
    exact ⟨rfl, Below.refl _ _⟩
  · skip
    have T := Below.refl w0.heap.size w0
    go_enter Try.func8, Try.ntmps8
    go_wp2_with fail
    (with_reducible refine (drawFloorSteepest_any A0 bs0 cap0 w0 hB0.out hbc0 hbm0).mono ?_)
    rintro e w1 ⟨D0, cD0, f, rfl, hcD0, hdD0, hbd, d0, hb1⟩
    have sz1 := hb1.size
    replace T := bt T hb1
    have hfl : f.length ≤ 17 := hbd.1
    have hn : f.length ≤ 1048576 := by omega
    have HBD := hide hbd
    clear hbd
    by_cases hf : floorOk f = true
    · have HF := hide hf
      have hl2 := floorOk_len hf
      have hl := needsOf_len hf
      obtain ⟨o, ho⟩ : ∃ o, o = firstMax (needsOf f) := ⟨_, rfl⟩
      have hol : o < (needsOf f).length := by rw [ho]; exact firstTo_lt _ _ (by omega)
      have HN := hide (show steepest f = (o : Int) by rw [ho, needsOf_eq hf]; simp [steepest, hf])
      have HLv := hide (show (level f == at0 (needsOf f) o) = true by rw [ho, needsOf_eq hf]; simp [level, hf])
      obtain ⟨o1, o2⟩ := firstTo_spec (needsOf f) (needsOf f).length
      rw [show firstTo (needsOf f) (needsOf f).length = o from ho.symm] at o1 o2
      have O1 := hide o1
      have O2 := hide o2
      have hln : (needsOf f).length ≤ 16 := by omega
      clear o1 o2 ho hf hl
      go_wp2_with fail
      (with_reducible refine (floorSteepest_any _ f _ _ (d0.ints.mono (by omega)) hn).mono ?_)
      rintro e w2 ⟨rfl, hb2⟩
      have sz2 := hb2.size
      replace d0 := d0.below (hb2.mono (by omega))
      replace T := bt T hb2
      go_wp2_with fail
      (with_reducible refine (specFloorSteepest_any _ f _ _ (d0.ints.mono (by omega)) hn).mono ?_)
      rintro e w3 ⟨rfl, hb3⟩
      have sz3 := hb3.size
      replace d0 := d0.below (hb3.mono (by omega))
      replace T := bt T hb3
      rw [HN.out]
      go_wp2_with fail
      (with_reducible refine (floorNeeds_any _ f _ _ (d0.ints.mono (by omega)) hn).mono ?_)
      rintro e w4 ⟨Bg, cg, rfl, hcg, hdg, g, hb4⟩
      have sz4 := hb4.size
      replace d0 := d0.below (hb4.mono (by omega))
      replace T := bt T hb4
      rw [HF.out]
      go_wp2_with fail
      go_loopw [8] (fun i wr => ∃ k : Nat, k ≤ (needsOf f).length ∧ i = .int .i64 (k : Int) ∧ Hid (Below w4.heap.size w4 wr)) (fun i _ => (needsOf f).length - (intOf i).toNat)
      case atStart => exact ⟨0, Nat.zero_le _, rfl, Below.refl _ _⟩
      case round =>
        obtain ⟨k, hk, rfl, hbel⟩ := hrel
        by_cases hlt : k < (needsOf f).length
        · obtain ⟨b, off, rfl, hb1, hb2', hc⟩ := g (by omega)
          have hcell := (hbel.out.cell (p := ⟨b, off + k, none⟩) (by show b < _; omega)).trans (hc k hlt).1
          have hcell' := (hbel.out.cell (p := ⟨b, off + o, none⟩) (by show b < _; omega)).trans (hc o hol).1
          have hlt' : (k : Int) < ((needsOf f).length : Int) := by omega
          have hol' : (o : Int) < ((needsOf f).length : Int) := by omega
          have y1 := O1.out k hlt
          have hd : decide (at0 (needsOf f) o < at0 (needsOf f) k) = false := by simpa using y1
          have HBE := hide hbel.out
          clear hc
          by_cases hko : (k : Int) < (o : Int)
          · have y2 := O2.out k (by omega)
            have hq : (at0 (needsOf f) k == at0 (needsOf f) o) = false := beq_eq_false_iff_ne.2 (by omega)
            have hd2 : decide (k < o) = true := by simpa using hko
            clear y1 y2
            go_wp2_with fail
            go_quiet (fail)
            go_wp2
            go_roundw
            case rel => exact ⟨k + 1, by omega, by go_num, by first | exact HBE.out.drew | exact below_drewN HBE.out _⟩
            case measure => simp [intOf]; omega
          · have hd2 : decide (k < o) = false := by simpa using hko
            clear y1
            go_wp2_with fail
            go_quiet (fail)
            go_wp2
            go_roundw
            case rel => exact ⟨k + 1, by omega, by go_num, by first | exact HBE.out.drew | exact below_drewN HBE.out _⟩
            case measure => simp [intOf]; omega
        · have hlt' : ¬ (k : Int) < ((needsOf f).length : Int) := by omega
          have hb5 := hbel.out
          have sz5 := hb5.size
          replace d0 := d0.below (hb5.mono (by omega))
          replace g := g.below (hb5.mono (by omega))
          replace T := bt T hb5
          obtain ⟨b, off, rfl, hba, hbb, hc⟩ := g (by omega)
          have HS := hide (show ∀ W, Below wr.heap.size wr W → W.cell? ⟨b, off + o, none⟩ = some (.int .i64 (at0 (needsOf f) o)) ∧ Below wr.heap.size wr W from fun W hW =>
            ⟨(hW.cell (p := ⟨b, off + o, none⟩) (by show b < _; omega)).trans (hc o hol).1, hW⟩)
          have HD0 := hide d0
          have HC := hide (show ∀ W, Below wr.heap.size wr W → Calls Try.prog 39 #[.slice D0 f.length cD0] W fun e w' => e = .returned (.int .i64 (level f)) ∧ Below wr.heap.size wr w' from fun W hW =>
            (payLevel_any _ f cD0 W (((HD0.out.below (hW.mono (by omega))).ints).mono (by have := hW.size; omega)) hn).mono (by rintro e w' ⟨rfl, hb⟩; exact ⟨rfl, bt hW hb⟩))
          have hq0 := Below.refl wr.heap.size wr
          have hqd := (Below.refl wr.heap.size wr).drew
          obtain ⟨k1, -⟩ := HS.out _ hq0
          have HT := hide T
          have e8 : (o : Int) < ((needsOf f).length : Int) := by omega
          have e9 : (0 : Int) ≤ (o : Int) := by omega
          have hLv := HLv.out
          clear hc d0 T g
          go_wp2_with fail
          go_region_held3 (fun w' => w'.cell? ⟨b, off + o, none⟩ = some (.int .i64 (at0 (needsOf f) o)) ∧ Below wr.heap.size wr w') (exact HS.out _ (by assumption))
            ((go_at_call 39; (with_reducible refine (HC.out _ (by assumption)).mono ?_); rintro e w9 ⟨rfl, hb9⟩))
          all_goals
            go_wp2
            go_ret
            exact ⟨rfl, HT.out.trans ((show Below wr.heap.size wr _ by assumption).mono HT.out.size)⟩
    · have hf' : floorOk f = false := by simpa using hf
      have HF := hide hf'
      clear hf hf'
      have HN := hide (show steepest f = -1 by simp [steepest, HF.out])
      go_wp2_with fail
      (with_reducible refine (floorSteepest_any _ f _ _ (d0.ints.mono (by omega)) hn).mono ?_)
      rintro e w2 ⟨rfl, hb2⟩
      have sz2 := hb2.size
      replace d0 := d0.below (hb2.mono (by omega))
      replace T := bt T hb2
      go_wp2_with fail
      (with_reducible refine (specFloorSteepest_any _ f _ _ (d0.ints.mono (by omega)) hn).mono ?_)
      rintro e w3 ⟨rfl, hb3⟩
      have sz3 := hb3.size
      replace d0 := d0.below (hb3.mono (by omega))
      replace T := bt T hb3
      rw [HN.out]
      go_wp2
      go_ret
      exact ⟨rfl, T⟩
end Go.Proofs.Ytoelajocacpmgaa
