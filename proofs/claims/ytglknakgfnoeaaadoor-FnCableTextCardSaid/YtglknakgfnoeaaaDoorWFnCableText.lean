/-
  WALK: the law FnCableText.
-/
import Derived.Test.YtglknakgfnoeaaaDoorTextL
import Derived.Test.YtglknakgfnoeaaaDoorDrawText
import Derived.Test.YtglknakgfnoeaaaDoorCount
import Derived.Test.YtglknakgfnoeaaaDoorText
import Derived.Deep.RegionHeld3
namespace Go.Proofs.YtglknakgfnoeaaaDoor
set_option linter.unusedVariables false
set_option linter.unusedSimpArgs false
open Go.RowKit

set_option maxRecDepth 100000 in
set_option maxHeartbeats 4000000 in
theorem walk_FnCableText (w0 : World) (A0 : Option Addr) (len0 cap0 : Nat) (bs0 : List Int) (i0 : IsList .u8 w0 A0 len0 cap0 bs0) (A1 : Option Addr) (len1 cap1 : Nat) (bs1 : List Int) (i1 : IsList .u8 w0 A1 len1 cap1 bs1) :
    Calls Tryd.prog 3 #[.slice A0 len0 cap0, .slice A1 len1 cap1] w0 fun e w' => e = .returned (.bool true) ∧ Below w0.heap.size w0 w' := by
  have hB0 := hide (IsList.byts i0)
  obtain ⟨rfl, hbc0, hbm0, -⟩ := i0
  unfold maxLen at hbm0
  have hB1 := hide (IsList.byts i1)
  obtain ⟨rfl, hbc1, hbm1, -⟩ := i1
  unfold maxLen at hbm1
  by_cases big0 : (1048576 : Int) < (bs0.length : Int)
  · go_enter Tryd.func3, Tryd.ntmps3
    go_wp2
    go_ret
    exact ⟨rfl, Below.refl _ _⟩
  · skip
    by_cases big1 : (1048576 : Int) < (bs1.length : Int)
    · go_enter Tryd.func3, Tryd.ntmps3
      go_wp2
      go_ret
      exact ⟨rfl, Below.refl _ _⟩
    · skip
      have T := Below.refl w0.heap.size w0
      go_enter Tryd.func3, Tryd.ntmps3
      go_wp2_with fail
      (with_reducible refine (drawCableText_any A0 bs0 cap0 w0 hB0.out hbc0 hbm0).mono ?_)
      rintro e w1 ⟨D0, cD0, f, n, rfl, hlf, hcD0, hdD0, hn11, d0, hb1⟩
      have sz1 := hb1.size
      replace T := bt T hb1
      have hn : n ≤ 1048576 := by omega
      by_cases hf : cableOk f n = true
      · have HF := hide hf
        obtain ⟨n1, n2⟩ := (cableOk_iff.1 hf).1
        have hlen := txtL_len hf n (Nat.le_refl n)
        have hpos := txt_pos hf
        obtain ⟨t1, t2, t3, t4⟩ := txt_count hf n (Nat.le_refl n)
        have HT := hide (show cableTxt f n = ba (txtL f n) by simp [cableTxt, hf])
        have hne : (ba (txtL f n)).toList.isEmpty = false := by
          have e : (ba (txtL f n)).toList = txtL f n := ByteArray.toList_mk _
          rw [e]
          cases h : txtL f n with
          | nil => rw [h] at hpos; simp at hpos
          | cons => rfl
        have HCUT := hide (fun (k : Nat) (h1 : 1 ≤ k) (h2 : k < n) => txt_cut hf h1 h2)
        have HOA := hide (fun (k : Nat) (h1 : 1 ≤ k) (h2 : k < n) => ok_take hf h1 (show k ≤ n by omega))
        have HOB := hide (fun (k : Nat) (h2 : k < n) => ok_drop hf h2)
        have C1 := hide (show (((txtL f n).count 43 : Nat) : Int) = (n : Int) - 1 by omega)
        have C2 := hide (show (((txtL f n).count 109 : Nat) : Int) = (n : Int) by omega)
        have C3 := hide (show (((txtL f n).count 107 : Nat) : Int) = (n : Int) by omega)
        have C4 := hide (show (((txtL f n).count 111 : Nat) : Int) = (n : Int) by omega)
        have hl1000 : (txtL f n).length ≤ 1000 := by omega
        clear hf t1 t2 t3 t4 hpos
        go_wp2_with fail
        (with_reducible refine (cableText_any _ f n _ _ hlf (d0.ints.mono (by omega)) hn).mono ?_)
        rintro e w2 ⟨rfl, hb2⟩
        have sz2 := hb2.size
        replace d0 := d0.below (hb2.mono (by omega))
        replace T := bt T hb2
        rw [HT.out]
        go_wp2_with fail
        (with_reducible refine (specCableText_any _ f n _ _ hlf (d0.ints.mono (by omega)) hn).mono ?_)
        rintro e w3 ⟨rfl, hb3⟩
        have sz3 := hb3.size
        replace d0 := d0.below (hb3.mono (by omega))
        replace T := bt T hb3
        rw [HT.out]
        go_wp2_with fail
        (with_reducible refine (countOf_any (txtL f n) 43 43 rfl hl1000 _).mono ?_)
        rintro e w' ⟨rfl, rfl⟩
        rw [C1.out]
        go_wp2_with fail
        (with_reducible refine (countOf_any (txtL f n) 109 109 rfl hl1000 _).mono ?_)
        rintro e w' ⟨rfl, rfl⟩
        rw [C2.out]
        go_wp2_with fail
        (with_reducible refine (countOf_any (txtL f n) 107 107 rfl hl1000 _).mono ?_)
        rintro e w' ⟨rfl, rfl⟩
        rw [C3.out]
        go_wp2_with fail
        (with_reducible refine (countOf_any (txtL f n) 111 111 rfl hl1000 _).mono ?_)
        rintro e w' ⟨rfl, rfl⟩
        rw [C4.out]
        by_cases hn1 : n = 1
        · have k1 : ((n : Int) == 1) = true := by rw [hn1]; rfl
          clear hn1
          go_wp2
          go_ret
          exact ⟨rfl, T⟩
        · have k1 : ((n : Int) == 1) = false := beq_eq_false_iff_ne.2 (by omega)
          have hn2 : 2 ≤ n := by omega
          clear hn1
          obtain ⟨kk, hkk⟩ : ∃ kk : Nat, kk = 1 + bs1.length % (n - 1) := ⟨_, rfl⟩
          have hkb : kk < n := by have := Nat.mod_lt bs1.length (show 0 < n - 1 by omega); omega
          have hk1 : 1 ≤ kk := by omega
          have hki : (1 : Int) + (bs1.length : Int) % ((n : Int) - 1) = (kk : Int) := by
            rw [hkk, show (n : Int) - 1 = ((n - 1 : Nat) : Int) by omega, ← Int.natCast_emod]
            omega
          have hx0 : 0 ≤ (bs1.length : Int) % ((n : Int) - 1) := by omega
          have hx1 : (bs1.length : Int) % ((n : Int) - 1) ≤ 100 := by omega
          have HKI := hide hki
          clear hki hkk
          obtain ⟨b, off, rfl, hba, hbb, hcc⟩ := d0 (by omega)
          have IA : ∀ W, Below w3.heap.size w3 W → Ints W W.heap.size (some ⟨b, off, none⟩) (f.take (kk * 3)) := fun W hW _ => ⟨b, off, rfl, by have := hW.size; omega, fun j hj => by
            have hj' : j < kk * 3 ∧ j < f.length := by simp at hj; omega
            rw [at0_take hj'.1]
            exact (hW.cell (p := ⟨b, off + j, none⟩) (by show b < _; omega)).trans (hcc j hj'.2).1⟩
          have IB : ∀ W, Below w3.heap.size w3 W → Ints W W.heap.size (some ⟨b, off + kk * 3, none⟩) (f.drop (kk * 3)) := fun W hW _ => ⟨b, off + kk * 3, rfl, by have := hW.size; omega, fun j hj => by
            have hj' : kk * 3 + j < f.length := by simp at hj; omega
            rw [at0_drop, Nat.add_assoc]
            exact (hW.cell (p := ⟨b, off + (kk * 3 + j), none⟩) (by show b < _; omega)).trans (hcc _ hj').1⟩
          obtain ⟨TA, hTA⟩ : ∃ t, t = cableTxt (f.take (kk * 3)) kk := ⟨_, rfl⟩
          obtain ⟨TB, hTB⟩ : ∃ t, t = cableTxt (f.drop (kk * 3)) (n - kk) := ⟨_, rfl⟩
          have hcat : TA ++ ⟨#[43]⟩ ++ TB = ba (txtL f n) := by rw [hTA, hTB, ← HT.out]; exact HCUT.out kk hk1 hkb
          have sA : TA.size ≤ 100 := by
            rw [hTA]; simp only [cableTxt, HOA.out kk hk1 hkb, if_true, ba_size]
            have := txtL_len (HOA.out kk hk1 hkb) kk (Nat.le_refl _); omega
          have sB : TB.size ≤ 100 := by
            rw [hTB]; simp only [cableTxt, HOB.out kk hkb, if_true, ba_size]
            have := txtL_len (HOB.out kk hkb) (n - kk) (Nat.le_refl _); omega
          have HA := hide (fun (W : World) (hW : Below w3.heap.size w3 W) => (cableText_any (some ⟨b, off, none⟩) (f.take (kk * 3)) kk cD0 W (by rw [List.length_take]; omega) (IA W hW) (by omega)).mono (R' := fun e w' => e = .returned (.string TA) ∧ Below w3.heap.size w3 w') (by rintro e w' ⟨rfl, hb2⟩; exact ⟨by rw [hTA], bt hW hb2⟩))
          have HB := hide (fun (W : World) (hW : Below w3.heap.size w3 W) => (cableText_any (some ⟨b, off + kk * 3, none⟩) (f.drop (kk * 3)) (n - kk) (cD0 - kk) W (by rw [List.length_drop]; omega) (IB W hW) (by omega)).mono (R' := fun e w' => e = .returned (.string TB) ∧ Below w3.heap.size w3 w') (by rintro e w' ⟨rfl, hb2⟩; exact ⟨by rw [hTB], bt hW hb2⟩))
          have z1 : ¬ 9223372036854775807 < TA.size + 1 := by omega
          have z2 : ¬ 9223372036854775807 < TA.size + 1 + TB.size := by omega
          have hq0 := Below.refl w3.heap.size w3
          have hqd := (Below.refl w3.heap.size w3).drew
          have HTT := hide T
          have y1 : (kk : Int) ≤ (cD0 : Int) := by omega
          have y2 : (kk : Int) ≤ (n : Int) := by omega
          have y3 : (0 : Int) ≤ (kk : Int) := by omega
          have y4 : kk ≤ cD0 := by omega
          have y5 : kk ≤ n := by omega
          clear IA IB hTA hTB hcc T
          go_wp2_with fail
          rw [HKI.out]
          go_region_held3 (fun w' => Below w3.heap.size w3 w') (assumption)
            ((go_at_call 5; (first | (with_reducible refine (HA.out _ (by assumption)).mono ?_) | (with_reducible refine (HB.out _ (by assumption)).mono ?_)); rintro e w9 ⟨rfl, hb9⟩))
          all_goals go_wp2
          all_goals go_ret
          all_goals exact ⟨rfl, HTT.out.trans ((show Below w3.heap.size w3 _ by assumption).mono HTT.out.size)⟩
      · have hf' : cableOk f n = false := by simpa using hf
        have HT := hide (show cableTxt f n = ⟨#[]⟩ by simp [cableTxt, hf', ba])
        clear hf hf'
        go_wp2_with fail
        (with_reducible refine (cableText_any _ f n _ _ hlf (d0.ints.mono (by omega)) hn).mono ?_)
        rintro e w2 ⟨rfl, hb2⟩
        have sz2 := hb2.size
        replace d0 := d0.below (hb2.mono (by omega))
        replace T := bt T hb2
        rw [HT.out]
        go_wp2_with fail
        (with_reducible refine (specCableText_any _ f n _ _ hlf (d0.ints.mono (by omega)) hn).mono ?_)
        rintro e w3 ⟨rfl, hb3⟩
        have sz3 := hb3.size
        replace d0 := d0.below (hb3.mono (by omega))
        replace T := bt T hb3
        rw [HT.out]
        go_wp2
        go_ret
        exact ⟨rfl, T⟩
end Go.Proofs.YtglknakgfnoeaaaDoor
