/-
  WALK: the law FnCarry.
-/
import Derived.Test.YtoelajocacpmgaaLawCarryP
import Derived.Test.YtoelajocacpmgaaDrawAboard
namespace Go.Proofs.Ytoelajocacpmgaa
set_option linter.unusedVariables false
set_option linter.unusedSimpArgs false
open Go.RowKit

set_option maxRecDepth 100000 in
set_option maxHeartbeats 4000000 in
theorem walk_FnCarry (w0 : World) (A0 : Option Addr) (len0 cap0 : Nat) (bs0 : List Int) (i0 : IsList .u8 w0 A0 len0 cap0 bs0) :
    Calls Try.prog 13 #[.slice A0 len0 cap0] w0 fun e w' => e = .returned (.bool true) ∧ Below w0.heap.size w0 w' := by
  have hB0 := hide (IsList.byts i0)
  obtain ⟨rfl, hbc0, hbm0, -⟩ := i0
  unfold maxLen at hbm0
  by_cases big0 : (1048576 : Int) < (bs0.length : Int)
  · go_enter Try.func13, Try.ntmps13
    go_wp2
    go_ret
    exact ⟨rfl, Below.refl _ _⟩
  · skip
    have T := Below.refl w0.heap.size w0
    go_enter Try.func13, Try.ntmps13
    go_wp2_with fail
    (with_reducible refine (drawPayCarry_any A0 bs0 cap0 w0 hB0.out hbc0 hbm0).mono ?_)
    rintro e w1 ⟨D0, cD0, f, a, rfl, ⟨hcD0, hdD0⟩, hbd, d0, ⟨ha0, ha1⟩, hb1⟩
    have sz1 := hb1.size
    replace T := bt T hb1
    have hfl : f.length ≤ 17 := hbd.1
    have hn : f.length ≤ 1048576 := by omega
    have HBD := hide hbd
    clear hbd
    have hcl : (carry f a).length ≤ 17 := by have := carry_le f a; omega
    by_cases hf : carryOk f a = true
    · have HF := hide hf
      obtain ⟨g1, g2⟩ := carryOk_iff.1 hf
      obtain ⟨a0, a1⟩ := inB_iff.1 g2
      have hl2 := floorOk_len g1
      obtain ⟨r, hr, k1, k2, k3, -⟩ := carry_law hf
      have hcn := carry_len hf
      obtain ⟨hd, -, -, hpv⟩ := payOk_deep (carry_pay hf)
      have HPV := hide hpv
      have HPO := hide (carry_pay hf)
      have HSL := hide (carry_slack hf)
      have HHL := hide (show (hangs f (carry f a)).length = f.length - 1 - r by rw [k3, upto_length])
      have HHA := hide (fun (i : Nat) (hi : i < f.length - 1 - r) => show at0 (hangs f (carry f a)) i = ((r + i : Nat) : Int) by rw [k3]; exact at0_upto _ hi)
      have HCZ := hide (fun (j : Nat) (h1 : r < j) (h2 : j < f.length - 1) => carry_zero hf (r := r) (by omega) (k2 (by omega)) h1 h2)
      have HCN := hide hcn
      have hcle : f.length ≤ (carry f a).length + 1 := by omega
      have hhl : (hangs f (carry f a)).length ≤ 17 := by rw [k3, upto_length]; omega
      have hct := carry_total hf
      have hle := floorLen_le g1 (a := 0) (b := f.length - 1) (by omega) (by omega)
      rw [show ((0 : Nat) : Int) = 0 from rfl, show ((f.length - 1 : Nat) : Int) = (f.length : Int) - 1 by omega] at hle
      have l1 : floorLen f 0 ((f.length : Int) - 1) ≤ 1000 := by omega
      have l2 : 0 ≤ floorLen f 0 ((f.length : Int) - 1) := by omega
      have HCT := hide hct
      clear hct hle k1 k2 k3 hcn hpv g1 g2 hf hd
      go_wp2_with fail
      (with_reducible refine (payCarry_any _ f _ a _ (d0.ints.mono (by omega)) hn).mono ?_)
      rintro e w2 ⟨Bg, cg, rfl, hcg, hdg, g, hb2⟩
      have sz2 := hb2.size
      replace d0 := d0.below (hb2.mono (by omega))
      replace T := bt T hb2
      rw [HF.out]
      go_wp2_with fail
      (with_reducible refine (specPayCarry_any _ f _ a _ (d0.ints.mono (by omega)) hn).mono ?_)
      rintro e w3 ⟨Bh, ch, rfl, hch, hdh, h, hb3⟩
      have sz3 := hb3.size
      replace d0 := d0.below (hb3.mono (by omega))
      replace g := g.below (hb3.mono (by omega))
      replace T := bt T hb3
      rw [HF.out]
      go_wp2_with fail
      (with_reducible refine (sameInts_same _ _ (carry f a) _ _ _ (g.ints.mono (by omega)) (h.ints.mono (by omega)) (by omega)).mono ?_)
      rintro e w4 ⟨rfl, hb4⟩
      have sz4 := hb4.size
      replace d0 := d0.below (hb4.mono (by omega))
      replace g := g.below (hb4.mono (by omega))
      replace h := h.below (hb4.mono (by omega))
      replace T := bt T hb4
      go_wp2_with fail
      (with_reducible refine (payHangs_any _ _ f (carry f a) _ _ _ (d0.ints.mono (by omega)) (g.ints.mono (by omega)) hn (by omega)).mono ?_)
      rintro e w5 ⟨Bk, ck, rfl, hck, hdk, k, hb5⟩
      have sz5 := hb5.size
      replace d0 := d0.below (hb5.mono (by omega))
      replace g := g.below (hb5.mono (by omega))
      replace h := h.below (hb5.mono (by omega))
      replace T := bt T hb5
      go_wp2_with fail
      go_loopw [10] (fun i wr => ∃ j : Nat, 1 ≤ j ∧ i = .int .i64 (j : Int) ∧ Hid (Below w5.heap.size w5 wr)) (fun i _ => (hangs f (carry f a)).length - (intOf i).toNat)
      case atStart => exact ⟨1, Nat.le_refl _, rfl, Below.refl _ _⟩
      case round =>
        obtain ⟨j, hj, rfl, hbel⟩ := hrel
        by_cases hlt : j < (hangs f (carry f a)).length
        · have hHL := HHL.out
          have hCN := HCN.out
          have q1 := HHA.out j (by omega)
          have q2 := HHA.out (j - 1) (by omega)
          have q3 := HCZ.out (r + j) (by omega) (by omega)
          obtain ⟨m, hm⟩ : ∃ m, m = r + j := ⟨_, rfl⟩
          obtain ⟨m', hm'⟩ : ∃ m', m' = r + (j - 1) := ⟨_, rfl⟩
          rw [← hm] at q1 q3
          rw [← hm'] at q2
          have hmc : m < (carry f a).length := by omega
          have hmm : (m : Int) = (m' : Int) + 1 := by omega
          obtain ⟨b, off, rfl, hb1, hb2', hc⟩ := k (by omega)
          obtain ⟨b', off', rfl, hb1', hb2'', hc'⟩ := g (by omega)
          have p1 := (hbel.out.cell (p := ⟨b, off + j, none⟩) (by show b < _; omega)).trans (hc j hlt).1
          have p2 := (hbel.out.cell (p := ⟨b, off + (j - 1), none⟩) (by show b < _; omega)).trans (hc (j - 1) (by omega)).1
          have p3 := (hbel.out.cell (p := ⟨b', off' + m, none⟩) (by show b' < _; omega)).trans (hc' m hmc).1
          rw [q1] at p1
          rw [q2] at p2
          rw [q3] at p3
          have e1 : (j : Int) < ((hangs f (carry f a)).length : Int) := by omega
          have e2 : (0 : Int) ≤ (j : Int) := by omega
          have e3 : (m : Int) < ((carry f a).length : Int) := by omega
          have e4 : (0 : Int) ≤ (m : Int) := by omega
          have e5 : (0 : Int) ≤ (j : Int) - 1 := by omega
          have e5' : (1 : Int) ≤ (j : Int) := by omega
          have e6 : (j : Int) - 1 < ((hangs f (carry f a)).length : Int) := by omega
          have e7 : ((j : Int) - 1).toNat = j - 1 := by omega
          have e8 : (j : Int) ≤ ((hangs f (carry f a)).length : Int) := by omega
          have n1 : ((m : Int) != (m' : Int) + 1) = false := by rw [hmm]; simp
          have s1 : IntKind.i64.wrap ((j : Int) - 1) = (j : Int) - 1 := IntWalk.i64_in _ ⟨by omega, by omega⟩
          have s2 : IntKind.i64.wrap ((m' : Int) + 1) = (m' : Int) + 1 := IntWalk.i64_in _ ⟨by omega, by omega⟩
          have HBE := hide hbel.out
          clear hc hc' q1 q2 q3 hm hm' hmm hHL hCN
          go_wp2_with fail
          go_quiet (fail)
          clear s1 s2
          go_wp2
          go_roundw
          case rel => exact ⟨j + 1, by omega, by go_num, by show Below _ _ _; first | exact HBE.out.drew | exact below_drewN HBE.out _⟩
          case measure => simp [intOf]; omega
        · have hlt' : ¬ (j : Int) < ((hangs f (carry f a)).length : Int) := by omega
          have hb6 := hbel.out
          have sz6 := hb6.size
          replace d0 := d0.below (hb6.mono (by omega))
          replace g := g.below (hb6.mono (by omega))
          replace h := h.below (hb6.mono (by omega))
          replace k := k.below (hb6.mono (by omega))
          replace T := bt T hb6
          go_wp2_with fail
          (with_reducible refine (sumOf_any _ (carry f a) _ _ (g.ints.mono (by omega)) (by omega) (fun k hk => by have := HPV.out k hk; omega)).mono ?_)
          rintro e w' ⟨rfl, rfl⟩
          go_wp2_with fail
          (with_reducible refine (floorLength_any _ f _ 0 ((f.length : Int) - 1) _ (d0.ints.mono (by omega)) hn hcD0 hdD0).mono ?_)
          rintro e w7 ⟨rfl, hb7⟩
          have sz7 := hb7.size
          replace d0 := d0.below (hb7.mono (by omega))
          replace g := g.below (hb7.mono (by omega))
          replace h := h.below (hb7.mono (by omega))
          replace k := k.below (hb7.mono (by omega))
          replace T := bt T hb7
          have hct := HCT.out
          rcases Int.lt_trichotomy a (floorLen f 0 ((f.length : Int) - 1)) with hc | hc | hc
          · rw [if_pos (by omega)] at hct
            have hb : (sumN (at0 (carry f a)) (carry f a).length == a) = true := by rw [hct]; simp
            clear hct
            go_wp2_with fail
            (with_reducible refine (paySlack_any _ _ f (carry f a) _ _ _ (d0.ints.mono (by omega)) (g.ints.mono (by omega)) hn (by omega)).mono ?_)
            rintro e w8 ⟨rfl, hb8⟩
            have sz8 := hb8.size
            replace d0 := d0.below (hb8.mono (by omega))
            replace g := g.below (hb8.mono (by omega))
            replace h := h.below (hb8.mono (by omega))
            replace k := k.below (hb8.mono (by omega))
            replace T := bt T hb8
            rw [HSL.out]
            go_wp2_with fail
            (with_reducible refine (payValid_any _ _ f (carry f a) _ _ _ (d0.ints.mono (by omega)) (g.ints.mono (by omega)) hn (by omega)).mono ?_)
            rintro e w9 ⟨rfl, hb9⟩
            have sz9 := hb9.size
            replace d0 := d0.below (hb9.mono (by omega))
            replace g := g.below (hb9.mono (by omega))
            replace h := h.below (hb9.mono (by omega))
            replace k := k.below (hb9.mono (by omega))
            replace T := bt T hb9
            rw [HPO.out]
            go_wp2
            go_ret
            exact ⟨rfl, T⟩
          · rw [if_pos (by omega)] at hct
            have hb : (sumN (at0 (carry f a)) (carry f a).length == a) = true := by rw [hct]; simp
            have hb2 : (sumN (at0 (carry f a)) (carry f a).length == floorLen f 0 ((f.length : Int) - 1)) = true := by rw [hct, hc]; simp
            have hc1 : a ≤ floorLen f 0 ((f.length : Int) - 1) := by omega
            have hc2 : floorLen f 0 ((f.length : Int) - 1) ≤ a := by omega
            clear hct hc
            go_wp2_with fail
            (with_reducible refine (paySlack_any _ _ f (carry f a) _ _ _ (d0.ints.mono (by omega)) (g.ints.mono (by omega)) hn (by omega)).mono ?_)
            rintro e w8 ⟨rfl, hb8⟩
            have sz8 := hb8.size
            replace d0 := d0.below (hb8.mono (by omega))
            replace g := g.below (hb8.mono (by omega))
            replace h := h.below (hb8.mono (by omega))
            replace k := k.below (hb8.mono (by omega))
            replace T := bt T hb8
            rw [HSL.out]
            go_wp2_with fail
            (with_reducible refine (payValid_any _ _ f (carry f a) _ _ _ (d0.ints.mono (by omega)) (g.ints.mono (by omega)) hn (by omega)).mono ?_)
            rintro e w9 ⟨rfl, hb9⟩
            have sz9 := hb9.size
            replace d0 := d0.below (hb9.mono (by omega))
            replace g := g.below (hb9.mono (by omega))
            replace h := h.below (hb9.mono (by omega))
            replace k := k.below (hb9.mono (by omega))
            replace T := bt T hb9
            rw [HPO.out]
            go_wp2
            go_ret
            exact ⟨rfl, T⟩
          · rw [if_neg (by omega)] at hct
            have hb : (sumN (at0 (carry f a)) (carry f a).length == floorLen f 0 ((f.length : Int) - 1)) = true := by rw [hct]; simp
            clear hct
            go_wp2_with fail
            (with_reducible refine (paySlack_any _ _ f (carry f a) _ _ _ (d0.ints.mono (by omega)) (g.ints.mono (by omega)) hn (by omega)).mono ?_)
            rintro e w8 ⟨rfl, hb8⟩
            have sz8 := hb8.size
            replace d0 := d0.below (hb8.mono (by omega))
            replace g := g.below (hb8.mono (by omega))
            replace h := h.below (hb8.mono (by omega))
            replace k := k.below (hb8.mono (by omega))
            replace T := bt T hb8
            rw [HSL.out]
            go_wp2_with fail
            (with_reducible refine (payValid_any _ _ f (carry f a) _ _ _ (d0.ints.mono (by omega)) (g.ints.mono (by omega)) hn (by omega)).mono ?_)
            rintro e w9 ⟨rfl, hb9⟩
            have sz9 := hb9.size
            replace d0 := d0.below (hb9.mono (by omega))
            replace g := g.below (hb9.mono (by omega))
            replace h := h.below (hb9.mono (by omega))
            replace k := k.below (hb9.mono (by omega))
            replace T := bt T hb9
            rw [HPO.out]
            go_wp2
            go_ret
            exact ⟨rfl, T⟩
    · have hf' : carryOk f a = false := by simpa using hf
      have HF := hide hf'
      clear hf hf'
      go_wp2_with fail
      (with_reducible refine (payCarry_any _ f _ a _ (d0.ints.mono (by omega)) hn).mono ?_)
      rintro e w2 ⟨Bg, cg, rfl, hcg, hdg, g, hb2⟩
      have sz2 := hb2.size
      replace d0 := d0.below (hb2.mono (by omega))
      replace T := bt T hb2
      rw [HF.out]
      go_wp2_with fail
      (with_reducible refine (specPayCarry_any _ f _ a _ (d0.ints.mono (by omega)) hn).mono ?_)
      rintro e w3 ⟨Bh, ch, rfl, hch, hdh, h, hb3⟩
      have sz3 := hb3.size
      replace d0 := d0.below (hb3.mono (by omega))
      replace g := g.below (hb3.mono (by omega))
      replace T := bt T hb3
      rw [HF.out]
      go_wp2_with fail
      (with_reducible refine (sameInts_same _ _ (carry f a) _ _ _ (g.ints.mono (by omega)) (h.ints.mono (by omega)) (by omega)).mono ?_)
      rintro e w4 ⟨rfl, hb4⟩
      have sz4 := hb4.size
      replace d0 := d0.below (hb4.mono (by omega))
      replace g := g.below (hb4.mono (by omega))
      replace h := h.below (hb4.mono (by omega))
      replace T := bt T hb4
      go_wp2_with fail
      (with_reducible refine (sameInts_same _ _ (carry f a) _ _ _ (g.ints.mono (by omega)) (h.ints.mono (by omega)) (by omega)).mono ?_)
      rintro e w5 ⟨rfl, hb5⟩
      have sz5 := hb5.size
      replace d0 := d0.below (hb5.mono (by omega))
      replace g := g.below (hb5.mono (by omega))
      replace h := h.below (hb5.mono (by omega))
      replace T := bt T hb5
      go_wp2
      go_ret
      exact ⟨rfl, T⟩
end Go.Proofs.Ytoelajocacpmgaa
