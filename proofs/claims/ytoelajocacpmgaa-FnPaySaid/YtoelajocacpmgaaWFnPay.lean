/-
  WALK: the law FnPay.
-/
import Derived.Test.YtoelajocacpmgaaLawSlackP
import Derived.Test.YtoelajocacpmgaaDrawPay
import Derived.Test.YtoelajocacpmgaaAppend
namespace Go.Proofs.Ytoelajocacpmgaa
set_option linter.unusedVariables false
set_option linter.unusedSimpArgs false
open Go.RowKit

set_option maxRecDepth 100000 in
set_option maxHeartbeats 4000000 in
theorem walk_FnPay (w0 : World) (A0 : Option Addr) (len0 cap0 : Nat) (bs0 : List Int) (i0 : IsList .u8 w0 A0 len0 cap0 bs0) (A1 : Option Addr) (len1 cap1 : Nat) (bs1 : List Int) (i1 : IsList .u8 w0 A1 len1 cap1 bs1) :
    Calls Try.prog 12 #[.slice A0 len0 cap0, .slice A1 len1 cap1] w0 fun e w' => e = .returned (.bool true) ∧ Below w0.heap.size w0 w' := by
  have hB0 := hide (IsList.byts i0)
  obtain ⟨rfl, hbc0, hbm0, -⟩ := i0
  unfold maxLen at hbm0
  have hB1 := hide (IsList.byts i1)
  obtain ⟨rfl, hbc1, hbm1, -⟩ := i1
  unfold maxLen at hbm1
  by_cases big0 : (1048576 : Int) < (bs0.length : Int)
  · go_enter Try.func12, Try.ntmps12
    go_wp2
    go_ret
    exact ⟨rfl, Below.refl _ _⟩
  · skip
    by_cases big1 : (1048576 : Int) < (bs1.length : Int)
    · go_enter Try.func12, Try.ntmps12
      go_wp2
      go_ret
      exact ⟨rfl, Below.refl _ _⟩
    · skip
      have T := Below.refl w0.heap.size w0
      go_enter Try.func12, Try.ntmps12
      go_wp2_with fail
      (with_reducible refine (drawPayValid_any A0 bs0 cap0 w0 hB0.out hbc0 hbm0).mono ?_)
      rintro e w1 ⟨D0, cD0, f, P0, cP0, p, rfl, ⟨hcD0, hdD0⟩, ⟨hcP0, hdP0⟩, hbf, hbp, d0, p0, hb1⟩
      have sz1 := hb1.size
      replace T := bt T hb1
      have hfl : f.length ≤ 17 := hbf.1
      have hn : f.length ≤ 1048576 := by omega
      have hpl : p.length ≤ 16 := hbp.1
      have hnp : p.length ≤ 1048576 := by omega
      have HBF := hide hbf
      have HBP := hide hbp
      have HPV := hide hbp.2
      clear hbf hbp
      obtain ⟨i0, hi, hz0, hz1, hz2⟩ := info_parts infoInt
      by_cases hf : payOk f p = true
      · have HF := hide hf
        obtain ⟨-, hf2, hpf, hpv⟩ := payOk_deep hf
        have hfo := (payOk_iff.1 hf).1
        have HFO := hide hfo
        have hp1 : 0 < p.length := by omega
        obtain ⟨kk, hkk⟩ : ∃ kk : Nat, kk = bs1.length % p.length := ⟨_, rfl⟩
        have hkb : kk < p.length := by rw [hkk]; exact Nat.mod_lt _ hp1
        have HK := hide (show (bs1.length : Int) % (p.length : Int) = (kk : Int) by rw [hkk, ← Int.natCast_emod])
        obtain ⟨X, hX⟩ : ∃ X, X = p.set kk (at0 p kk + 1) := ⟨_, rfl⟩
        have hXl : X.length = p.length := by rw [hX, List.length_set]
        obtain ⟨y1, y2⟩ := hpv kk hkb
        have hXk : at0 X kk = at0 p kk + 1 := by rw [hX, at0_more hkb, if_pos rfl]
        have HSM := hide (fun hle : at0 p kk + 1 ≤ 60 => show slack f X - slack f p = 0 ∨ slack f X - slack f p = 1 by rw [hX]; exact slack_more hf hkb hle)
        have HHM := hide (fun (n : Int) (hn : n ∈ hangs f X) => show hasI (hangs f p) n = true from hangs_more hf hkb (by rw [← hX]; exact hn))
        obtain ⟨x1, x2⟩ := slack_ge hf
        have x3 : -1 ≤ slack f X ∧ slack f X ≤ 1000 := by
          cases e : payOk f X
          · simp [slack, e]
          · have := slack_ge e; omega
        obtain ⟨x4, x5⟩ := x3
        obtain ⟨pr, hpr⟩ : ∃ pr, pr = p.reverse := ⟨_, rfl⟩
        have hprl : pr.length ≤ 16 := by rw [hpr, List.length_reverse]; exact hpl
        have hbl : (back f).length ≤ 17 := by have := back_le f; omega
        have HPB := hide (show payOk (back f) pr = true by rw [hpr, back_eq hfo, payOk_rev]; exact hf)
        have HPR := hide hpr
        have hhp : (hangs f p).length ≤ 16 := by have := hangs_le f p; omega
        have hhX : (hangs f X).length ≤ 16 := by have := hangs_le f X; omega
        have HXL := hide hXl
        have HX := hide hX
        have HXK := hide hXk
        have hXle : X.length ≤ 16 := by omega
        have hkX : kk < X.length := by omega
        clear hpr hX hXl hf hfo hkk hpv hXk
        go_wp2_with fail
        (with_reducible refine (payValid_any _ _ f p _ _ _ (d0.ints.mono (by omega)) (p0.ints.mono (by omega)) hn hnp).mono ?_)
        rintro e w2 ⟨rfl, hb2⟩
        have sz2 := hb2.size
        replace d0 := d0.below (hb2.mono (by omega))
        replace p0 := p0.below (hb2.mono (by omega))
        replace T := bt T hb2
        rw [HF.out]
        go_wp2_with fail
        (with_reducible refine (specPayValid_any _ _ f p _ _ _ (d0.ints.mono (by omega)) (p0.ints.mono (by omega)) hn hnp).mono ?_)
        rintro e w' ⟨rfl, rfl⟩
        rw [HF.out]
        obtain ⟨v', wA, hr, g2, g3⟩ := run_append_flat (P := Try.prog) (w2.alloc (.cells #[] 3)) w2.heap.size 23 23 3 i0 (.int .i64 0) 1 8 Try.underlying23 hi hz0 hz1 hz2 rfl (by decide) _ 0 [] (own_empty w2 3 1) w2.heap.size P0 p.length cP0 p (by simp) ((p0.ints.below ((Below.refl _ _).alloc (by omega) _)).mono (by omega)) (by unfold maxLen; omega) (by omega) (by simp)
        have hbA : Below w2.heap.size w2 wA := ((Below.refl w2.heap.size w2).alloc (Nat.le_refl _) (.cells #[] 3)).trans (append_own_below (base := w2.heap.size) (own_empty w2 3 1) g3 (by simp))
        have hown : wA.ownsRow w2.heap.size 3 1 v' X.length (p.map (Value.int .i64)) := by rw [HXL.out]; simpa using g2
        obtain ⟨A2, c2, rfl, hc1, hc2⟩ := own_form hown
        obtain ⟨g, c2', hv, hgl, hgw⟩ := hown.form (by omega)
        obtain rfl : A2 = some ⟨g, 0, none⟩ := by injection hv
        unfold maxLen at hc2
        have hc0 := hown.cellAt kk (by omega)
        have hf0 := hown.frozenAt kk
        have e0 : (p.map (Value.int .i64))[kk]? = some (.int .i64 (at0 p kk)) := by simp [at0, hkb]
        rw [e0] at hc0
        obtain ⟨s1, s2⟩ := hown.stored kk (.int .i64 (at0 p kk + 1))
        rw [← List.map_set, ← HX.out] at s1
        have hfx := Fresh.of_own (xs := X) s1
        have hbS := hbA.grown s2 hbA.size (fun g' e => by injection e with e; omega)
        have HR := hide (show (Builtin.append_ #[23, 23] 23  #[.slice (some ⟨w2.heap.size, 0, none⟩) 0 0, .slice P0 p.length cP0]).run Try.prog (w2.alloc (.cells #[] 3)) = .ok (.slice (some ⟨g, 0, none⟩) X.length c2) wA from hr)
        have e1 : (kk : Int) < (X.length : Int) := by omega
        have e2 : (0 : Int) ≤ (kk : Int) := by omega
        have e3 : (0 : Int) < (p.length : Int) := by omega
        clear hr g2 g3 hown hv e0 s1 s2
        go_wp2_with (at_builtin; rw [HK.out]; refine Lib.wpList_append_run _ rfl _ _ _ _ rfl _ _ rfl rfl _ _ HR.out ?_)
        have hb3 := hbS
        have x0 := hfx
        generalize wA.setCell ⟨g, kk, none⟩ (.int .i64 (at0 p kk + 1)) = w3 at hb3 x0 ⊢
        clear hfx hbS hc0 hf0
        have sz3 := hb3.size
        replace d0 := d0.below (hb3.mono (by omega))
        replace p0 := p0.below (hb3.mono (by omega))
        replace T := bt T hb3
        (with_reducible refine (floorBack_any _ f _ _ (d0.ints.mono (by omega)) hn).mono ?_)
        rintro e w4 ⟨Bb, cb, rfl, hcb, hdb, b, hb4⟩
        have sz4 := hb4.size
        replace d0 := d0.below (hb4.mono (by omega))
        replace p0 := p0.below (hb4.mono (by omega))
        replace x0 := x0.below (hb4.mono (by omega))
        replace T := bt T hb4
        rw [HFO.out]
        go_wp2_with fail
        (with_reducible refine (payHangs_any _ _ f p _ _ _ (d0.ints.mono (by omega)) (p0.ints.mono (by omega)) hn hnp).mono ?_)
        rintro e w5 ⟨Bk, ck, rfl, hck, hdk, k, hb5⟩
        have sz5 := hb5.size
        replace d0 := d0.below (hb5.mono (by omega))
        replace p0 := p0.below (hb5.mono (by omega))
        replace x0 := x0.below (hb5.mono (by omega))
        replace b := b.below (hb5.mono (by omega))
        replace T := bt T hb5
        go_wp2_with fail
        (with_reducible refine (paySlack_any _ _ f X _ _ _ (d0.ints.mono (by omega)) (x0.ints.mono (by omega)) hn (by omega)).mono ?_)
        rintro e w6 ⟨rfl, hb6⟩
        have sz6 := hb6.size
        replace d0 := d0.below (hb6.mono (by omega))
        replace p0 := p0.below (hb6.mono (by omega))
        replace x0 := x0.below (hb6.mono (by omega))
        replace b := b.below (hb6.mono (by omega))
        replace k := k.below (hb6.mono (by omega))
        replace T := bt T hb6
        go_wp2_with fail
        (with_reducible refine (paySlack_any _ _ f p _ _ _ (d0.ints.mono (by omega)) (p0.ints.mono (by omega)) hn hnp).mono ?_)
        rintro e w7 ⟨rfl, hb7⟩
        have sz7 := hb7.size
        replace d0 := d0.below (hb7.mono (by omega))
        replace p0 := p0.below (hb7.mono (by omega))
        replace x0 := x0.below (hb7.mono (by omega))
        replace b := b.below (hb7.mono (by omega))
        replace k := k.below (hb7.mono (by omega))
        replace T := bt T hb7
        have hcx := (show w7.cell? ⟨g, 0 + kk, none⟩ = some (.int .i64 (at0 p kk + 1)) by
          obtain ⟨b', off', e, _, _, hc⟩ := x0 (by omega)
          injection e with e
          injection e with e1 e2 e3
          subst e1 e2
          rw [(hc kk hkX).1, HXK.out])
        rw [Nat.zero_add] at hcx
        by_cases hle : at0 p kk + 1 ≤ 60
        · have hdle : decide (at0 p kk + 1 ≤ 60) = true := by simpa using hle
          rcases HSM.out hle with hs | hs
          · have hn1 : (slack f X - slack f p != 0) = false := by rw [hs]; rfl
            clear hs
            go_wp2_with fail
            (with_reducible refine (payHangs_any _ _ f X _ _ _ (d0.ints.mono (by omega)) (x0.ints.mono (by omega)) hn (by omega)).mono ?_)
            rintro e w8 ⟨Bh, ch, rfl, hch, hdh, h, hb8⟩
            have sz8 := hb8.size
            replace d0 := d0.below (hb8.mono (by omega))
            replace p0 := p0.below (hb8.mono (by omega))
            replace x0 := x0.below (hb8.mono (by omega))
            replace b := b.below (hb8.mono (by omega))
            replace k := k.below (hb8.mono (by omega))
            replace T := bt T hb8
            go_wp2_with fail
            go_loop [16] (fun i => ∃ j : Nat, j ≤ (hangs f X).length ∧ i = .int .i64 (j : Int)) (fun i => (hangs f X).length - (intOf i).toNat)
            case atStart => exact ⟨0, Nat.zero_le _, rfl⟩
            case round =>
              obtain ⟨j, hj, rfl⟩ := hrel
              by_cases hlt : j < (hangs f X).length
              · have hm := HHM.out (at0 (hangs f X) j) (by rw [at0_lt hlt]; exact List.getElem_mem hlt)
                have HM := hide hm
                have hI := hide (k.ints.mono (show _ ≤ w8.heap.size by omega))
                obtain ⟨b1, off1, rfl, hb1', hb2', hc⟩ := h (by omega)
                have hcell := (hc j hlt).1
                have hlt' : (j : Int) < ((hangs f X).length : Int) := by omega
                clear hc hm hcx
                go_wp2_with fail
                (with_reducible refine (hasInt_any _ (hangs f p) _ _ _ hI.out (by omega)).mono ?_)
                rintro e w' ⟨rfl, rfl⟩
                rw [HM.out]
                go_wp2
                go_round
                case rel => exact ⟨j + 1, by omega, by go_num⟩
                case measure => simp [intOf]; omega
              · have hlt' : ¬ (j : Int) < ((hangs f X).length : Int) := by omega
                go_wp2_with fail
                (with_reducible refine (backOf_any _ p _ _ (p0.ints.mono (by omega)) hnp).mono ?_)
                rintro e w9 ⟨Bq, cq, rfl, hcq, hdq, q, hb9⟩
                have sz9 := hb9.size
                replace d0 := d0.below (hb9.mono (by omega))
                replace p0 := p0.below (hb9.mono (by omega))
                replace x0 := x0.below (hb9.mono (by omega))
                replace b := b.below (hb9.mono (by omega))
                replace k := k.below (hb9.mono (by omega))
                replace h := h.below (hb9.mono (by omega))
                replace T := bt T hb9
                rw [← HPR.out] at q hcq ⊢
                go_wp2_with fail
                (with_reducible refine (payValid_any _ _ (back f) pr _ _ _ (b.ints.mono (by omega)) (q.ints.mono (by omega)) (by omega) (by omega)).mono ?_)
                rintro e w10 ⟨rfl, hb10⟩
                have sz10 := hb10.size
                replace d0 := d0.below (hb10.mono (by omega))
                replace p0 := p0.below (hb10.mono (by omega))
                replace x0 := x0.below (hb10.mono (by omega))
                replace b := b.below (hb10.mono (by omega))
                replace k := k.below (hb10.mono (by omega))
                replace h := h.below (hb10.mono (by omega))
                replace q := q.below (hb10.mono (by omega))
                replace T := bt T hb10
                rw [HPB.out]
                go_wp2
                go_ret
                exact ⟨rfl, T⟩
          · have hn1 : (slack f X - slack f p != 0) = true := by rw [hs]; rfl
            have hn2 : (slack f X - slack f p != 1) = false := by rw [hs]; rfl
            clear hs
            go_wp2_with fail
            (with_reducible refine (payHangs_any _ _ f X _ _ _ (d0.ints.mono (by omega)) (x0.ints.mono (by omega)) hn (by omega)).mono ?_)
            rintro e w8 ⟨Bh, ch, rfl, hch, hdh, h, hb8⟩
            have sz8 := hb8.size
            replace d0 := d0.below (hb8.mono (by omega))
            replace p0 := p0.below (hb8.mono (by omega))
            replace x0 := x0.below (hb8.mono (by omega))
            replace b := b.below (hb8.mono (by omega))
            replace k := k.below (hb8.mono (by omega))
            replace T := bt T hb8
            go_wp2_with fail
            go_loop [16] (fun i => ∃ j : Nat, j ≤ (hangs f X).length ∧ i = .int .i64 (j : Int)) (fun i => (hangs f X).length - (intOf i).toNat)
            case atStart => exact ⟨0, Nat.zero_le _, rfl⟩
            case round =>
              obtain ⟨j, hj, rfl⟩ := hrel
              by_cases hlt : j < (hangs f X).length
              · have hm := HHM.out (at0 (hangs f X) j) (by rw [at0_lt hlt]; exact List.getElem_mem hlt)
                have HM := hide hm
                have hI := hide (k.ints.mono (show _ ≤ w8.heap.size by omega))
                obtain ⟨b1, off1, rfl, hb1', hb2', hc⟩ := h (by omega)
                have hcell := (hc j hlt).1
                have hlt' : (j : Int) < ((hangs f X).length : Int) := by omega
                clear hc hm hcx
                go_wp2_with fail
                (with_reducible refine (hasInt_any _ (hangs f p) _ _ _ hI.out (by omega)).mono ?_)
                rintro e w' ⟨rfl, rfl⟩
                rw [HM.out]
                go_wp2
                go_round
                case rel => exact ⟨j + 1, by omega, by go_num⟩
                case measure => simp [intOf]; omega
              · have hlt' : ¬ (j : Int) < ((hangs f X).length : Int) := by omega
                go_wp2_with fail
                (with_reducible refine (backOf_any _ p _ _ (p0.ints.mono (by omega)) hnp).mono ?_)
                rintro e w9 ⟨Bq, cq, rfl, hcq, hdq, q, hb9⟩
                have sz9 := hb9.size
                replace d0 := d0.below (hb9.mono (by omega))
                replace p0 := p0.below (hb9.mono (by omega))
                replace x0 := x0.below (hb9.mono (by omega))
                replace b := b.below (hb9.mono (by omega))
                replace k := k.below (hb9.mono (by omega))
                replace h := h.below (hb9.mono (by omega))
                replace T := bt T hb9
                rw [← HPR.out] at q hcq ⊢
                go_wp2_with fail
                (with_reducible refine (payValid_any _ _ (back f) pr _ _ _ (b.ints.mono (by omega)) (q.ints.mono (by omega)) (by omega) (by omega)).mono ?_)
                rintro e w10 ⟨rfl, hb10⟩
                have sz10 := hb10.size
                replace d0 := d0.below (hb10.mono (by omega))
                replace p0 := p0.below (hb10.mono (by omega))
                replace x0 := x0.below (hb10.mono (by omega))
                replace b := b.below (hb10.mono (by omega))
                replace k := k.below (hb10.mono (by omega))
                replace h := h.below (hb10.mono (by omega))
                replace q := q.below (hb10.mono (by omega))
                replace T := bt T hb10
                rw [HPB.out]
                go_wp2
                go_ret
                exact ⟨rfl, T⟩
        · have hdle : decide (at0 p kk + 1 ≤ 60) = false := by simpa using hle
          go_wp2_with fail
          (with_reducible refine (payHangs_any _ _ f X _ _ _ (d0.ints.mono (by omega)) (x0.ints.mono (by omega)) hn (by omega)).mono ?_)
          rintro e w8 ⟨Bh, ch, rfl, hch, hdh, h, hb8⟩
          have sz8 := hb8.size
          replace d0 := d0.below (hb8.mono (by omega))
          replace p0 := p0.below (hb8.mono (by omega))
          replace x0 := x0.below (hb8.mono (by omega))
          replace b := b.below (hb8.mono (by omega))
          replace k := k.below (hb8.mono (by omega))
          replace T := bt T hb8
          go_wp2_with fail
          go_loop [16] (fun i => ∃ j : Nat, j ≤ (hangs f X).length ∧ i = .int .i64 (j : Int)) (fun i => (hangs f X).length - (intOf i).toNat)
          case atStart => exact ⟨0, Nat.zero_le _, rfl⟩
          case round =>
            obtain ⟨j, hj, rfl⟩ := hrel
            by_cases hlt : j < (hangs f X).length
            · have hm := HHM.out (at0 (hangs f X) j) (by rw [at0_lt hlt]; exact List.getElem_mem hlt)
              have HM := hide hm
              have hI := hide (k.ints.mono (show _ ≤ w8.heap.size by omega))
              obtain ⟨b1, off1, rfl, hb1', hb2', hc⟩ := h (by omega)
              have hcell := (hc j hlt).1
              have hlt' : (j : Int) < ((hangs f X).length : Int) := by omega
              clear hc hm hcx
              go_wp2_with fail
              (with_reducible refine (hasInt_any _ (hangs f p) _ _ _ hI.out (by omega)).mono ?_)
              rintro e w' ⟨rfl, rfl⟩
              rw [HM.out]
              go_wp2
              go_round
              case rel => exact ⟨j + 1, by omega, by go_num⟩
              case measure => simp [intOf]; omega
            · have hlt' : ¬ (j : Int) < ((hangs f X).length : Int) := by omega
              go_wp2_with fail
              (with_reducible refine (backOf_any _ p _ _ (p0.ints.mono (by omega)) hnp).mono ?_)
              rintro e w9 ⟨Bq, cq, rfl, hcq, hdq, q, hb9⟩
              have sz9 := hb9.size
              replace d0 := d0.below (hb9.mono (by omega))
              replace p0 := p0.below (hb9.mono (by omega))
              replace x0 := x0.below (hb9.mono (by omega))
              replace b := b.below (hb9.mono (by omega))
              replace k := k.below (hb9.mono (by omega))
              replace h := h.below (hb9.mono (by omega))
              replace T := bt T hb9
              rw [← HPR.out] at q hcq ⊢
              go_wp2_with fail
              (with_reducible refine (payValid_any _ _ (back f) pr _ _ _ (b.ints.mono (by omega)) (q.ints.mono (by omega)) (by omega) (by omega)).mono ?_)
              rintro e w10 ⟨rfl, hb10⟩
              have sz10 := hb10.size
              replace d0 := d0.below (hb10.mono (by omega))
              replace p0 := p0.below (hb10.mono (by omega))
              replace x0 := x0.below (hb10.mono (by omega))
              replace b := b.below (hb10.mono (by omega))
              replace k := k.below (hb10.mono (by omega))
              replace h := h.below (hb10.mono (by omega))
              replace q := q.below (hb10.mono (by omega))
              replace T := bt T hb10
              rw [HPB.out]
              go_wp2
              go_ret
              exact ⟨rfl, T⟩
      · have hf' : payOk f p = false := by simpa using hf
        have HF := hide hf'
        clear hf hf'
        go_wp2_with fail
        (with_reducible refine (payValid_any _ _ f p _ _ _ (d0.ints.mono (by omega)) (p0.ints.mono (by omega)) hn hnp).mono ?_)
        rintro e w2 ⟨rfl, hb2⟩
        have sz2 := hb2.size
        replace d0 := d0.below (hb2.mono (by omega))
        replace p0 := p0.below (hb2.mono (by omega))
        replace T := bt T hb2
        rw [HF.out]
        go_wp2_with fail
        (with_reducible refine (specPayValid_any _ _ f p _ _ _ (d0.ints.mono (by omega)) (p0.ints.mono (by omega)) hn hnp).mono ?_)
        rintro e w' ⟨rfl, rfl⟩
        rw [HF.out]
        go_wp2
        go_ret
        exact ⟨rfl, T⟩
end Go.Proofs.Ytoelajocacpmgaa
