/-
  WALKS: the plain cable: the reference's.
-/
import Derived.Test.YtglknakgfnoeaaaCablePlain
namespace Go.Proofs.Ytglknakgfnoeaaa
set_option linter.unusedVariables false
set_option linter.unusedSimpArgs false
open Go.RowKit Go.Shelf
attribute [local go_sem] Oper.semAt_some

set_option maxHeartbeats 6400000 in
theorem specCablePlain_any (A : Option Addr) (fl : List Int) (n cap : Nat) (w : World) (hl : fl.length = n * 3) (h : Ints w w.heap.size A fl) (hn : n ≤ 1048576) :
    Calls Try.prog 21 #[.slice A n cap] w (RetSecs w (plain fl n) (plainN fl n) (plainOk fl n)) := by
  have H := hide h
  have HL := hide hl
  clear h hl
  by_cases hf : cableOk fl n = true
  · have HF := hide hf
    obtain ⟨⟨n1, n2⟩, -⟩ := cableOk_iff.1 hf
    obtain ⟨b, off, rfl, hb, hc⟩ := H.out (by have := HL.out; omega)
    have HC := hide hc
    clear hf hc
    go_enter Try.func21, Try.ntmps21
    go_wp2
    go_loopw [4, 5] (fun v i wr => ∃ k : Nat, k ≤ n ∧ i = .int .i64 (k : Int) ∧ Hid (OwnL wr w.heap.size v (plL fl k)) ∧ Hid (Below w.heap.size w wr)) (fun _ i _ => n - (intOf i).toNat)
    case atStart => exact ⟨0, Nat.zero_le _, rfl, (World.ownsRow_made w #[] 0 (Nat.le_refl _) (Nat.zero_le _) rfl), (Below.refl _ w).alloc (Nat.le_refl _) _⟩
    case round =>
      obtain ⟨k, hk, rfl, hO, hB⟩ := hrel
      by_cases hlt : k < n
      · have hlt' : (k : Int) < (n : Int) := by omega
        go_wp2_with fail
        (with_reducible refine (specCableValid_any _ fl n _ _ HL.out ((H.out.below hB.out).mono hB.out.size) hn).mono ?_)
        rintro e W ⟨rfl, hb1⟩
        rw [HF.out]
        have Y := hide (bt hB.out hb1)
        obtain ⟨c0, c1, c2⟩ := sec_cells (w := W) (hi := 0) (b := b) (off := off) (k := k) HL.out (fun j hj => (Y.out.cell (p := ⟨b, off + j, none⟩) hb).trans (HC.out j hj)) hlt
        have OY := hide (hO.out.on hb1)
        have hbW : b < W.heap.size := by have := Y.out.size; omega
        clear hb1
        obtain ⟨⟨v1, v2⟩, -⟩ := sec_bd HF.out hlt
        have hps := hide (plL_succ fl k)
        have hpl := plL_len fl k
        obtain ⟨x, hx⟩ : ∃ x, x = at0 fl (k * 3) := ⟨_, rfl⟩
        obtain ⟨y, hy⟩ : ∃ x, x = at0 fl (k * 3 + 1) := ⟨_, rfl⟩
        obtain ⟨o, ho⟩ : ∃ x, x = at0 fl (k * 3 + 2) := ⟨_, rfl⟩
        have HT := hide (show sec3 fl k = (x, y, o) by rw [hx, hy, ho]; rfl)
        rw [← hx] at c0 v1 v2
        rw [← hy] at c1
        rw [← ho] at c2
        clear hx hy ho
        obtain ⟨L, hL⟩ : ∃ L, L = plL fl k := ⟨_, rfl⟩
        have HLe := hide hL
        rw [← hL] at hO hpl OY
        clear hL
        obtain ⟨AL, cL, rfl, hcL1, hcL2⟩ := own_formS OY.out
        obtain ⟨p, hp⟩ : ∃ p, p = L.length := ⟨_, rfl⟩
        rw [← hp] at hpl hcL1
        have HP := hide hp
        rw [← hp]
        rw [← hp] at hO OY
        clear hp
        go_wp2_with fail
        go_cut [6, 48] (fun l s wx => l = .int .i64 ((p : Int) - 1) ∧ s = .bool (joins L (x, y, o)) ∧ Below W.heap.size W wx)
        case first =>
          obtain rfl | ⟨I, z, hI⟩ := List.eq_nil_or_concat L
          · have hp0 : p = 0 := HP.out
            clear HP
            subst hp0
            go_quiet (fail)
            go_wp2_with fail
            go_meet
            exact ⟨by simp, rfl, below_drewN (Below.refl _ _) _⟩
          · rw [List.concat_eq_append] at hI
            subst hI
            obtain ⟨g, c, hv, hg, hgl, g0, g1, g2, gf⟩ := OY.out.last
            obtain ⟨rfl, -, rfl⟩ := Value.slice.inj hv
            clear hv
            obtain ⟨q, hq⟩ : ∃ q, q = I.length := ⟨_, rfl⟩
            have hp1 : p = q + 1 := by rw [HP.out, hq]; simp
            rw [← hq] at g0 g1 g2 gf
            have hq8 : q ≤ 8 := by omega
            clear HP hpl hq
            subst hp1
            have hwq : IntKind.i64.wrap (q : Int) = (q : Int) := IntWalk.i64_in _ (by omega)
            obtain ⟨zx, zy, zo⟩ := z
            by_cases hky : zy = y
            · by_cases hko : zo = o
              · go_quiet (fail)
                go_wp2_with fail
                go_meet
                exact ⟨by rw [show ((q + 1 : Nat) : Int) - 1 = (q : Int) by omega], by simp [joins, same3, hky, hko], below_drewN (Below.refl _ _) _⟩
              · go_quiet (fail)
                go_wp2_with fail
                go_meet
                exact ⟨by rw [show ((q + 1 : Nat) : Int) - 1 = (q : Int) by omega], by simp [joins, same3, hky, hko], below_drewN (Below.refl _ _) _⟩
            · have hkd : (zy == y) = false := by simpa using hky
              have HJ := hide (show joins (I ++ [(zx, zy, zo)]) (x, y, o) = false by simp [joins, same3, hky])
              clear hky
              go_quiet (fail)
              go_wp2_with fail
              go_meet
              exact ⟨by rw [show ((q + 1 : Nat) : Int) - 1 = (q : Int) by omega], by rw [HJ.out], below_drewN (Below.refl _ _) _⟩
        obtain ⟨rfl, rfl, hbc⟩ := hcut
        have B3 := hide (bt Y.out hbc)
        have O3 := hide (OY.out.on hbc)
        have e0 := (hbc.cell (p := ⟨b, off + k * 3, none⟩) hbW).trans c0
        have e1 := (hbc.cell (p := ⟨b, off + k * 3 + 1, none⟩) hbW).trans c1
        have e2 := (hbc.cell (p := ⟨b, off + k * 3 + 2, none⟩) hbW).trans c2
        have hws := hbc.size
        clear c0 c1 c2 hbc
        by_cases hj : joins L (x, y, o) = true
        · obtain rfl | ⟨I, z, hI⟩ := List.eq_nil_or_concat L
          · cases hj
          · rw [List.concat_eq_append] at hI
            subst hI
            have hs3 : same3 z (x, y, o) = true := by simpa [joins] using hj
            have HN := hide (show plL fl (k + 1) = I ++ [(z.1 + x, z.2)] by rw [hps.out, ← HLe.out, HT.out, sm_snoc, if_pos hs3]; rfl)
            obtain ⟨g, c, hv, hg, hgl, g0, g1, g2, gf⟩ := O3.out.last
            obtain ⟨rfl, -, rfl⟩ := Value.slice.inj hv
            clear hv
            rw [hj]
            obtain ⟨q, hq⟩ : ∃ q, q = I.length := ⟨_, rfl⟩
            have hp1 : p = q + 1 := by rw [HP.out, hq]; simp
            rw [← hq] at g0 g1 g2 gf
            have O3' := O3.out
            rw [show p = I.length + 1 by rw [hp1, hq]] at O3'
            have O4 := hide (OwnL.grow O3' (z.1 + x))
            rw [← hq, ← HN.out] at O4
            have hg1 := hide hg
            have HZ := hide (show 0 ≤ z.1 ∧ z.1 ≤ 400 from by
              have := plL_bd HF.out k hk z (by rw [← HLe.out]; simp)
              omega)
            have hq8 : q ≤ 8 := by omega
            have HL2 := hide (show (plL fl (k + 1)).length = q + 1 by rw [HN.out, hq]; simp)
            clear O3' hq hpl HP hj
            subst hp1
            obtain ⟨zx, zy, zo⟩ := z
            have hzx := HZ.out.1
            have hzx2 := HZ.out.2
            have hwq : IntKind.i64.wrap (q : Int) = (q : Int) := IntWalk.i64_in _ (by omega)
            go_wp2_with fail
            go_region
            go_wp2
            go_roundw
            case rel => exact ⟨k + 1, by omega, by go_num, O4.out.on (Below.refl _ _).drew, (B3.out.setCell (p := ⟨g, q * 3, none⟩) hg1.out _).drew⟩
            case measure => simp [intOf]; omega
        · have hj' : joins L (x, y, o) = false := by simpa using hj
          have HN := hide (show plL fl (k + 1) = L ++ [(x, y, o)] by
            rw [hps.out, ← HLe.out, HT.out]
            obtain rfl | ⟨I, z, hI⟩ := List.eq_nil_or_concat L
            · rfl
            · rw [List.concat_eq_append] at hI
              subst hI
              have hs3 : same3 z (x, y, o) = false := by simpa [joins] using hj'
              rw [sm_snoc, if_neg (by rw [hs3]; simp)]
              simp)
          obtain ⟨v', w', hr, ho', hb'⟩ := OwnL.push (x, y, o) O3.out (Nat.le_trans Y.out.size hws) (by rw [← HP.out]; omega)
          rw [← HN.out] at ho'
          have HR := hide hr
          have HO' := hide ho'
          have B4 := hide (B3.out.trans hb')
          clear hr ho' hb'
          rw [hj']
          go_wp2_with (at_builtin; refine Lib.wpList_append_run _ rfl _ _ _ _ rfl _ _ rfl rfl _ _ HR.out ?_)
          go_roundw
          case rel => exact ⟨k + 1, by omega, by go_num, HO'.out, B4.out⟩
          case measure => simp [intOf]; omega
      · have hkk : k = n := by omega
        subst hkk
        obtain ⟨AL, cL, rfl, hcL1, hcL2⟩ := own_formS hO.out
        unfold maxLen at hcL2
        have hpl := plL_len fl k
        have HFr := hide (Fresh.of_ownS (fl := flatS (plL fl k)) hO.out)
        have HLn := hide (flatS_len (plL fl k))
        have HC1 := hide hcL1
        go_wp2_with fail
        (with_reducible refine (specCableValid_any _ (flatS (plL fl k)) (plL fl k).length _ _ HLn.out HFr.out.ints (by omega)).mono ?_)
        rintro e w5 ⟨rfl, hb5⟩
        have HF5 := hide ((HFr.out.below hb5).mono (Nat.le_refl _) (show _ ≤ w5.heap.size from hb5.size))
        have B5 := hide (bt hB.out hb5)
        clear hb5
        by_cases hp : cableOk (flatS (plL fl k)) (plL fl k).length = true
        · have HK := hide (show plainOk fl k = true by simp [plainOk, HF.out, hp])
          have HK1 := hide (show plain fl k = flatS (plL fl k) by simp only [plain, HK.out, if_true])
          have HK2 := hide (show plainN fl k = (plL fl k).length by simp only [plainN, HK.out, if_true])
          rw [hp]
          go_wp2
          go_ret2
          rw [HK.out, HK1.out, HK2.out]
          exact ⟨AL, cL, rfl, HLn.out, HC1.out, by omega, HF5.out, B5.out⟩
        · have hp' : cableOk (flatS (plL fl k)) (plL fl k).length = false := by simpa using hp
          have HK := hide (show plainOk fl k = false by simp [plainOk, hp'])
          rw [hp']
          go_wp2
          go_ret2
          exact plain_no HK.out (by omega) (B5.out.alloc B5.out.size _)
  · have hf' : cableOk fl n = false := by simpa using hf
    have HF := hide hf'
    have HK := hide (show plainOk fl n = false by simp [plainOk, hf'])
    clear hf hf'
    have HB := hide ((Below.refl w.heap.size w).alloc (Nat.le_refl _) (.cells #[] 42))
    have HV := hide (show ∀ W, Below w.heap.size w W → Calls Try.prog 43 #[.slice A n cap] W fun e w' => e = .returned (.bool false) ∧ Below W.heap.size W w' from fun W hb => by
      have := specCableValid_any A fl n cap W HL.out ((H.out.below hb).mono hb.size) hn
      rw [HF.out] at this
      exact this)
    have HE := hide (fun (W : World) => specCableValid_any (some ⟨w.heap.size, 0, none⟩) [] 0 0 W rfl (fun h => absurd h (by simp)) (Nat.zero_le _))
    have HE0 := hide (show cableOk [] 0 = false by rfl)
    go_enter Try.func21, Try.ntmps21
    go_wp2
    go_loop [4, 5] (fun v i => v = .slice (some ⟨w.heap.size, 0, none⟩) 0 0 ∧ i = .int .i64 0) (fun _ _ => 0)
    case atStart => exact ⟨rfl, rfl⟩
    case round =>
      obtain ⟨rfl, rfl⟩ := hrel
      by_cases h1 : (0 : Int) < (n : Int)
      · go_wp2_with fail
        (with_reducible refine (HV.out _ HB.out).mono ?_)
        rintro e w1 ⟨rfl, hb1⟩
        have B1 := bt HB.out hb1
        go_wp2_with fail
        (with_reducible refine (HE.out _).mono ?_)
        rintro e w2 ⟨rfl, hb2⟩
        have B2 := bt B1 hb2
        rw [HE0.out]
        go_wp2
        go_ret2
        exact plain_no HK.out (by omega) (B2.alloc B2.size _)
      · have h1' : decide ((0 : Int) < (n : Int)) = false := by simpa using h1
        go_wp2_with fail
        (with_reducible refine (HE.out _).mono ?_)
        rintro e w2 ⟨rfl, hb2⟩
        have B2 := bt HB.out hb2
        rw [HE0.out]
        go_wp2
        go_ret2
        exact plain_no HK.out (by omega) (B2.alloc B2.size _)
end Go.Proofs.Ytglknakgfnoeaaa
