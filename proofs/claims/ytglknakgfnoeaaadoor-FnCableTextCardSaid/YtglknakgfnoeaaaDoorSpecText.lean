/-
  WALKS: the text of a cable: the reference's.
-/
import Derived.Test.YtglknakgfnoeaaaDoorTextM
import Derived.Deep.RegionHeld3
import Derived.Deep.DeepCutAuto
import Derived.BigRegion
namespace Go.Proofs.YtglknakgfnoeaaaDoor
set_option linter.unusedVariables false
set_option linter.unusedSimpArgs false
open Go.RowKit

theorem decS_size {n : Nat} (h : n < 100) : (decS n).size ≤ 2 := by
  have := dig_len h
  simpa [decS, ByteArray.size] using this
theorem ba_cat (l : List UInt8) (a b c : Nat) : ba l ++ decS a ++ ⟨#[109]⟩ ++ decS b ++ ⟨#[107]⟩ ++ decS c ++ ⟨#[111]⟩ = ba (l ++ (Lib.decDigits a ++ [109] ++ Lib.decDigits b ++ [107] ++ Lib.decDigits c ++ [111])) := by
  show ba l ++ ba (Lib.decDigits a) ++ ba [109] ++ ba (Lib.decDigits b) ++ ba [107] ++ ba (Lib.decDigits c) ++ ba [111] = _
  simp only [ba_app, List.append_assoc]

set_option maxHeartbeats 6400000 in
theorem specCableText_any (A : Option Addr) (fl : List Int) (n cap : Nat) (w : World) (hl : fl.length = n * 3) (h : Ints w w.heap.size A fl) (hn : n ≤ 1048576) :
    Calls Tryd.prog 6 #[.slice A n cap] w fun e w' => e = .returned (.string (cableTxt fl n)) ∧ Below w.heap.size w w' := by
  have H := hide h
  have HL := hide hl
  clear h hl
  by_cases hf : cableOk fl n = true
  · have HF := hide hf
    have HT := hide (show cableTxt fl n = ba (txtL fl n) by simp [cableTxt, hf])
    obtain ⟨⟨n1, n2⟩, -⟩ := cableOk_iff.1 hf
    obtain ⟨b, off, rfl, hb, hc⟩ := H.out (by have := HL.out; omega)
    have HC := hide hc
    rw [HT.out]
    clear hf hc
    go_enter Tryd.func6, Tryd.ntmps6
    go_wp2
    go_loopw [3, 4] (fun t i wr => ∃ k : Nat, k ≤ n ∧ i = .int .i64 (k : Int) ∧ t = .string (ba (txtL fl k)) ∧ Hid (Below w.heap.size w wr)) (fun _ i _ => n - (intOf i).toNat)
    case atStart => exact ⟨0, Nat.zero_le _, rfl, rfl, Below.refl _ _⟩
    case round =>
      obtain ⟨k, hk, rfl, rfl, hB⟩ := hrel
      by_cases hlt : k < n
      · have hlt' : (k : Int) < (n : Int) := by omega
        go_wp2_with fail
        (with_reducible refine (specCableValid_any _ fl n _ _ HL.out ((H.out.below hB.out).mono hB.out.size) hn).mono ?_)
        rintro e W ⟨rfl, hb1⟩
        rw [HF.out]
        have Y := hide (bt hB.out hb1)
        clear hb1
        obtain ⟨c0, c1, c2⟩ := sec_cells (w := W) (hi := 0) (b := b) (off := off) (k := k) HL.out (fun j hj => (Y.out.cell (p := ⟨b, off + j, none⟩) hb).trans (HC.out j hj)) hlt
        have hbW : b < W.heap.size := by have := Y.out.size; omega
        obtain ⟨x, y, z, ex, ey, ez, hx, hy, hz, es⟩ := sec_nat HF.out hlt
        rw [ex] at c0
        rw [ey] at c1
        rw [ez] at c2
        have ht := txtL_len HF.out k hk
        have HS := hide (show ∀ W', Below W.heap.size W W' → W'.cell? ⟨b, off + k * 3, none⟩ = some (.int .i64 (x : Int)) ∧ W'.cell? ⟨b, off + k * 3 + 1, none⟩ = some (.int .i64 (y : Int)) ∧ W'.cell? ⟨b, off + k * 3 + 2, none⟩ = some (.int .i64 (z : Int)) ∧ Below W.heap.size W W' from fun W' hb' =>
          ⟨(hb'.cell (p := ⟨b, off + k * 3, none⟩) hbW).trans c0, (hb'.cell (p := ⟨b, off + k * 3 + 1, none⟩) hbW).trans c1, (hb'.cell (p := ⟨b, off + k * 3 + 2, none⟩) hbW).trans c2, hb'⟩)
        have HD := hide (show ∀ (i : Nat), i < 100 → ∀ W', Below W.heap.size W W' → Calls Tryd.prog 15 #[.int .i64 (i : Int)] W' fun e w' => e = .returned (.string (decS i)) ∧ Below W.heap.size W w' from fun i hi W' hb' =>
          (l6Dec_any i hi W').mono (by rintro e w' ⟨rfl, hb2⟩; exact ⟨rfl, bt hb' hb2⟩))
        have HX := hide hx
        have HY := hide hy
        have HZ := hide hz
        have q1 := decS_size hx
        have q2 := decS_size hy
        have q3 := decS_size hz
        have HE := hide es
        clear c0 c1 c2 ex ey ez hx hy hz es
        obtain ⟨T0, hT0, hN⟩ : ∃ T0 : List UInt8, T0 = (if k = 0 then [] else txtL fl k ++ [43]) ∧ T0.length ≤ 100 := ⟨_, rfl, by split <;> simp <;> omega⟩
        have hsz : (ba T0).size ≤ 100 := by rw [ba_size]; exact hN
        have HN := hide (show txtL fl (k + 1) = T0 ++ secL fl k by rw [hT0]; rfl)
        have HT0 := hide hT0
        clear hN hT0
        have ha0 : (0 : Int) ≤ (k : Int) := by omega
        have ha1 : off + k * 3 < off + n * 3 := by omega
        have z1 : ¬ 9223372036854775807 < (ba T0).size + (decS x).size := by omega
        have z2 : ¬ 9223372036854775807 < (ba T0).size + (decS x).size + 1 := by omega
        have z3 : ¬ 9223372036854775807 < (ba T0).size + (decS x).size + 1 + (decS y).size := by omega
        have z4 : ¬ 9223372036854775807 < (ba T0).size + (decS x).size + 1 + (decS y).size + 1 := by omega
        have z5 : ¬ 9223372036854775807 < (ba T0).size + (decS x).size + 1 + (decS y).size + 1 + (decS z).size := by omega
        have z6 : ¬ 9223372036854775807 < (ba T0).size + (decS x).size + 1 + (decS y).size + 1 + (decS z).size + 1 := by omega
        have fin : ∀ wx, Below W.heap.size W wx → Value.string (ba T0 ++ decS x ++ ⟨#[109]⟩ ++ decS y ++ ⟨#[107]⟩ ++ decS z ++ ⟨#[111]⟩) = Value.string (ba (txtL fl (k + 1))) ∧ Below w.heap.size w wx := fun wx hw => ⟨by rw [ba_cat, HN.out, HE.out], bt Y.out hw⟩
        have FIN := hide fin
        clear fin
        have hq0 := Below.refl W.heap.size W
        have hqd := (Below.refl W.heap.size W).drew
        obtain ⟨k1, k2, k3, -⟩ := HS.out _ hq0
        by_cases hk0 : k = 0
        · have hk0' : ¬ (0 : Int) < (k : Int) := by omega
          have e0 : ba (txtL fl k) = ba T0 := by rw [HT0.out, if_pos hk0, hk0]; rfl
          rw [e0]
          clear hk0 e0
          go_wp2_with fail
          clear hk0'
          go_region_held3 (fun w' => w'.cell? ⟨b, off + k * 3, none⟩ = some (.int .i64 (x : Int)) ∧ w'.cell? ⟨b, off + k * 3 + 1, none⟩ = some (.int .i64 (y : Int)) ∧ w'.cell? ⟨b, off + k * 3 + 2, none⟩ = some (.int .i64 (z : Int)) ∧ Below W.heap.size W w') (exact HS.out _ (by assumption))
            ((go_at_call 15; (first | (with_reducible refine (HD.out x HX.out _ (by assumption)).mono ?_) | (with_reducible refine (HD.out y HY.out _ (by assumption)).mono ?_) | (with_reducible refine (HD.out z HZ.out _ (by assumption)).mono ?_)); rintro e w9 ⟨rfl, hb9⟩))
          go_wp2
          go_roundw
          case rel => exact ⟨k + 1, by omega, by go_num, (FIN.out _ (by assumption)).1, (FIN.out _ (by assumption)).2⟩
          case measure => simp [intOf]; omega
        · have hk0' : (0 : Int) < (k : Int) := by omega
          have e0 : ba (txtL fl k) ++ ⟨#[43]⟩ = ba T0 := by rw [HT0.out, if_neg hk0]; exact ba_app (txtL fl k) [43]
          have e1 : ¬ 9223372036854775807 < (ba (txtL fl k)).size + 1 := by rw [ba_size]; omega
          clear hk0
          go_wp2_with fail
          clear hk0' e1
          first | rw [e0] | skip
          clear e0
          go_region_held3 (fun w' => w'.cell? ⟨b, off + k * 3, none⟩ = some (.int .i64 (x : Int)) ∧ w'.cell? ⟨b, off + k * 3 + 1, none⟩ = some (.int .i64 (y : Int)) ∧ w'.cell? ⟨b, off + k * 3 + 2, none⟩ = some (.int .i64 (z : Int)) ∧ Below W.heap.size W w') (exact HS.out _ (by assumption))
            ((go_at_call 15; (first | (with_reducible refine (HD.out x HX.out _ (by assumption)).mono ?_) | (with_reducible refine (HD.out y HY.out _ (by assumption)).mono ?_) | (with_reducible refine (HD.out z HZ.out _ (by assumption)).mono ?_)); rintro e w9 ⟨rfl, hb9⟩))
          go_wp2
          go_roundw
          case rel => exact ⟨k + 1, by omega, by go_num, (FIN.out _ (by assumption)).1, (FIN.out _ (by assumption)).2⟩
          case measure => simp [intOf]; omega
      · obtain rfl : k = n := by omega
        go_wp2
        go_ret
        exact ⟨rfl, hB.out⟩
  · have hf' : cableOk fl n = false := by simpa using hf
    have HF := hide hf'
    have HT := hide (show cableTxt fl n = ⟨#[]⟩ by simp [cableTxt, hf', ba])
    rw [HT.out]
    clear hf hf'
    have HV := hide (show ∀ W, Below w.heap.size w W → Calls Tryd.prog 14 #[.slice A n cap] W fun e w' => e = .returned (.bool false) ∧ Below W.heap.size W w' from fun W hb => by
      have := specCableValid_any A fl n cap W HL.out ((H.out.below hb).mono hb.size) hn
      rw [HF.out] at this
      exact this)
    go_enter Tryd.func6, Tryd.ntmps6
    go_wp2
    go_loop [3, 4] (fun v i => v = .string ⟨#[]⟩ ∧ i = .int .i64 0) (fun _ _ => 0)
    case atStart => exact ⟨rfl, rfl⟩
    case round =>
      obtain ⟨rfl, rfl⟩ := hrel
      by_cases h1 : (0 : Int) < (n : Int)
      · go_wp2_with fail
        (with_reducible refine (HV.out _ (Below.refl _ _)).mono ?_)
        rintro e w1 ⟨rfl, hb1⟩
        go_wp2
        go_ret
        exact ⟨rfl, hb1⟩
      · have h1' : decide ((0 : Int) < (n : Int)) = false := by simpa using h1
        go_wp2
        go_ret
        exact ⟨rfl, Below.refl _ _⟩
end Go.Proofs.YtglknakgfnoeaaaDoor
