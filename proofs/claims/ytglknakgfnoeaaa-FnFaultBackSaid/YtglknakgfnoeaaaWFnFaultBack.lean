/-
  WALK: the law FnFaultBack.
-/
import Derived.Test.YtglknakgfnoeaaaLawCableP
import Derived.Test.YtglknakgfnoeaaaDrawFault
import Derived.Test.YtglknakgfnoeaaaFaultBack
import Derived.Test.YtglknakgfnoeaaaLawSecs
import Derived.Deep.RegionHeld3
namespace Go.Proofs.Ytglknakgfnoeaaa
set_option linter.unusedVariables false
set_option linter.unusedSimpArgs false
open Go.RowKit

set_option maxRecDepth 100000 in
set_option maxHeartbeats 4000000 in
theorem walk_FnFaultBack (w0 : World) (A0 : Option Addr) (len0 cap0 : Nat) (bs0 : List Int) (i0 : IsList .u8 w0 A0 len0 cap0 bs0) :
    Calls Try.prog 6 #[.slice A0 len0 cap0] w0 fun e w' => e = .returned (.bool true) ∧ Below w0.heap.size w0 w' := by
  have hB0 := hide (IsList.byts i0)
  obtain ⟨rfl, hbc0, hbm0, -⟩ := i0
  unfold maxLen at hbm0
  by_cases big0 : (1048576 : Int) < (bs0.length : Int)
  · go_enter Try.func6, Try.ntmps6
    go_wp2
    go_ret
    exact ⟨rfl, Below.refl _ _⟩
  · skip
    have T := Below.refl w0.heap.size w0
    go_enter Try.func6, Try.ntmps6
    go_wp2_with fail
    (with_reducible refine (drawFaultBack_any A0 bs0 cap0 w0 hB0.out hbc0 hbm0).mono ?_)
    rintro e w1 ⟨D0, cD0, f, n, a, b, rfl, hlf, hcD0, hdD0, hn11, ⟨a0, a1, b0, b1⟩, d0, hb1⟩
    have sz1 := hb1.size
    replace T := bt T hb1
    have hn : n ≤ 1048576 := by omega
    have hb2 := (Below.refl w1.heap.size w1).alloc (Nat.le_refl _) (.cells #[.int .i64 a, .int .i64 b] 32)
    have G4' : FBox (w1.alloc (.cells #[.int .i64 a, .int .i64 b] 32)) w1.heap.size a b := heap_alloc_new _ _
    have sz2 := hb2.size
    replace d0 := d0.below (hb2.mono (by omega))
    replace T := bt T hb2
    have G4 := G4'
    clear G4'
    by_cases hf : faultOk f n a b = true
    · have HF := hide hf
      have hf' := hf
      simp only [faultOk, Bool.and_eq_true] at hf'
      obtain ⟨hm, ho⟩ := hf'
      obtain ⟨hk, -, -⟩ := inB_miles hm
      obtain ⟨m0, m1⟩ := inB_iff.1 hm
      obtain ⟨z0, z1⟩ := miles_le hk
      obtain ⟨M, hM⟩ : ∃ M, M = miles f n := ⟨_, rfl⟩
      obtain ⟨m, hmm⟩ : ∃ m, m = M - a := ⟨_, rfl⟩
      obtain ⟨e1, e2⟩ := cback_eq hk
      have E1 := hide e1
      have E2 := hide e2
      have HM := hide (show fbM f n a b = m by simp [fbM, hf, hmm, hM])
      have HO := hide (show fbO f n a b = b by simp [fbO, hf])
      have HK := hide hk
      have HMi := hide (show miles f n = M from hM.symm)
      have hX : faultOk (upto (backC f n) (n * 3)) n m b = true := by
        simp only [faultOk, miles_back hk, ho, Bool.and_true]
        exact inB_iff.2 ⟨by omega, by omega⟩
      have X := hide hX
      have X1 := hide (show fbM (upto (backC f n) (n * 3)) n m b = a by simp only [fbM, hX, if_true, miles_back hk]; omega)
      have X2 := hide (show fbO (upto (backC f n) (n * 3)) n m b = b by simp only [fbO, hX, if_true])
      have hs : m + a = M := by omega
      rw [← hM] at m1 z0 z1
      clear hf hm ho hk hM e1 e2 hX hmm
      obtain ⟨g40, g41⟩ := G4.cells
      go_wp2_with fail
      (with_reducible refine (faultBack_any _ f n _ a b _ hlf (d0.ints.mono (by omega)) hn).mono ?_)
      rintro e w3 ⟨rfl, hb3⟩
      replace G4 := G4.on hb3
      have sz3 := hb3.size
      replace d0 := d0.below (hb3.mono (by omega))
      replace T := bt T hb3
      rw [HM.out, HO.out, HF.out]
      clear g40 g41
      have hb4 := (Below.refl w3.heap.size w3).alloc (Nat.le_refl _) (.cells #[.int .i64 m, .int .i64 b] 32)
      have G5' : FBox (w3.alloc (.cells #[.int .i64 m, .int .i64 b] 32)) w3.heap.size m b := heap_alloc_new _ _
      replace G4 := G4.on hb4
      have sz4 := hb4.size
      replace d0 := d0.below (hb4.mono (by omega))
      replace T := bt T hb4
      have G5 := G5'
      clear G5'
      obtain ⟨g40, g41⟩ := G4.cells
      go_wp2_with fail
      (with_reducible refine (specFaultBack_any _ f n _ a b _ hlf (d0.ints.mono (by omega)) hn).mono ?_)
      rintro e w5 ⟨rfl, hb5⟩
      replace G4 := G4.on hb5
      replace G5 := G5.on hb5
      have sz5 := hb5.size
      replace d0 := d0.below (hb5.mono (by omega))
      replace T := bt T hb5
      rw [HM.out, HO.out, HF.out]
      clear g40 g41
      have hb6 := (Below.refl w5.heap.size w5).alloc (Nat.le_refl _) (.cells #[.int .i64 m, .int .i64 b] 32)
      have G7' : FBox (w5.alloc (.cells #[.int .i64 m, .int .i64 b] 32)) w5.heap.size m b := heap_alloc_new _ _
      replace G4 := G4.on hb6
      replace G5 := G5.on hb6
      have sz6 := hb6.size
      replace d0 := d0.below (hb6.mono (by omega))
      replace T := bt T hb6
      have G7 := G7'
      clear G7'
      obtain ⟨g50, g51⟩ := G5.cells
      obtain ⟨g70, g71⟩ := G7.cells
      go_wp2_with fail
      (with_reducible refine (cableBack_any _ f n _ _ hlf (d0.ints.mono (by omega)) hn).mono ?_)
      rintro e w7 ⟨Bg, cg, rfl, hlg, hcg, hdg, g, hb7⟩
      replace G4 := G4.on hb7
      replace G5 := G5.on hb7
      replace G7 := G7.on hb7
      have sz7 := hb7.size
      replace d0 := d0.below (hb7.mono (by omega))
      replace T := bt T hb7
      rw [E1.out, E2.out] at hlg
      rw [E1.out] at g
      rw [E2.out] at hcg ⊢
      rw [HK.out]
      clear g50 g51 g70 g71
      obtain ⟨g50, g51⟩ := G5.cells
      go_wp2_with fail
      (with_reducible refine (faultBack_any _ _ n _ m b _ hlg (g.ints.mono (by omega)) hn).mono ?_)
      rintro e w8 ⟨rfl, hb8⟩
      replace G4 := G4.on hb8
      replace G5 := G5.on hb8
      replace G7 := G7.on hb8
      have sz8 := hb8.size
      replace d0 := d0.below (hb8.mono (by omega))
      replace g := g.below (hb8.mono (by omega))
      replace T := bt T hb8
      rw [X1.out, X2.out, X.out]
      clear g50 g51
      have hb9 := (Below.refl w8.heap.size w8).alloc (Nat.le_refl _) (.cells #[.int .i64 a, .int .i64 b] 32)
      have G11' : FBox (w8.alloc (.cells #[.int .i64 a, .int .i64 b] 32)) w8.heap.size a b := heap_alloc_new _ _
      replace G4 := G4.on hb9
      replace G5 := G5.on hb9
      replace G7 := G7.on hb9
      have sz9 := hb9.size
      replace d0 := d0.below (hb9.mono (by omega))
      replace g := g.below (hb9.mono (by omega))
      replace T := bt T hb9
      have G11 := G11'
      clear G11'
      obtain ⟨Wx, hW⟩ : ∃ W, W = (w8.alloc (.cells #[.int .i64 a, .int .i64 b] 32)) := ⟨_, rfl⟩
      rw [← hW] at G4 G5 G11 d0 T
      have sx : Wx.heap.size = w8.heap.size + 1 := by rw [hW]; simp
      have HS := hide (show ∀ W, Below Wx.heap.size Wx W → W.cell? ⟨w1.heap.size, 0, none⟩ = some (.int .i64 a) ∧ W.cell? ⟨w1.heap.size, 1, none⟩ = some (.int .i64 b) ∧ W.cell? ⟨w3.heap.size, 0, none⟩ = some (.int .i64 m) ∧ W.cell? ⟨w3.heap.size, 1, none⟩ = some (.int .i64 b) ∧ W.cell? ⟨w8.heap.size, 0, none⟩ = some (.int .i64 a) ∧ W.cell? ⟨w8.heap.size, 1, none⟩ = some (.int .i64 b) ∧ Below Wx.heap.size Wx W from fun W hb => ⟨(G4.on hb).cells.1, (G4.on hb).cells.2, (G5.on hb).cells.1, (G5.on hb).cells.2, (G11.on hb).cells.1, (G11.on hb).cells.2, hb⟩)
      have HD0 := hide d0
      have HC := hide (show ∀ W, Below Wx.heap.size Wx W → Calls Try.prog 17 #[.slice D0 n cD0] W fun e w' => e = .returned (.int .i64 M) ∧ Below Wx.heap.size Wx w' from fun W hb =>
        (cableMiles_any _ f n cD0 W hlf ((HD0.out.below (hb.mono (by omega))).ints.mono (by have := hb.size; omega)) hn).mono (by rintro e w' ⟨rfl, hb2⟩; exact ⟨by rw [HMi.out], bt hb hb2⟩))
      have hq0 := Below.refl Wx.heap.size Wx
      have hqd := (Below.refl Wx.heap.size Wx).drew
      obtain ⟨k1, k2, k3, k4, k5, k6, -⟩ := HS.out _ hq0
      have HT := hide T
      clear G4 G5 G7 G11 d0 T
      have hwM : IntKind.i64.wrap M = M := IntWalk.i64_in _ ⟨by omega, by omega⟩
      go_wp2_with fail
      rw [← hW]
      clear hW
      go_region_held3 (fun w' => w'.cell? ⟨w1.heap.size, 0, none⟩ = some (.int .i64 a) ∧ w'.cell? ⟨w1.heap.size, 1, none⟩ = some (.int .i64 b) ∧ w'.cell? ⟨w3.heap.size, 0, none⟩ = some (.int .i64 m) ∧ w'.cell? ⟨w3.heap.size, 1, none⟩ = some (.int .i64 b) ∧ w'.cell? ⟨w8.heap.size, 0, none⟩ = some (.int .i64 a) ∧ w'.cell? ⟨w8.heap.size, 1, none⟩ = some (.int .i64 b) ∧ Below Wx.heap.size Wx w') (exact HS.out _ (by assumption))
        ((go_at_call 17; (with_reducible refine (HC.out _ (by assumption)).mono ?_); rintro e w9 ⟨rfl, hb9⟩))
      rename_i hS
      obtain ⟨-, -, -, -, -, -, hB⟩ := hS
      go_wp2
      go_ret
      exact ⟨rfl, bt HT.out hB⟩
    · have hf' : faultOk f n a b = false := by simpa using hf
      have HF := hide hf'
      have HM := hide (show fbM f n a b = 0 by simp [fbM, hf'])
      have HO := hide (show fbO f n a b = 0 by simp [fbO, hf'])
      clear hf hf'
      obtain ⟨g40, g41⟩ := G4.cells
      go_wp2_with fail
      (with_reducible refine (faultBack_any _ f n _ a b _ hlf (d0.ints.mono (by omega)) hn).mono ?_)
      rintro e w3 ⟨rfl, hb3⟩
      replace G4 := G4.on hb3
      have sz3 := hb3.size
      replace d0 := d0.below (hb3.mono (by omega))
      replace T := bt T hb3
      rw [HM.out, HO.out, HF.out]
      clear g40 g41
      have hb4 := (Below.refl w3.heap.size w3).alloc (Nat.le_refl _) (.cells #[.int .i64 0, .int .i64 0] 32)
      have G5' : FBox (w3.alloc (.cells #[.int .i64 0, .int .i64 0] 32)) w3.heap.size 0 0 := heap_alloc_new _ _
      replace G4 := G4.on hb4
      have sz4 := hb4.size
      replace d0 := d0.below (hb4.mono (by omega))
      replace T := bt T hb4
      have G5 := G5'
      clear G5'
      obtain ⟨g40, g41⟩ := G4.cells
      go_wp2_with fail
      (with_reducible refine (specFaultBack_any _ f n _ a b _ hlf (d0.ints.mono (by omega)) hn).mono ?_)
      rintro e w5 ⟨rfl, hb5⟩
      replace G4 := G4.on hb5
      replace G5 := G5.on hb5
      have sz5 := hb5.size
      replace d0 := d0.below (hb5.mono (by omega))
      replace T := bt T hb5
      rw [HM.out, HO.out, HF.out]
      clear g40 g41
      have hb6 := (Below.refl w5.heap.size w5).alloc (Nat.le_refl _) (.cells #[.int .i64 0, .int .i64 0] 32)
      have G7' : FBox (w5.alloc (.cells #[.int .i64 0, .int .i64 0] 32)) w5.heap.size 0 0 := heap_alloc_new _ _
      replace G4 := G4.on hb6
      replace G5 := G5.on hb6
      have sz6 := hb6.size
      replace d0 := d0.below (hb6.mono (by omega))
      replace T := bt T hb6
      have G7 := G7'
      clear G7'
      obtain ⟨g50, g51⟩ := G5.cells
      obtain ⟨g70, g71⟩ := G7.cells
      go_wp2
      go_ret
      exact ⟨rfl, T⟩
end Go.Proofs.Ytglknakgfnoeaaa
