/-
  WALK: the draw of a cable whose sections are often alike.
-/
import Derived.Test.YtglknakgfnoeaaaDrawCI
import Derived.Deep.DeepCutAuto
import Derived.Deep.RegionWith
import Derived.Orders
namespace Go.Proofs.Ytglknakgfnoeaaa
set_option linter.unusedVariables false
set_option linter.unusedSimpArgs false
open Go.RowKit

theorem six_fresh (W : World) (hi : Nat) (x : Int) : Fresh (W.alloc (.cells #[.int .i64 30, .int .i64 1, .int .i64 2, .int .i64 x, .int .i64 1, .int .i64 2] 42)) W.heap.size (W.heap.size + 1) (some ⟨W.heap.size, 0, none⟩) [30, 1, 2, x, 1, 2] := fun _ => by
  have h := heap_alloc_new W (.cells #[.int .i64 30, .int .i64 1, .int .i64 2, .int .i64 x, .int .i64 1, .int .i64 2] 42)
  refine ⟨W.heap.size, 0, rfl, Nat.le_refl _, by omega, fun j hj => ⟨?_, ?_⟩⟩
  · rw [Nat.zero_add, cell_of_row _ _ j _ _ _ h]
    have hj' : j < 6 := hj
    match j, hj' with
    | 0, _ => rfl
    | 1, _ => rfl
    | 2, _ => rfl
    | 3, _ => rfl
    | 4, _ => rfl
    | 5, _ => rfl
  · exact frozen_of_row _ _ _ _ _ h

set_option maxRecDepth 100000 in
set_option maxHeartbeats 4000000 in
theorem drawCablePlain_any (A : Option Addr) (bs : List Int) (cap : Nat) (w : World) (hB : Byts w w.heap.size A bs) (hc : bs.length ≤ cap) (hn : cap ≤ 9223372036854775807) :
    Calls Try.prog 20 #[.slice A bs.length cap] w (DrawCab w) := by
  obtain ⟨b2, hb2⟩ : ∃ b2, b2 = bs.take 2000 := ⟨_, rfl⟩
  have hl2 : b2.length ≤ 2000 := by rw [hb2]; simp; omega
  have hB2 : Byts w w.heap.size A b2 := by rw [hb2]; exact hB.take 2000
  have HO := fun W => l6Open_any A bs cap W hc hn
  rw [← hb2] at HO
  have hO := hide HO
  have HB2 := hide (hB2.below ((Below.refl _ w).alloc (Nat.le_refl _) (.cells #[.slice A b2.length cap, .int .i64 0] 68)))
  clear HO hb2 hB hB2
  go_enter Try.func20, Try.ntmps20
  go_wp2_with fail
  refine (hO.out _).mono ?_
  rintro e w' ⟨rfl, rfl⟩
  have HB := hide (fun (W : World) (hg : (w.alloc (.cells #[.slice A b2.length cap, .int .i64 0] 68)).grownBy W (some w.heap.size)) => HB2.out.grown hg (by simp))
  go_wp2_with fail
  (with_reducible refine (l91Cable_any w.heap.size A b2 cap 0 5 _ rd_newS HB2.out (by omega) (by omega) hl2 (by omega) (by omega)).mono ?_)
  rintro e w1 ⟨D, fl, n, c, q, rfl, h2, h3, h4, h5, h6, hR1, hq0, hq1, hg1⟩
  have HR1 := hide hR1
  have H6 := hide h6
  have G1 := hide hg1
  have hz1 := hg1.size
  have hz0 : w.heap.size < (w.alloc (.cells #[.slice A b2.length cap, .int .i64 0] 68)).heap.size := by simp
  clear hR1 h6 hg1
  have fin : ∀ (w' : World), w1.grownBy w' (some w.heap.size) → DrawCab w (.returned (.slice D n c)) w' := fun w' hg =>
    ⟨D, c, fl, n, rfl, h2, h3, h4, h5, (H6.out.carryG hg (by omega) (Nat.le_refl _)).mono (by omega) hg.size, below_rdS (grown_two G1.out hg)⟩
  have FIN := hide fin
  clear fin
  go_wp2_with fail
  (with_reducible refine (pick_any w.heap.size A b2 cap (q) 16 _ HR1.out (HB.out _ G1.out) (by omega) (by omega) hl2 (by omega) (by omega)).mono ?_)
  rintro e w2 ⟨x, hx0, hx1, rfl, hR2, hg2⟩
  have HR2 := hide hR2
  have G2 := hide (grown_two G1.out hg2)
  have K2 := hide (hg2)
  clear hR2 hg2
  by_cases c0 : x = 0
  · subst c0
    go_wp2_with fail
    (with_reducible refine (pick_any w.heap.size A b2 cap (q + 1) 10 _ HR2.out (HB.out _ G2.out) (by omega) (by omega) hl2 (by omega) (by omega)).mono ?_)
    rintro e w3 ⟨y, hy0, hy1, rfl, hR3, hg3⟩
    have HR3 := hide hR3
    have G3 := hide (grown_two G2.out hg3)
    have K3 := hide (grown_two K2.out hg3)
    clear hR3 hg3
    go_wp2
    go_ret
    have z3 := K3.out.size
    exact ⟨_, 2, [30, 1, 2, 15 + y, 1, 2], 2, rfl, rfl, Nat.le_refl _, by omega, by omega, (six_fresh w3 0 (15 + y)).mono (by omega) (by simp), below_rdS (grown_step (grown_two G1.out K3.out) (grown_alloc w3 _ none) (fun g e => by cases e))⟩
  · have d0 : (x == 0) = false := beq_eq_false_iff_ne.2 c0
    clear c0
    by_cases hn1 : (1 : Int) < (n : Int)
    · have hn1' : 1 < n := by omega
      go_wp2_with fail
      (with_reducible refine (pick_any w.heap.size A b2 cap (q + 1) 2 _ HR2.out (HB.out _ G2.out) (by omega) (by omega) hl2 (by omega) (by omega)).mono ?_)
      rintro e w3 ⟨y, hy0, hy1, rfl, hR3, hg3⟩
      have HR3 := hide hR3
      have G3 := hide (grown_two G2.out hg3)
      have K3 := hide (grown_two K2.out hg3)
      clear hR3 hg3
      by_cases c1 : y = 0
      · subst c1
        have F3 := H6.out.carryG K3.out (by omega) (Nat.le_refl _)
        obtain ⟨b, off, rfl, hb0, hb1, hcc⟩ := F3 (by omega)
        obtain ⟨p1, -⟩ := hcc 1 (by omega)
        obtain ⟨p2, -⟩ := hcc 2 (by omega)
        obtain ⟨p4, f4⟩ := hcc 4 (by omega)
        have P1 := F3.put (show 4 < fl.length by omega) (at0 fl 1)
        obtain ⟨b', off', e', -, -, hc2⟩ := P1 (by simp; omega)
        cases e'
        obtain ⟨q2, -⟩ := hc2 2 (by simp; omega)
        obtain ⟨q5, g5⟩ := hc2 5 (by simp; omega)
        have e2 : at0 (fl.set 4 (at0 fl 1)) 2 = at0 fl 2 := by simp [at0, List.getElem?_set]
        rw [e2] at q2
        have P2 := hide (P1.put (j := 5) (by simp; omega) (at0 fl 2))
        have HB0 := hide hb0
        have z3 := hide K3.out.size
        have hb3 : b < w3.heap.size := by have := K3.out.size; omega
        have HS := hide (show (((w3.setCell ⟨b, off + 4, none⟩ (.int .i64 (at0 fl 1))).setCell ⟨b, off + 5, none⟩ (.int .i64 (at0 fl 2))).heap.size = w3.heap.size) by simp [World.setCell])
        clear F3 hcc P1 hc2 e2
        go_wp2
        go_ret
        refine ⟨_, c, (fl.set 4 (at0 fl 1)).set 5 (at0 fl 2), n, rfl, by simp [h2], h3, h4, h5, P2.out.mono (by omega) (by rw [HS.out]; exact z3.out), below_rdS (grown_step (grown_step (grown_two G1.out K3.out) (grownBy_put _ _ _ _) (fun g e => .inr (by injection e with e; rw [← e]; exact HB0.out))) (grownBy_put _ _ _ _) (fun g e => .inr (by injection e with e; rw [← e]; exact HB0.out)))⟩
      · have d1 : (y == 0) = false := beq_eq_false_iff_ne.2 c1
        clear c1
        go_wp2
        go_ret
        exact FIN.out _ K3.out
    · go_wp2
      go_ret
      exact FIN.out _ K2.out
end Go.Proofs.Ytglknakgfnoeaaa
