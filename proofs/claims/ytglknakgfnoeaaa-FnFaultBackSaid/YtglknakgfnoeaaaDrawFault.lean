/-
  WALKS: the draw of a cable and a fault.
-/
import Derived.Test.YtglknakgfnoeaaaDrawMile
import Derived.Test.YtglknakgfnoeaaaFBox
namespace Go.Proofs.Ytglknakgfnoeaaa
set_option linter.unusedVariables false
set_option linter.unusedSimpArgs false
open Go.RowKit

theorem Fresh.carryU {w w' : World} {lo hi g : Nat} {A : Option Addr} {xs : List Int} (h : Fresh w lo hi A xs) (hg : w.grownBy w' (some g)) (hR : hi ≤ g) (hh : hi ≤ w.heap.size) : Fresh w' lo hi A xs := fun hp => by
  obtain ⟨b, off, e, h1, h2, hc⟩ := h hp
  refine ⟨b, off, e, h1, h2, fun j hj => ?_⟩
  have hb := hg.block b (by omega) (fun e => by injection e with e; omega)
  have := hc j hj
  exact ⟨(World.cell?_of_block (a := ⟨b, off + j, none⟩) hb).trans this.1, by have := this.2; simp only [World.frozen?] at this ⊢; rw [hb]; exact this⟩
/-- A new list of sections comes back, and a fault. -/
def DrawCF (w : World) (R : Nat) (e : Ending) (w' : World) : Prop :=
  ∃ A' fl k c a b, e = .returned (.tuple #[.slice A' k c, .agg #[.int .i64 a, .int .i64 b]]) ∧ fl.length = k * 3 ∧ k ≤ c ∧ c ≤ 9223372036854775807 ∧ k ≤ 11 ∧ (-1 ≤ a ∧ a ≤ 401 ∧ -1 ≤ b ∧ b ≤ 1001) ∧ Fresh w' w.heap.size w'.heap.size A' fl ∧ w.grownBy w' (some R)
theorem four_cellF {w : World} {g y : Nat} {a b c d : Int} (h : w.heap[g]? = some (.cells #[.int .i64 a, .int .i64 b, .int .i64 c, .int .i64 d] 3 (0, 0))) (hy : y < 4) : w.cell? ⟨g, y, none⟩ = some (.int .i64 (at0 [a, b, c, d] y)) := by
  rw [cell_of_row w g y _ _ _ h]
  match y, hy with
  | 0, _ => rfl
  | 1, _ => rfl
  | 2, _ => rfl
  | 3, _ => rfl

set_option maxRecDepth 100000 in
set_option maxHeartbeats 4000000 in
theorem l91Fault_any (R : Nat) (A : Option Addr) (bs : List Int) (cap : Nat) (p : Int) (w : World) (hR : Rd w R A bs.length cap p) (hB : Byts w R A bs) (hp0 : 0 ≤ p) (hp : p ≤ 700000) (hl : bs.length ≤ 2000) :
    Calls Try.prog 50 #[.pointer (some ⟨R, 0, none⟩)] w (DrawCF w R) := by
  have hRw := hR.lt
  have HR0 := hide (hR.alloc (.cells #[.int .i64 0, .int .i64 0] 32))
  have HB := hide (fun (W : World) (hg : w.grownBy W (some R)) => hB.grown hg hRw)
  have G0 := hide (grown_alloc w (.cells #[.int .i64 0, .int .i64 0] 32) (some R))
  have V0 : FBox (w.alloc (.cells #[.int .i64 0, .int .i64 0] 32)) w.heap.size 0 0 := heap_alloc_new w _
  have hne : some w.heap.size ≠ some R := fun e => by injection e with e; omega
  clear hR hB
  go_enter Try.func50, Try.ntmps50
  go_wp2_with fail
  (with_reducible refine (l91Mile_any R A bs cap p _ HR0.out (HB.out _ G0.out) hp0 (by omega) hl).mono ?_)
  rintro e w1 ⟨D, fl, n, c, a, q, rfl, h2, h3, h4, h5, ⟨a0, a1⟩, h6, hR1, hq0, hq1, hg1⟩
  have HR1 := hide hR1
  have H6 := hide h6
  have G1 := hide (grown_two G0.out hg1)
  have V1 := V0.grown hg1 hne
  have hz0 : w.heap.size < (w.alloc (.cells #[.int .i64 0, .int .i64 0] 32)).heap.size := by simp
  have hz1 := hg1.size
  clear hR1 h6 hg1 V0
  go_wp2_with fail
  (with_reducible refine (pick_any R A bs cap q 40 _ HR1.out (HB.out _ G1.out) (by omega) (by omega) hl (by omega) (by omega)).mono ?_)
  rintro e w2 ⟨y, hy0, hy1, rfl, hR2, hg2⟩
  have HR2 := hide (hR2.alloc (.cells #[.int .i64 a, .int .i64 y] 32))
  have G2 := hide (grown_two (grown_two G1.out hg2) (grown_alloc w2 (.cells #[.int .i64 a, .int .i64 y] 32) (some R)))
  have V2 := (V1.grown hg2 hne).alloc (.cells #[.int .i64 a, .int .i64 y] 32)
  have F2 : FBox (w2.alloc (.cells #[.int .i64 a, .int .i64 y] 32)) w2.heap.size a y := heap_alloc_new w2 _
  have H62 := hide ((H6.out.carryG hg2 (by omega) (Nat.le_refl _)).carryG (grown_alloc w2 (.cells #[.int .i64 a, .int .i64 y] 32) (some R)) (by omega) hg2.size)
  have hz2 := hg2.size
  have hne2 : some w2.heap.size ≠ some R := fun e => by injection e with e; omega
  have hvf : w.heap.size ≠ w2.heap.size := by omega
  clear hR2 hg2 V1
  go_wp2_with fail
  (with_reducible refine (pick_any R A bs cap (q + 1) 16 _ HR2.out (HB.out _ G2.out) (by omega) (by omega) hl (by omega) (by omega)).mono ?_)
  rintro e w3 ⟨x, hx0, hx1, rfl, hR3, hg3⟩
  have HR3 := hide hR3
  have G3 := hide (grown_two G2.out hg3)
  have V3 := V2.grown hg3 hne
  have F3 := F2.grown hg3 hne2
  have hz3 : w2.heap.size < w3.heap.size := F3.lt
  have H63 := hide (H62.out.carryG hg3 (by omega) (by simp; omega))
  clear hR3 hg3 V2 F2
  have fin : ∀ (Y : World) (a' b' : Int), FBox Y w.heap.size 0 0 → Fresh Y (w.alloc (.cells #[.int .i64 0, .int .i64 0] 32)).heap.size w1.heap.size D fl → w.grownBy Y (some R) → (-1 ≤ a' ∧ a' ≤ 401 ∧ -1 ≤ b' ∧ b' ≤ 1001) ∧ w1.heap.size ≤ Y.heap.size →
      DrawCF w R (.returned (.tuple #[.slice D n c, .agg #[.int .i64 a', .int .i64 b']])) ((Y.setCell ⟨w.heap.size, 0, none⟩ (.int .i64 a')).setCell ⟨w.heap.size, 1, none⟩ (.int .i64 b')).drew := by
    intro Y a' b' hV hF hG ⟨hb, hs⟩
    have g1 := grownBy_put Y w.heap.size 0 (.int .i64 a')
    have g2 := grownBy_put (Y.setCell ⟨w.heap.size, 0, none⟩ (.int .i64 a')) w.heap.size 1 (.int .i64 b')
    have hF2 := (hF.carryG g1 (by omega) hs).carryG g2 (by omega) (by simpa [World.setCell] using hs)
    have hF3 : Fresh ((Y.setCell ⟨w.heap.size, 0, none⟩ (.int .i64 a')).setCell ⟨w.heap.size, 1, none⟩ (.int .i64 b')).drew (w.alloc (.cells #[.int .i64 0, .int .i64 0] 32)).heap.size w1.heap.size D fl := hF2
    have G := grown_step (grown_step hG g1 (fun g e => .inr (by injection e with e; omega))) g2 (fun g e => .inr (by injection e with e; omega))
    exact ⟨D, fl, n, c, a', b', rfl, h2, h3, h4, h5, hb, hF3.mono (by omega) (by simpa [World.setCell, World.drew] using hs), ⟨G.os, G.tape, G.output, G.size, G.block⟩⟩
  have FIN := hide fin
  clear fin
  by_cases c0 : x = 0
  · subst c0
    have HRa := hide (HR3.out.alloc (.cells #[.int .i64 (-1), .int .i64 1000, .int .i64 1001, .int .i64 0] 3))
    have Ga := hide (grown_two G3.out (grown_alloc w3 (.cells #[.int .i64 (-1), .int .i64 1000, .int .i64 1001, .int .i64 0] 3) (some R)))
    have Va := V3.alloc (.cells #[.int .i64 (-1), .int .i64 1000, .int .i64 1001, .int .i64 0] 3)
    have Fa := F3.alloc (.cells #[.int .i64 (-1), .int .i64 1000, .int .i64 1001, .int .i64 0] 3)
    have H6a := hide (H63.out.carryG (grown_alloc w3 (.cells #[.int .i64 (-1), .int .i64 1000, .int .i64 1001, .int .i64 0] 3) (some R)) (by omega) (by omega))
    clear V3 F3
    go_wp2_with fail
    (with_reducible refine (pick_any R A bs cap (q + 1 + 1) 4 _ HRa.out (HB.out _ Ga.out) (by omega) (by omega) hl (by omega) (by omega)).mono ?_)
    rintro e w5 ⟨j, hj0, hj1, rfl, hR5, hg5⟩
    obtain ⟨j, rfl⟩ := Int.eq_ofNat_of_zero_le hj0
    have hj4 : j < 4 := by omega
    have hb5 : w5.heap[w3.heap.size]? = some (.cells #[.int .i64 (-1), .int .i64 1000, .int .i64 1001, .int .i64 0] 3 (0, 0)) := (hg5.block w3.heap.size (by simp) (fun e => by injection e with e; omega)).trans (heap_alloc_new w3 _)
    have hcj := four_cellF hb5 hj4
    have hbd : -1 ≤ at0 [-1, 1000, 1001, 0] j ∧ at0 [-1, 1000, 1001, 0] j ≤ 1001 := by
      match j, hj4 with
      | 0, _ => exact ⟨by decide, by decide⟩
      | 1, _ => exact ⟨by decide, by decide⟩
      | 2, _ => exact ⟨by decide, by decide⟩
      | 3, _ => exact ⟨by decide, by decide⟩
    have V5 := Va.grown hg5 hne
    have F5 := Fa.grown hg5 hne2
    have G5 := hide (grown_two Ga.out hg5)
    have H65 := hide (H6a.out.carryG hg5 (by omega) (by simp; omega))
    have hz5 := F5.lt
    obtain ⟨b5, hb5'⟩ : ∃ b5, b5 = at0 [-1, 1000, 1001, 0] j := ⟨_, rfl⟩
    rw [← hb5'] at hcj hbd
    obtain ⟨d0, d1⟩ := F5.cells
    obtain ⟨t0, t1⟩ := F5.free
    have V6 := V5.other (g' := w2.heap.size) (j := 1) hvf (.int .i64 b5)
    have F6 := F5.set1 b5
    have G6 := hide (grown_step G5.out (grownBy_put w5 w2.heap.size 1 (.int .i64 b5)) (fun g e => .inr (by injection e with e; omega)))
    have H66 := hide (H65.out.carryU (grownBy_put w5 w2.heap.size 1 (.int .i64 b5)) (by omega) (by omega))
    have HZ := hide (show w1.heap.size ≤ (w5.setCell ⟨w2.heap.size, 1, none⟩ (.int .i64 b5)).heap.size by simp [World.setCell]; omega)
    have hj4' : (j : Int) < 4 := by omega
    clear hb5' hb5 hR5 hg5 Va Fa hj1
    obtain ⟨r0, r1⟩ := V6.cells
    obtain ⟨f0, f1⟩ := V6.free
    obtain ⟨l0, l1⟩ := F6.cells
    go_wp2_with fail
    go_region
    go_wp2
    obtain ⟨s0, s1⟩ := two_set (a := .int .i64 a) (b := .int .i64 b5) r0 r1
    refine bodyPost_ret (v := .tuple #[.slice D n c, .agg #[.int .i64 a, .int .i64 b5]]) (by simp [results, Try.results50, go_sem, s0, s1]) rfl ?_
    exact FIN.out _ _ _ V6 H66.out G6.out ⟨⟨a0, a1, hbd.1, hbd.2⟩, HZ.out⟩
  · have e0 : (x == 0) = false := beq_eq_false_iff_ne.2 c0
    clear c0
    obtain ⟨r0, r1⟩ := V3.cells
    obtain ⟨f0, f1⟩ := V3.free
    obtain ⟨l0, l1⟩ := F3.cells
    go_wp2_with fail
    go_region
    go_wp2
    obtain ⟨s0, s1⟩ := two_set (a := .int .i64 a) (b := .int .i64 y) r0 r1
    refine bodyPost_ret (v := .tuple #[.slice D n c, .agg #[.int .i64 a, .int .i64 y]]) (by simp [results, Try.results50, go_sem, s0, s1]) rfl ?_
    exact FIN.out _ _ _ V3 H63.out G3.out ⟨⟨a0, a1, by omega, by omega⟩, by omega⟩
/-- .. with a reader of its own. -/
def DrawCabF (w : World) (e : Ending) (w' : World) : Prop :=
  ∃ A' c fl k a b, e = .returned (.tuple #[.slice A' k c, .agg #[.int .i64 a, .int .i64 b]]) ∧ fl.length = k * 3 ∧ k ≤ c ∧ c ≤ 9223372036854775807 ∧ k ≤ 11 ∧ (-1 ≤ a ∧ a ≤ 401 ∧ -1 ≤ b ∧ b ≤ 1001) ∧ Fresh w' w.heap.size w'.heap.size A' fl ∧ Below w.heap.size w w'
set_option maxHeartbeats 1600000 in
theorem drawFaultBack_any (A : Option Addr) (bs : List Int) (cap : Nat) (w : World) (hB : Byts w w.heap.size A bs) (hc : bs.length ≤ cap) (hn : cap ≤ 9223372036854775807) :
    Calls Try.prog 23 #[.slice A bs.length cap] w (DrawCabF w) := by
  obtain ⟨b2, hb2⟩ : ∃ b2, b2 = bs.take 2000 := ⟨_, rfl⟩
  have hl2 : b2.length ≤ 2000 := by rw [hb2]; simp; omega
  have hB2 : Byts w w.heap.size A b2 := by rw [hb2]; exact hB.take 2000
  have HO := fun W => l6Open_any A bs cap W hc hn
  rw [← hb2] at HO
  have hO := hide HO
  have B1 := (Below.refl w.heap.size w).alloc (Nat.le_refl _) (.cells #[.int .i64 0, .int .i64 0] 32)
  have B2 := hide (B1.alloc (show w.heap.size ≤ _ by simp) (.cells #[.slice A b2.length cap, .int .i64 0] 68))
  have HB2 := hide ((hB2.below B2.out).mono (show w.heap.size ≤ w.heap.size + 1 by omega))
  have V0 := hide ((show FBox (w.alloc (.cells #[.int .i64 0, .int .i64 0] 32)) w.heap.size 0 0 from heap_alloc_new w _).alloc (.cells #[.slice A b2.length cap, .int .i64 0] 68))
  have HR := hide (show Rd ((w.alloc (.cells #[.int .i64 0, .int .i64 0] 32)).alloc (.cells #[.slice A b2.length cap, .int .i64 0] 68)) (w.heap.size + 1) A b2.length cap 0 from by
    have := rd_newS (w := w.alloc (.cells #[.int .i64 0, .int .i64 0] 32)) (A := A) (n := b2.length) (cap := cap) (p := 0)
    rwa [World.size_alloc] at this)
  clear HO hb2 hB hB2 B1
  go_enter Try.func23, Try.ntmps23
  go_wp2_with fail
  refine (hO.out _).mono ?_
  rintro e w' ⟨rfl, rfl⟩
  go_wp2_with fail
  (with_reducible refine (l91Fault_any (w.heap.size + 1) A b2 cap 0 _ HR.out HB2.out (by omega) (by omega) hl2).mono ?_)
  rintro e w1 ⟨D, fl, n, c, a, b, rfl, h2, h3, h4, h5, hb, h6, hg⟩
  have V1 := V0.out.grown hg (fun e => by injection e with e; omega)
  obtain ⟨r0, r1⟩ := V1.cells
  obtain ⟨f0, f1⟩ := V1.free
  have H6 := hide h6
  have G := hide hg
  have hs := V1.lt
  clear h6 hg
  go_wp2
  obtain ⟨s0, s1⟩ := two_set (a := .int .i64 a) (b := .int .i64 b) r0 r1
  refine bodyPost_ret (v := .tuple #[.slice D n c, .agg #[.int .i64 a, .int .i64 b]]) (by simp [results, Try.results23, go_sem, s0, s1]) rfl ?_
  have g1 := grownBy_put w1 w.heap.size 0 (.int .i64 a)
  have g2 := grownBy_put (w1.setCell ⟨w.heap.size, 0, none⟩ (.int .i64 a)) w.heap.size 1 (.int .i64 b)
  have hsz : w.heap.size < ((w.alloc (.cells #[.int .i64 0, .int .i64 0] 32)).alloc (.cells #[.slice A b2.length cap, .int .i64 0] 68)).heap.size := by simp only [World.size_alloc]; omega
  have hF2 := (H6.out.carryG g1 hsz (Nat.le_refl _)).carryG g2 hsz (by simp [World.setCell])
  refine ⟨D, c, fl, n, a, b, rfl, h2, h3, h4, h5, hb, hF2.mono (by omega) (by simp [World.setCell]), ?_⟩
  exact ((B2.out.grown G.out (by simp; omega) (fun g e => by injection e with e; omega)).grown g1 (by omega) (fun g e => by injection e with e; omega)).grown g2 (by simp [World.setCell]; omega) (fun g e => by injection e with e; omega)
end Go.Proofs.Ytglknakgfnoeaaa
