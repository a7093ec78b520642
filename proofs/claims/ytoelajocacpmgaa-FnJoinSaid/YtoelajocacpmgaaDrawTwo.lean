/-
  WALKS: the draws of a floor and two points; of a floor and a length.
-/
import Derived.Test.YtoelajocacpmgaaDrawsFloor
namespace Go.Proofs.Ytoelajocacpmgaa
set_option linter.unusedVariables false
set_option linter.unusedSimpArgs false
open Go.RowKit

/-- A new list of bounded numbers comes back, and two small numbers. -/
def DrawTwo (w : World) (R : Nat) (e : Ending) (w' : World) : Prop :=
  ∃ A' xs c a b, e = .returned (.tuple #[.slice A' xs.length c, .int .i64 a, .int .i64 b]) ∧ xs.length ≤ c ∧ c ≤ 9223372036854775807 ∧ Bded 17 41 xs ∧ Fresh w' w.heap.size w'.heap.size A' xs ∧ (-100 ≤ a ∧ a ≤ 100) ∧ (-100 ≤ b ∧ b ≤ 100) ∧ w.grownBy w' (some R)

theorem two_ret {w wr w' : World} {R : Nat} {A' : Option Addr} {xs : List Int} {c : Nat} {a b : Int} (h1 : xs.length ≤ c) (h2 : c ≤ 9223372036854775807) (h3 : Bded 17 41 xs) (h4 : Fresh wr w.heap.size wr.heap.size A' xs) (hg : w.grownBy wr (some R)) (hR : R < w.heap.size)
    (hg' : wr.grownBy w' (some R)) (ha : -100 ≤ a ∧ a ≤ 100) (hb : -100 ≤ b ∧ b ≤ 100) : DrawTwo w R (.returned (.tuple #[.slice A' xs.length c, .int .i64 a, .int .i64 b])) w' :=
  ⟨A', xs, c, a, b, rfl, h1, h2, h3, fun hp => by
    obtain ⟨g, off, e, g1, g2, hc⟩ := h4 hp
    refine ⟨g, off, e, g1, Nat.lt_of_lt_of_le g2 hg'.size, fun j hj => ?_⟩
    have hbl : w'.heap[g]? = wr.heap[g]? := hg'.block g g2 (fun e => by injection e with e; omega)
    exact ⟨(World.cell?_of_block (a := ⟨g, off + j, none⟩) hbl).trans (hc j hj).1, (World.frozen?_of_block (a := ⟨g, off + j, none⟩) hbl).trans (hc j hj).2⟩, ha, hb, grown_step hg hg' (fun g e => by injection e with e; exact .inl e.symm)⟩

set_option maxRecDepth 100000 in
set_option maxHeartbeats 4000000 in
theorem l91Two_any (R : Nat) (A : Option Addr) (bs : List Int) (cap : Nat) (p : Int) (w : World) (hR : Rd w R A bs.length cap p) (hB : Byts w R A bs) (hp0 : 0 ≤ p) (hp : p ≤ 800000) (hl : bs.length ≤ 2000) :
    Calls Try.prog 67 #[.pointer (some ⟨R, 0, none⟩)] w (DrawTwo w R) := by
  have hRw := hR.lt
  have HR := hide hR
  have HB := hide (fun (W : World) (hg : w.grownBy W (some R)) => hB.grown hg hRw)
  have HB0 := hide hB
  clear hR hB
  go_enter Try.func67, Try.ntmps67
  go_wp2_with fail
  (with_reducible refine (l91Floor_any R A bs cap p 7 _ HR.out HB0.out hp0 (by omega) hl (by omega) (by omega)).mono ?_)
  rintro e w1 ⟨D, xs, c, q, rfl, h1, h2, h3, h4, hR1, hq0, hq1, hg1⟩
  have HR1 := hide hR1
  have H3 := hide h3
  have H4 := hide h4
  have G1 := hide hg1
  have hxl := h3.1
  clear hR1 h3 h4 hg1
  by_cases h0 : (1 : Int) < (xs.length : Int)
  all_goals
    go_wp2_with fail
    (with_reducible refine (pick_any R A bs cap q _ _ HR1.out (HB.out _ G1.out) (by omega) (by omega) hl (by omega) (by omega)).mono ?_)
    rintro e w2 ⟨fr, hf0, hf1, rfl, hR2, hg2⟩
    have HR2 := hide hR2
    have G2 := hide (grown_step G1.out hg2 (fun g e => by injection e with e; exact .inl e.symm))
    have K2 := hide hg2
    clear hR2 hg2
    go_wp2_with fail
    (with_reducible refine (pick_any R A bs cap (q + 1) 16 _ HR2.out (HB.out _ G2.out) (by omega) (by omega) hl (by omega) (by omega)).mono ?_)
    rintro e w3 ⟨x, hx0, hx1, rfl, hR3, hg3⟩
    have HR3 := hide hR3
    have G3 := hide (grown_step G2.out hg3 (fun g e => by injection e with e; exact .inl e.symm))
    have K3 := hide (grown_two K2.out hg3)
    clear hR3 hg3
    by_cases c0 : x = 0
    · subst c0
      go_wp2
      go_ret3
      exact two_ret h1 h2 H3.out H4.out G1.out hRw K3.out (by omega) (by omega)
    · by_cases c1 : x = 1
      · subst c1
        go_wp2
        go_ret3
        exact two_ret h1 h2 H3.out H4.out G1.out hRw K3.out (by omega) (by omega)
      · by_cases c2 : x = 2
        · subst c2
          clear c0 c1
          go_wp2
          go_ret3
          exact two_ret h1 h2 H3.out H4.out G1.out hRw K3.out (by omega) (by omega)
        · have d0 : (x == 0) = false := beq_eq_false_iff_ne.2 c0
          have d1 : (x == 1) = false := beq_eq_false_iff_ne.2 c1
          have d2 : (x == 2) = false := beq_eq_false_iff_ne.2 c2
          clear c0 c1 c2
          go_wp2_with fail
          (with_reducible refine (pick_any R A bs cap (q + 1 + 1) _ _ HR3.out (HB.out _ G3.out) (by omega) (by omega) hl (by omega) (by omega)).mono ?_)
          rintro e w4 ⟨y, hy0, hy1, rfl, hR4, hg4⟩
          have K4 := hide (grown_two K3.out hg4)
          clear hR4 hg4
          go_wp2
          go_ret3
          exact two_ret h1 h2 H3.out H4.out G1.out hRw K4.out (by omega) (by omega)
/-- .. with a reader of its own. -/
def DrawTri (w : World) (e : Ending) (w' : World) : Prop :=
  ∃ A' c xs a b, e = .returned (.tuple #[.slice A' xs.length c, .int .i64 a, .int .i64 b]) ∧ xs.length ≤ c ∧ c ≤ 9223372036854775807 ∧ Bded 17 41 xs ∧ Fresh w' w.heap.size w'.heap.size A' xs ∧ (-100 ≤ a ∧ a ≤ 100) ∧ (-100 ≤ b ∧ b ≤ 100) ∧ Below w.heap.size w w'

set_option maxHeartbeats 800000 in
theorem drawFloorLength_any (A : Option Addr) (bs : List Int) (cap : Nat) (w : World) (hB : Byts w w.heap.size A bs) (hc : bs.length ≤ cap) (hn : cap ≤ 9223372036854775807) :
    Calls Try.prog 24 #[.slice A bs.length cap] w (DrawTri w) := by
  obtain ⟨b2, hb2⟩ : ∃ b2, b2 = bs.take 2000 := ⟨_, rfl⟩
  have hl2 : b2.length ≤ 2000 := by rw [hb2]; simp; omega
  have hB2 : Byts w w.heap.size A b2 := by rw [hb2]; exact hB.take 2000
  have HO := fun W => l6Open_any A bs cap W hc hn
  rw [← hb2] at HO
  have hO := hide HO
  have HB2 := hide (hB2.below ((Below.refl _ w).alloc (Nat.le_refl _) (.cells #[.slice A b2.length cap, .int .i64 0] 62)))
  clear HO hb2 hB hB2
  go_enter Try.func24, Try.ntmps24
  go_wp2_with fail
  refine (hO.out _).mono ?_
  rintro e w' ⟨rfl, rfl⟩
  go_wp2_with fail
  (with_reducible refine (l91Two_any w.heap.size A b2 cap 0 _ rd_new HB2.out (by omega) (by omega) hl2).mono ?_)
  rintro e w1 ⟨A', xs, c, a, b, rfl, h1, h2, h3, h4, h5, h6, hg⟩
  go_wp2
  go_ret3
  exact ⟨A', c, xs, a, b, rfl, h1, h2, h3, h4.mono (by simp) (Nat.le_refl _), h5, h6, below_rd hg⟩

set_option maxHeartbeats 800000 in
theorem drawFloorPart_any (A : Option Addr) (bs : List Int) (cap : Nat) (w : World) (hB : Byts w w.heap.size A bs) (hc : bs.length ≤ cap) (hn : cap ≤ 9223372036854775807) :
    Calls Try.prog 33 #[.slice A bs.length cap] w (DrawTri w) := by
  obtain ⟨b2, hb2⟩ : ∃ b2, b2 = bs.take 2000 := ⟨_, rfl⟩
  have hl2 : b2.length ≤ 2000 := by rw [hb2]; simp; omega
  have hB2 : Byts w w.heap.size A b2 := by rw [hb2]; exact hB.take 2000
  have HO := fun W => l6Open_any A bs cap W hc hn
  rw [← hb2] at HO
  have hO := hide HO
  have HB2 := hide (hB2.below ((Below.refl _ w).alloc (Nat.le_refl _) (.cells #[.slice A b2.length cap, .int .i64 0] 62)))
  clear HO hb2 hB hB2
  go_enter Try.func33, Try.ntmps33
  go_wp2_with fail
  refine (hO.out _).mono ?_
  rintro e w' ⟨rfl, rfl⟩
  go_wp2_with fail
  (with_reducible refine (l91Two_any w.heap.size A b2 cap 0 _ rd_new HB2.out (by omega) (by omega) hl2).mono ?_)
  rintro e w1 ⟨A', xs, c, a, b, rfl, h1, h2, h3, h4, h5, h6, hg⟩
  go_wp2
  go_ret3
  exact ⟨A', c, xs, a, b, rfl, h1, h2, h3, h4.mono (by simp) (Nat.le_refl _), h5, h6, below_rd hg⟩
end Go.Proofs.Ytoelajocacpmgaa
