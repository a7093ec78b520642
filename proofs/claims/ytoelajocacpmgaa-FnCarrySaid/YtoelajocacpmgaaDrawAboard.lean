/-
  WALKS: the draws of a floor and a length.
-/
import Derived.Test.YtoelajocacpmgaaDrawPay
import Derived.Deep.DeepCutAuto
import Derived.Deep.RegionWith
namespace Go.Proofs.Ytoelajocacpmgaa
set_option linter.unusedVariables false
set_option linter.unusedSimpArgs false
open Go.RowKit

/-- A new list of bounded numbers comes back, and a number. -/
def DrawLen (w : World) (R : Nat) (e : Ending) (w' : World) : Prop :=
  ∃ A' xs c a, e = .returned (.tuple #[.slice A' xs.length c, .int .i64 a]) ∧ (xs.length ≤ c ∧ c ≤ 9223372036854775807) ∧ Bded 17 41 xs ∧ Fresh w' w.heap.size w'.heap.size A' xs ∧ (-1 ≤ a ∧ a ≤ 1001) ∧ w.grownBy w' (some R)

theorem len_ret {w wr w' : World} {R : Nat} {A' : Option Addr} {xs : List Int} {c : Nat} {a : Int} (h1 : xs.length ≤ c ∧ c ≤ 9223372036854775807) (h3 : Bded 17 41 xs) (h4 : Fresh wr w.heap.size wr.heap.size A' xs) (hg : w.grownBy wr (some R)) (hR : R < w.heap.size)
    (hg' : wr.grownBy w' (some R)) (ha : -1 ≤ a ∧ a ≤ 1001) : DrawLen w R (.returned (.tuple #[.slice A' xs.length c, .int .i64 a])) w' :=
  ⟨A', xs, c, a, rfl, h1, h3, (h4.carry hg' (Nat.le_refl _) hR).mono (Nat.le_refl _) hg'.size, ha, grown_two hg hg'⟩

theorem four_cell {w : World} {g : Nat} {y : Nat} {a b c d : Int} (h : w.heap[g]? = some (.cells #[.int .i64 a, .int .i64 b, .int .i64 c, .int .i64 d] 3 (0, 0))) (hy : y < 4) : w.cell? ⟨g, y, none⟩ = some (.int .i64 (at0 [a, b, c, d] y)) := by
  rw [cell_of_row w g y _ _ _ h]
  match y, hy with
  | 0, _ => rfl
  | 1, _ => rfl
  | 2, _ => rfl
  | 3, _ => rfl

set_option maxRecDepth 100000 in
set_option maxHeartbeats 4000000 in
theorem l91Aboard_any (R : Nat) (A : Option Addr) (bs : List Int) (cap : Nat) (p : Int) (w : World) (hR : Rd w R A bs.length cap p) (hB : Byts w R A bs) (hp0 : 0 ≤ p) (hp : p ≤ 800000) (hl : bs.length ≤ 2000) :
    Calls Try.prog 77 #[.pointer (some ⟨R, 0, none⟩)] w (DrawLen w R) := by
  have hRw := hR.lt
  have HR := hide hR
  have HB := hide (fun (W : World) (hg : w.grownBy W (some R)) => hB.grown hg hRw)
  have HB0 := hide hB
  clear hR hB
  go_enter Try.func77, Try.ntmps77
  go_wp2_with fail
  (with_reducible refine (l91Floor_any R A bs cap p 7 _ HR.out HB0.out hp0 (by omega) hl (by omega) (by omega)).mono ?_)
  rintro e w1 ⟨D, xs, c, q, rfl, h1, h2, h3, h4, hR1, hq0, hq1, hg1⟩
  have HR1 := hide hR1
  have H3 := hide h3
  have H4 := hide h4
  have G1 := hide hg1
  clear hR1 h3 h4 hg1
  go_wp2_with fail
  (with_reducible refine (pick_any R A bs cap q 12 _ HR1.out (HB.out _ G1.out) (by omega) (by omega) hl (by omega) (by omega)).mono ?_)
  rintro e w2 ⟨x, hx0, hx1, rfl, hR2, hg2⟩
  have HR2 := hide hR2
  have G2 := hide (grown_step G1.out hg2 (fun g e => by injection e with e; exact .inl e.symm))
  have K2 := hide hg2
  have hRw2 : R < w2.heap.size := by have := G2.out.size; omega
  clear hR2 hg2
  by_cases c0 : x = 0
  · subst c0
    have HP := hide (show ∀ W, w2.grownBy W (some R) → Rd W R A bs.length cap (q + 1) → Calls Try.prog 80 #[.pointer (some ⟨R, 0, none⟩), .int .i64 4] W fun e w' => ∃ y : Nat, y < 4 ∧ e = .returned (.int .i64 (y : Int)) ∧ W.grownBy w' (some R) ∧ w'.heap.size = W.heap.size from fun W hW hRW =>
      (pick_exact R A bs cap (q + 1) 4 W hRW (HB.out _ (grown_two G2.out hW)) (by omega) (by omega) hl (by omega) (by omega)).mono (by
        rintro e w' ⟨y, n, hy0, hy1, rfl, rfl⟩
        obtain ⟨y, rfl⟩ := Int.eq_ofNat_of_zero_le hy0
        exact ⟨y, by omega, rfl, grownBy_drewN (grownBy_set _ _ _ _) n, by simp [World.setCell, World.drewN]⟩))
    have hbd : ∀ y : Nat, y < 4 → -1 ≤ at0 [-1, 0, 1000, 1001] y ∧ at0 [-1, 0, 1000, 1001] y ≤ 1001 := fun y hy => by
      match y, hy with
      | 0, _ => exact ⟨by decide, by decide⟩
      | 1, _ => exact ⟨by decide, by decide⟩
      | 2, _ => exact ⟨by decide, by decide⟩
      | 3, _ => exact ⟨by decide, by decide⟩
    have HBd := hide hbd
    have h4y : ∀ y : Nat, y < 4 → (#[Value.int .i64 (-1), Value.int .i64 0, Value.int .i64 1000, Value.int .i64 1001] : Array Value)[y]? = some (.int .i64 (at0 [-1, 0, 1000, 1001] y)) := fun y hy => by
      match y, hy with
      | 0, _ => rfl
      | 1, _ => rfl
      | 2, _ => rfl
      | 3, _ => rfl
    have H4y := hide h4y
    clear hbd h4y
    go_wp2_with fail
    refine wp_region_any (by kernel_rfl) ?_
    try (change wpAny _ _ _ _ _ _ _ (World.drew _))
    refine wpAny_take (i := 0) (v := ?_) rfl (by kernel_rfl) (by kernel_rfl) (by kernel_rfl) (fun _ _ _ h => h) (Or.inl ⟨by kernel_rfl, ?_⟩) ?_
    rotate_left
    · intro w
      go_simp
      try with_reducible rfl
    try simp only [List.getElem_toArray, List.getElem_cons_succ, List.getElem_cons_zero]
    refine wpAny_take (i := 2) (v := ?_) rfl (by kernel_rfl) (by kernel_rfl) (by kernel_rfl) (fun _ _ _ h => h) (Or.inl ⟨by kernel_rfl, ?_⟩) ?_
    rotate_left
    · intro w
      go_simp
      try with_reducible rfl
    try simp only [List.getElem_toArray, List.getElem_cons_succ, List.getElem_cons_zero]
    refine wpAny_ready (rs := [1, 3]) (by kernel_rfl) (by simp) ?_
    refine AllReady.cons rfl (fun K hK => ?_) (AllReady.cons rfl (fun K hK => ?_) AllReady.nil)
    · go_simp
      refine hK _ _ ?_
      clear hK K
      refine wpAny_ready (rs := [3]) (by kernel_rfl) (by simp) ?_
      refine AllReady.cons rfl (fun K hK => ?_) AllReady.nil
      go_simp
      refine (HP.out _ ?_ ?_).mono ?_
      · exact ⟨rfl, rfl, rfl, by simp, fun k hk _ => by first | rfl | exact Below.heap_alloc w2 _ k hk⟩
      · first | exact HR2.out | exact HR2.out.alloc _
      rintro e w3 ⟨y, hy, rfl, hg3, hz3⟩
      refine hK _ _ ?_
      clear hK K
      have e1 : (y : Int) < 4 := by omega
      have e2 : (0 : Int) ≤ (y : Int) := by omega
      refine wpAny_take (i := 6) (v := ?_) rfl (by kernel_rfl) (by decide +kernel) (by decide +kernel) (fun _ _ _ h => h) (Or.inl ⟨by kernel_rfl, ?_⟩) ?_
      rotate_left
      · intro w
        go_simp
        try with_reducible rfl
      try simp only [List.getElem_toArray, List.getElem_cons_succ, List.getElem_cons_zero]
      have hb3 : w3.heap[w2.heap.size]? = some (.cells #[.int .i64 (-1), .int .i64 0, .int .i64 1000, .int .i64 1001] 3 (0, 0)) := (hg3.block w2.heap.size (by simp) (fun e => by injection e with e; omega)).trans (heap_alloc_new w2 _)
      have hc3 := four_cell hb3 hy
      have HG3 := hide hg3
      clear hb3 hg3 hz3
      refine wpAny_ready (rs := [4]) (by decide +kernel) (by simp) ?_
      refine AllReady.cons rfl (fun K hK => ?_) AllReady.nil
      go_simp
      refine hK _ _ ?_
      clear hK K
      refine wpAny_ready (rs := [5]) (by decide +kernel) (by simp) ?_
      refine AllReady.cons rfl (fun K hK => ?_) AllReady.nil
      go_simp
      refine hK _ _ ?_
      clear hK K
      refine wpAny_ready (rs := [7]) (by decide +kernel) (by simp) ?_
      refine AllReady.cons rfl (fun K hK => ?_) AllReady.nil
      go_simp
      refine hK _ _ ?_
      clear hK K
      refine wpAny_done (by decide +kernel) ?_ _
      go_simp
      go_wp2
      go_ret2
      have hb := HBd.out y hy
      exact len_ret ⟨h1, h2⟩ H3.out H4.out G1.out hRw (grown_two K2.out (grown_two (show w2.grownBy (w2.alloc _).drew (some R) from ⟨rfl, rfl, rfl, by simp, fun k hk _ => Below.heap_alloc w2 _ k hk⟩) HG3.out)) hb
    · go_simp
      refine (HP.out _ ?_ ?_).mono ?_
      · exact ⟨rfl, rfl, rfl, by simp, fun k hk _ => by first | rfl | exact Below.heap_alloc w2 _ k hk⟩
      · first | exact HR2.out | exact HR2.out.alloc _
      rintro e w3 ⟨y, hy, rfl, hg3, hz3⟩
      refine hK _ _ ?_
      clear hK K
      have e1 : (y : Int) < 4 := by omega
      have e2 : (0 : Int) ≤ (y : Int) := by omega
      refine wpAny_take (i := 6) (v := ?_) rfl (by kernel_rfl) (by decide +kernel) (by decide +kernel) (fun _ _ _ h => h) (Or.inl ⟨by kernel_rfl, ?_⟩) ?_
      rotate_left
      · intro w
        go_simp
        try with_reducible rfl
      try simp only [List.getElem_toArray, List.getElem_cons_succ, List.getElem_cons_zero]
      have HG3 := hide hg3
      have hc3 := four_cell (heap_alloc_new w3 (.cells #[.int .i64 (-1), .int .i64 0, .int .i64 1000, .int .i64 1001] 3)) hy
      clear hg3 hz3
      refine wpAny_ready (rs := [1]) (by decide +kernel) (by simp) ?_
      refine AllReady.cons rfl (fun K hK => ?_) AllReady.nil
      go_simp
      refine hK _ _ ?_
      clear hK K
      refine wpAny_ready (rs := [4]) (by decide +kernel) (by simp) ?_
      refine AllReady.cons rfl (fun K hK => ?_) AllReady.nil
      go_simp
      refine hK _ _ ?_
      clear hK K
      refine wpAny_ready (rs := [5]) (by decide +kernel) (by simp) ?_
      refine AllReady.cons rfl (fun K hK => ?_) AllReady.nil
      go_simp
      refine hK _ _ ?_
      clear hK K
      refine wpAny_ready (rs := [7]) (by decide +kernel) (by simp) ?_
      refine AllReady.cons rfl (fun K hK => ?_) AllReady.nil
      go_simp
      refine hK _ _ ?_
      clear hK K
      refine wpAny_done (by decide +kernel) ?_ _
      go_simp
      go_wp2
      go_ret2
      have hb := HBd.out y hy
      exact len_ret ⟨h1, h2⟩ H3.out H4.out G1.out hRw (grown_two K2.out (grown_two (show w2.grownBy w2.drew (some R) from ⟨rfl, rfl, rfl, Nat.le_refl _, fun _ _ _ => rfl⟩) (grown_two HG3.out (grown_alloc w3 _ _)))) hb
  · have d0 : (x == 0) = false := beq_eq_false_iff_ne.2 c0
    clear c0
    go_wp2_with fail
    (with_reducible refine (pick_any R A bs cap (q + 1) 110 _ HR2.out (HB.out _ G2.out) (by omega) (by omega) hl (by omega) (by omega)).mono ?_)
    rintro e w3 ⟨y, hy0, hy1, rfl, hR3, hg3⟩
    have K3 := hide (grown_two K2.out hg3)
    clear hR3 hg3
    go_wp2
    go_ret2
    exact len_ret ⟨h1, h2⟩ H3.out H4.out G1.out hRw K3.out (by omega)

/-- .. with a reader of its own. -/
def DrawLens (w : World) (e : Ending) (w' : World) : Prop :=
  ∃ A' c xs a, e = .returned (.tuple #[.slice A' xs.length c, .int .i64 a]) ∧ (xs.length ≤ c ∧ c ≤ 9223372036854775807) ∧ Bded 17 41 xs ∧ Fresh w' w.heap.size w'.heap.size A' xs ∧ (-1 ≤ a ∧ a ≤ 1001) ∧ Below w.heap.size w w'

set_option maxHeartbeats 800000 in
theorem drawPayCarry_any (A : Option Addr) (bs : List Int) (cap : Nat) (w : World) (hB : Byts w w.heap.size A bs) (hc : bs.length ≤ cap) (hn : cap ≤ 9223372036854775807) :
    Calls Try.prog 51 #[.slice A bs.length cap] w (DrawLens w) := by
  obtain ⟨b2, hb2⟩ : ∃ b2, b2 = bs.take 2000 := ⟨_, rfl⟩
  have hl2 : b2.length ≤ 2000 := by rw [hb2]; simp; omega
  have hB2 : Byts w w.heap.size A b2 := by rw [hb2]; exact hB.take 2000
  have HO := fun W => l6Open_any A bs cap W hc hn
  rw [← hb2] at HO
  have hO := hide HO
  have HB2 := hide (hB2.below ((Below.refl _ w).alloc (Nat.le_refl _) (.cells #[.slice A b2.length cap, .int .i64 0] 62)))
  clear HO hb2 hB hB2
  go_enter Try.func51, Try.ntmps51
  go_wp2_with fail
  refine (hO.out _).mono ?_
  rintro e w' ⟨rfl, rfl⟩
  go_wp2_with fail
  (with_reducible refine (l91Aboard_any w.heap.size A b2 cap 0 _ rd_new HB2.out (by omega) (by omega) hl2).mono ?_)
  rintro e w1 ⟨A', xs, c, a, rfl, h1, h3, h4, h5, hg⟩
  go_wp2
  go_ret2
  exact ⟨A', c, xs, a, rfl, h1, h3, h4.mono (by simp) (Nat.le_refl _), h5, below_rd hg⟩

set_option maxHeartbeats 800000 in
theorem drawPayReach_any (A : Option Addr) (bs : List Int) (cap : Nat) (w : World) (hB : Byts w w.heap.size A bs) (hc : bs.length ≤ cap) (hn : cap ≤ 9223372036854775807) :
    Calls Try.prog 45 #[.slice A bs.length cap] w (DrawLens w) := by
  obtain ⟨b2, hb2⟩ : ∃ b2, b2 = bs.take 2000 := ⟨_, rfl⟩
  have hl2 : b2.length ≤ 2000 := by rw [hb2]; simp; omega
  have hB2 : Byts w w.heap.size A b2 := by rw [hb2]; exact hB.take 2000
  have HO := fun W => l6Open_any A bs cap W hc hn
  rw [← hb2] at HO
  have hO := hide HO
  have HB2 := hide (hB2.below ((Below.refl _ w).alloc (Nat.le_refl _) (.cells #[.slice A b2.length cap, .int .i64 0] 62)))
  clear HO hb2 hB hB2
  go_enter Try.func45, Try.ntmps45
  go_wp2_with fail
  refine (hO.out _).mono ?_
  rintro e w' ⟨rfl, rfl⟩
  go_wp2_with fail
  (with_reducible refine (l91Aboard_any w.heap.size A b2 cap 0 _ rd_new HB2.out (by omega) (by omega) hl2).mono ?_)
  rintro e w1 ⟨A', xs, c, a, rfl, h1, h3, h4, h5, hg⟩
  go_wp2
  go_ret2
  exact ⟨A', c, xs, a, rfl, h1, h3, h4.mono (by simp) (Nat.le_refl _), h5, below_rd hg⟩
end Go.Proofs.Ytoelajocacpmgaa
