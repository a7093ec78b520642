/-
  WALKS: the draws of a cable and a mile.
-/
import Derived.Test.YtglknakgfnoeaaaDrawCI
import Derived.Test.YtglknakgfnoeaaaCableOhms
import Derived.Deep.DeepCutAuto
import Derived.Deep.RegionWith
import Derived.Orders
namespace Go.Proofs.Ytglknakgfnoeaaa
set_option linter.unusedVariables false
set_option linter.unusedSimpArgs false
open Go.RowKit

set_option maxRecDepth 100000 in
set_option maxHeartbeats 4000000 in
theorem l91Mile_any (R : Nat) (A : Option Addr) (bs : List Int) (cap : Nat) (p : Int) (w : World) (hR : Rd w R A bs.length cap p) (hB : Byts w R A bs) (hp0 : 0 ≤ p) (hp : p ≤ 800000) (hl : bs.length ≤ 2000) :
    Calls Try.prog 54 #[.pointer (some ⟨R, 0, none⟩)] w (DrawCI w R (-1) 401 A bs.length cap p) := by
  have hRw := hR.lt
  have HR := hide hR
  have HB := hide (fun (W : World) (hg : w.grownBy W (some R)) => hB.grown hg hRw)
  have HB0 := hide hB
  clear hR hB
  go_enter Try.func54, Try.ntmps54
  go_wp2_with fail
  (with_reducible refine (l91Cable_any R A bs cap p 4 _ HR.out HB0.out hp0 (by omega) hl (by omega) (by omega)).mono ?_)
  rintro e w1 ⟨D, fl, n, c, q, rfl, h2, h3, h4, h5, h6, hR1, hq0, hq1, hg1⟩
  have HR1 := hide hR1
  have H6 := hide h6
  have G1 := hide hg1
  have hz1 := hg1.size
  clear hR1 h6 hg1
  go_wp2_with fail
  (with_reducible refine (specCableMiles_any _ fl n _ _ h2 H6.out.ints (by omega)).mono ?_)
  rintro e wM ⟨rfl, hbM⟩
  have KM := hide (below_grown hbM (some R))
  have HRM := hide (HR1.out.below hbM (by omega))
  have GM := hide (grown_two G1.out KM.out)
  have H6M := hide (H6.out.below hbM)
  have hzM := hbM.size
  clear hbM
  have hmb : -1 ≤ miles fl n ∧ miles fl n ≤ 400 := by
    cases e : cableOk fl n
    · simp [miles, e]
    · have := miles_le e; omega
  obtain ⟨m, hm⟩ : ∃ m, m = miles fl n := ⟨_, rfl⟩
  rw [← hm] at hmb ⊢
  obtain ⟨m0, m1⟩ := hmb
  clear hm
  have fin : ∀ (w' : World) (a : Int) (p' : Int), wM.grownBy w' (some R) → Rd w' R A bs.length cap p' → q ≤ p' → p' ≤ q + 5 → -1 ≤ a ∧ a ≤ 401 → DrawCI w R (-1) 401 A bs.length cap p (.returned (.tuple #[.slice D n c, .int .i64 a])) w' := fun w' a p' hg hr h0 h1 ha =>
    ⟨D, fl, n, c, a, p', rfl, h2, h3, h4, h5, ha, (H6M.out.carryG hg (by omega) hzM).mono (Nat.le_refl _) (Nat.le_trans hzM hg.size), hr, by omega, by omega, grown_two GM.out hg⟩
  have FIN := hide fin
  clear fin
  have hRwM : R < wM.heap.size := by omega
  have HWR := hide (show IntKind.i64.wrap (m + 1) = m + 1 from IntWalk.i64_in _ ⟨by omega, by omega⟩)
  by_cases hm0 : m < 0
  · have HP := hide (show ∀ W, wM.grownBy W (some R) → Rd W R A bs.length cap (q) → Calls Try.prog 48 #[.pointer (some ⟨R, 0, none⟩), .int .i64 3] W fun e w' => ∃ y : Nat, y < 3 ∧ e = .returned (.int .i64 (y : Int)) ∧ W.grownBy w' (some R) ∧ Rd w' R A bs.length cap (q + 1) from fun W hW hRW =>
      (pick_exact R A bs cap (q) 3 W hRW (HB.out _ (grown_two GM.out hW)) (by omega) (by omega) hl (by omega) (by omega)).mono (by
        rintro e w' ⟨y, n, hy0, hy1, rfl, rfl⟩
        obtain ⟨y, rfl⟩ := Int.eq_ofNat_of_zero_le hy0
        exact ⟨y, by omega, rfl, grownBy_drewN (grownBy_set _ _ _ _) n, (hRW.set _).drewN n⟩))
    have H3 := hide (fun (y : Nat) (hy : y < 3) => show (#[Value.int .i64 (-1), Value.int .i64 (IntKind.i64.wrap (m + 1)), Value.int .i64 m] : Array Value)[y]? = some (.int .i64 (at0 [(-1), (IntKind.i64.wrap (m + 1)), m] y)) from by
      match y, hy with
      | 0, _ => rfl
      | 1, _ => rfl
      | 2, _ => rfl)
    go_wp2_with fail
    refine wp_region_any (by kernel_rfl) ?_
    try (change wpAny _ _ _ _ _ _ _ (World.drew _))
    refine wpAny_take (i := 0) (v := ?_) rfl (by kernel_rfl) (by decide +kernel) (by decide +kernel) (fun _ _ _ h => h) (Or.inl ⟨by kernel_rfl, ?_⟩) ?_
    rotate_left
    · intro w
      go_simp
      try with_reducible rfl
    try simp only [List.getElem_toArray, List.getElem_cons_succ, List.getElem_cons_zero]
    refine wpAny_take (i := 1) (v := ?_) rfl (by kernel_rfl) (by decide +kernel) (by decide +kernel) (fun _ _ _ h => h) (Or.inl ⟨by kernel_rfl, ?_⟩) ?_
    rotate_left
    · intro w
      go_simp
      try with_reducible rfl
    try simp only [List.getElem_toArray, List.getElem_cons_succ, List.getElem_cons_zero]
    refine wpAny_take (i := 2) (v := ?_) rfl (by kernel_rfl) (by decide +kernel) (by decide +kernel) (fun _ _ _ h => h) (Or.inl ⟨by kernel_rfl, ?_⟩) ?_
    rotate_left
    · intro w
      go_simp
      try with_reducible rfl
    try simp only [List.getElem_toArray, List.getElem_cons_succ, List.getElem_cons_zero]
    refine wpAny_take (i := 3) (v := ?_) rfl (by kernel_rfl) (by decide +kernel) (by decide +kernel) (fun _ _ _ h => h) (Or.inl ⟨by kernel_rfl, ?_⟩) ?_
    rotate_left
    · intro w
      go_simp
      try with_reducible rfl
    try simp only [List.getElem_toArray, List.getElem_cons_succ, List.getElem_cons_zero]
    refine wpAny_take (i := 5) (v := ?_) rfl (by kernel_rfl) (by decide +kernel) (by decide +kernel) (fun _ _ _ h => h) (Or.inl ⟨by kernel_rfl, ?_⟩) ?_
    rotate_left
    · intro w
      go_simp
      try with_reducible rfl
    try simp only [List.getElem_toArray, List.getElem_cons_succ, List.getElem_cons_zero]
    refine wpAny_ready (rs := [4, 6]) (by decide +kernel) (by simp) ?_
    refine AllReady.cons rfl (fun K hK => ?_) (AllReady.cons rfl (fun K hK => ?_) AllReady.nil)
    · go_simp
      refine hK _ _ ?_
      clear hK K
      refine wpAny_ready (rs := [6]) (by decide +kernel) (by simp) ?_
      refine AllReady.cons rfl (fun K hK => ?_) AllReady.nil
      go_simp
      (with_reducible refine (HP.out _ ?_ ?_).mono ?_)
      · exact ⟨rfl, rfl, rfl, by simp, fun k hk _ => by first | rfl | exact Below.heap_alloc wM _ k hk⟩
      · first | exact HRM.out | exact HRM.out.alloc _
      rintro e w3 ⟨y, hy, rfl, hg3, hR3⟩
      refine hK _ _ ?_
      clear hK K
      refine wpAny_take (i := 9) (v := ?_) rfl (by kernel_rfl) (by decide +kernel) (by decide +kernel) (fun _ _ _ h => h) (Or.inl ⟨by kernel_rfl, ?_⟩) ?_
      rotate_left
      · intro w
        go_simp
        try with_reducible rfl
      try simp only [List.getElem_toArray, List.getElem_cons_succ, List.getElem_cons_zero]
      have e1 : (y : Int) < 3 := by omega
      have e2 : (0 : Int) ≤ (y : Int) := by omega
      have HR3 := hide hR3
      clear hR3
      have hb3 : w3.heap[wM.heap.size]? = some (.cells #[.int .i64 (-1), .int .i64 (IntKind.i64.wrap (m + 1)), .int .i64 m] 3 (0, 0)) := (hg3.block wM.heap.size (by simp) (fun e => by injection e with e; omega)).trans (heap_alloc_new wM _)
      have hc3 := three_cell hb3 hy
      have HG3 := hide hg3
      clear hb3 hg3
      refine wpAny_ready (rs := [7]) (by decide +kernel) (by simp) ?_
      refine AllReady.cons rfl (fun K hK => ?_) AllReady.nil
      go_simp
      refine hK _ _ ?_
      clear hK K
      refine wpAny_ready (rs := [8]) (by decide +kernel) (by simp) ?_
      refine AllReady.cons rfl (fun K hK => ?_) AllReady.nil
      go_simp
      refine hK _ _ ?_
      clear hK K
      refine wpAny_ready (rs := [10]) (by decide +kernel) (by simp) ?_
      refine AllReady.cons rfl (fun K hK => ?_) AllReady.nil
      go_simp
      refine hK _ _ ?_
      clear hK K
      refine wpAny_done (by decide +kernel) ?_ _
      go_simp
      go_wp2
      go_ret2
      exact FIN.out _ _ (q + 1) (grown_two (show wM.grownBy wM (some R) from ⟨rfl, rfl, rfl, Nat.le_refl _, fun _ _ _ => rfl⟩) (grown_two (show wM.grownBy (wM.alloc _).drew (some R) from ⟨rfl, rfl, rfl, by simp, fun k hk _ => Below.heap_alloc wM _ k hk⟩) HG3.out)) HR3.out (by omega) (by omega) (three_bd hy ⟨by omega, by omega⟩ ⟨by rw [HWR.out]; omega, by rw [HWR.out]; omega⟩ ⟨by omega, by omega⟩)
    · go_simp
      (with_reducible refine (HP.out _ ?_ ?_).mono ?_)
      · exact ⟨rfl, rfl, rfl, by simp, fun k hk _ => by first | rfl | exact Below.heap_alloc wM _ k hk⟩
      · first | exact HRM.out | exact HRM.out.alloc _
      rintro e w3 ⟨y, hy, rfl, hg3, hR3⟩
      refine hK _ _ ?_
      clear hK K
      refine wpAny_take (i := 9) (v := ?_) rfl (by kernel_rfl) (by decide +kernel) (by decide +kernel) (fun _ _ _ h => h) (Or.inl ⟨by kernel_rfl, ?_⟩) ?_
      rotate_left
      · intro w
        go_simp
        try with_reducible rfl
      try simp only [List.getElem_toArray, List.getElem_cons_succ, List.getElem_cons_zero]
      have e1 : (y : Int) < 3 := by omega
      have e2 : (0 : Int) ≤ (y : Int) := by omega
      have HR3 := hide hR3
      clear hR3
      have HG3 := hide hg3
      have hc3 := three_cell (heap_alloc_new w3 (.cells #[.int .i64 (-1), .int .i64 (IntKind.i64.wrap (m + 1)), .int .i64 m] 3)) hy
      replace HR3 := hide (HR3.out.alloc (.cells #[.int .i64 (-1), .int .i64 (IntKind.i64.wrap (m + 1)), .int .i64 m] 3))
      clear hg3
      refine wpAny_ready (rs := [4]) (by decide +kernel) (by simp) ?_
      refine AllReady.cons rfl (fun K hK => ?_) AllReady.nil
      go_simp
      refine hK _ _ ?_
      clear hK K
      refine wpAny_ready (rs := [7]) (by decide +kernel) (by simp) ?_
      refine AllReady.cons rfl (fun K hK => ?_) AllReady.nil
      go_simp
      refine hK _ _ ?_
      clear hK K
      refine wpAny_ready (rs := [8]) (by decide +kernel) (by simp) ?_
      refine AllReady.cons rfl (fun K hK => ?_) AllReady.nil
      go_simp
      refine hK _ _ ?_
      clear hK K
      refine wpAny_ready (rs := [10]) (by decide +kernel) (by simp) ?_
      refine AllReady.cons rfl (fun K hK => ?_) AllReady.nil
      go_simp
      refine hK _ _ ?_
      clear hK K
      refine wpAny_done (by decide +kernel) ?_ _
      go_simp
      go_wp2
      go_ret2
      exact FIN.out _ _ (q + 1) (grown_two (show wM.grownBy wM (some R) from ⟨rfl, rfl, rfl, Nat.le_refl _, fun _ _ _ => rfl⟩) (grown_two (show wM.grownBy wM.drew (some R) from ⟨rfl, rfl, rfl, Nat.le_refl _, fun _ _ _ => rfl⟩) (grown_two HG3.out (grown_alloc w3 _ _)))) HR3.out (by omega) (by omega) (three_bd hy ⟨by omega, by omega⟩ ⟨by rw [HWR.out]; omega, by rw [HWR.out]; omega⟩ ⟨by omega, by omega⟩)
  · go_wp2_with fail
    (with_reducible refine (pick_any R A bs cap q 12 _ HRM.out (HB.out _ GM.out) (by omega) (by omega) hl (by omega) (by omega)).mono ?_)
    rintro e w2 ⟨x, hx0, hx1, rfl, hR2, hg2⟩
    have HR2 := hide hR2
    have K2 := hide hg2
    have G2 := hide (grown_two GM.out hg2)
    have hRw2 : R < w2.heap.size := by have := hg2.size; omega
    clear hR2 hg2
    by_cases c0 : x = 0
    · subst c0
      have HP := hide (show ∀ W, w2.grownBy W (some R) → Rd W R A bs.length cap (q + 1) → Calls Try.prog 48 #[.pointer (some ⟨R, 0, none⟩), .int .i64 3] W fun e w' => ∃ y : Nat, y < 3 ∧ e = .returned (.int .i64 (y : Int)) ∧ W.grownBy w' (some R) ∧ Rd w' R A bs.length cap (q + 1 + 1) from fun W hW hRW =>
        (pick_exact R A bs cap (q + 1) 3 W hRW (HB.out _ (grown_two G2.out hW)) (by omega) (by omega) hl (by omega) (by omega)).mono (by
          rintro e w' ⟨y, n, hy0, hy1, rfl, rfl⟩
          obtain ⟨y, rfl⟩ := Int.eq_ofNat_of_zero_le hy0
          exact ⟨y, by omega, rfl, grownBy_drewN (grownBy_set _ _ _ _) n, (hRW.set _).drewN n⟩))
      have H3 := hide (fun (y : Nat) (hy : y < 3) => show (#[Value.int .i64 (-1), Value.int .i64 (IntKind.i64.wrap (m + 1)), Value.int .i64 m] : Array Value)[y]? = some (.int .i64 (at0 [(-1), (IntKind.i64.wrap (m + 1)), m] y)) from by
        match y, hy with
        | 0, _ => rfl
        | 1, _ => rfl
        | 2, _ => rfl)
      go_wp2_with fail
      refine wp_region_any (by kernel_rfl) ?_
      try (change wpAny _ _ _ _ _ _ _ (World.drew _))
      refine wpAny_take (i := 0) (v := ?_) rfl (by kernel_rfl) (by decide +kernel) (by decide +kernel) (fun _ _ _ h => h) (Or.inl ⟨by kernel_rfl, ?_⟩) ?_
      rotate_left
      · intro w
        go_simp
        try with_reducible rfl
      try simp only [List.getElem_toArray, List.getElem_cons_succ, List.getElem_cons_zero]
      refine wpAny_take (i := 1) (v := ?_) rfl (by kernel_rfl) (by decide +kernel) (by decide +kernel) (fun _ _ _ h => h) (Or.inl ⟨by kernel_rfl, ?_⟩) ?_
      rotate_left
      · intro w
        go_simp
        try with_reducible rfl
      try simp only [List.getElem_toArray, List.getElem_cons_succ, List.getElem_cons_zero]
      refine wpAny_take (i := 2) (v := ?_) rfl (by kernel_rfl) (by decide +kernel) (by decide +kernel) (fun _ _ _ h => h) (Or.inl ⟨by kernel_rfl, ?_⟩) ?_
      rotate_left
      · intro w
        go_simp
        try with_reducible rfl
      try simp only [List.getElem_toArray, List.getElem_cons_succ, List.getElem_cons_zero]
      refine wpAny_take (i := 3) (v := ?_) rfl (by kernel_rfl) (by decide +kernel) (by decide +kernel) (fun _ _ _ h => h) (Or.inl ⟨by kernel_rfl, ?_⟩) ?_
      rotate_left
      · intro w
        go_simp
        try with_reducible rfl
      try simp only [List.getElem_toArray, List.getElem_cons_succ, List.getElem_cons_zero]
      refine wpAny_take (i := 5) (v := ?_) rfl (by kernel_rfl) (by decide +kernel) (by decide +kernel) (fun _ _ _ h => h) (Or.inl ⟨by kernel_rfl, ?_⟩) ?_
      rotate_left
      · intro w
        go_simp
        try with_reducible rfl
      try simp only [List.getElem_toArray, List.getElem_cons_succ, List.getElem_cons_zero]
      refine wpAny_ready (rs := [4, 6]) (by decide +kernel) (by simp) ?_
      refine AllReady.cons rfl (fun K hK => ?_) (AllReady.cons rfl (fun K hK => ?_) AllReady.nil)
      · go_simp
        refine hK _ _ ?_
        clear hK K
        refine wpAny_ready (rs := [6]) (by decide +kernel) (by simp) ?_
        refine AllReady.cons rfl (fun K hK => ?_) AllReady.nil
        go_simp
        (with_reducible refine (HP.out _ ?_ ?_).mono ?_)
        · exact ⟨rfl, rfl, rfl, by simp, fun k hk _ => by first | rfl | exact Below.heap_alloc w2 _ k hk⟩
        · first | exact HR2.out | exact HR2.out.alloc _
        rintro e w3 ⟨y, hy, rfl, hg3, hR3⟩
        refine hK _ _ ?_
        clear hK K
        refine wpAny_take (i := 9) (v := ?_) rfl (by kernel_rfl) (by decide +kernel) (by decide +kernel) (fun _ _ _ h => h) (Or.inl ⟨by kernel_rfl, ?_⟩) ?_
        rotate_left
        · intro w
          go_simp
          try with_reducible rfl
        try simp only [List.getElem_toArray, List.getElem_cons_succ, List.getElem_cons_zero]
        have e1 : (y : Int) < 3 := by omega
        have e2 : (0 : Int) ≤ (y : Int) := by omega
        have HR3 := hide hR3
        clear hR3
        have hb3 : w3.heap[w2.heap.size]? = some (.cells #[.int .i64 (-1), .int .i64 (IntKind.i64.wrap (m + 1)), .int .i64 m] 3 (0, 0)) := (hg3.block w2.heap.size (by simp) (fun e => by injection e with e; omega)).trans (heap_alloc_new w2 _)
        have hc3 := three_cell hb3 hy
        have HG3 := hide hg3
        clear hb3 hg3
        refine wpAny_ready (rs := [7]) (by decide +kernel) (by simp) ?_
        refine AllReady.cons rfl (fun K hK => ?_) AllReady.nil
        go_simp
        refine hK _ _ ?_
        clear hK K
        refine wpAny_ready (rs := [8]) (by decide +kernel) (by simp) ?_
        refine AllReady.cons rfl (fun K hK => ?_) AllReady.nil
        go_simp
        refine hK _ _ ?_
        clear hK K
        refine wpAny_ready (rs := [10]) (by decide +kernel) (by simp) ?_
        refine AllReady.cons rfl (fun K hK => ?_) AllReady.nil
        go_simp
        refine hK _ _ ?_
        clear hK K
        refine wpAny_done (by decide +kernel) ?_ _
        go_simp
        go_wp2
        go_ret2
        exact FIN.out _ _ (q + 1 + 1) (grown_two K2.out (grown_two (show w2.grownBy (w2.alloc _).drew (some R) from ⟨rfl, rfl, rfl, by simp, fun k hk _ => Below.heap_alloc w2 _ k hk⟩) HG3.out)) HR3.out (by omega) (by omega) (three_bd hy ⟨by omega, by omega⟩ ⟨by rw [HWR.out]; omega, by rw [HWR.out]; omega⟩ ⟨by omega, by omega⟩)
      · go_simp
        (with_reducible refine (HP.out _ ?_ ?_).mono ?_)
        · exact ⟨rfl, rfl, rfl, by simp, fun k hk _ => by first | rfl | exact Below.heap_alloc w2 _ k hk⟩
        · first | exact HR2.out | exact HR2.out.alloc _
        rintro e w3 ⟨y, hy, rfl, hg3, hR3⟩
        refine hK _ _ ?_
        clear hK K
        refine wpAny_take (i := 9) (v := ?_) rfl (by kernel_rfl) (by decide +kernel) (by decide +kernel) (fun _ _ _ h => h) (Or.inl ⟨by kernel_rfl, ?_⟩) ?_
        rotate_left
        · intro w
          go_simp
          try with_reducible rfl
        try simp only [List.getElem_toArray, List.getElem_cons_succ, List.getElem_cons_zero]
        have e1 : (y : Int) < 3 := by omega
        have e2 : (0 : Int) ≤ (y : Int) := by omega
        have HR3 := hide hR3
        clear hR3
        have HG3 := hide hg3
        have hc3 := three_cell (heap_alloc_new w3 (.cells #[.int .i64 (-1), .int .i64 (IntKind.i64.wrap (m + 1)), .int .i64 m] 3)) hy
        replace HR3 := hide (HR3.out.alloc (.cells #[.int .i64 (-1), .int .i64 (IntKind.i64.wrap (m + 1)), .int .i64 m] 3))
        clear hg3
        refine wpAny_ready (rs := [4]) (by decide +kernel) (by simp) ?_
        refine AllReady.cons rfl (fun K hK => ?_) AllReady.nil
        go_simp
        refine hK _ _ ?_
        clear hK K
        refine wpAny_ready (rs := [7]) (by decide +kernel) (by simp) ?_
        refine AllReady.cons rfl (fun K hK => ?_) AllReady.nil
        go_simp
        refine hK _ _ ?_
        clear hK K
        refine wpAny_ready (rs := [8]) (by decide +kernel) (by simp) ?_
        refine AllReady.cons rfl (fun K hK => ?_) AllReady.nil
        go_simp
        refine hK _ _ ?_
        clear hK K
        refine wpAny_ready (rs := [10]) (by decide +kernel) (by simp) ?_
        refine AllReady.cons rfl (fun K hK => ?_) AllReady.nil
        go_simp
        refine hK _ _ ?_
        clear hK K
        refine wpAny_done (by decide +kernel) ?_ _
        go_simp
        go_wp2
        go_ret2
        exact FIN.out _ _ (q + 1 + 1) (grown_two K2.out (grown_two (show w2.grownBy w2.drew (some R) from ⟨rfl, rfl, rfl, Nat.le_refl _, fun _ _ _ => rfl⟩) (grown_two HG3.out (grown_alloc w3 _ _)))) HR3.out (by omega) (by omega) (three_bd hy ⟨by omega, by omega⟩ ⟨by rw [HWR.out]; omega, by rw [HWR.out]; omega⟩ ⟨by omega, by omega⟩)
    · have d0 : (x == 0) = false := beq_eq_false_iff_ne.2 c0
      clear c0
      go_wp2_with fail
      (with_reducible refine (pick_any R A bs cap (q + 1) (m + 1) _ HR2.out (HB.out _ G2.out) (by omega) (by omega) hl (by omega) (by omega)).mono ?_)
      rintro e w3 ⟨y, hy0, hy1, rfl, hR3, hg3⟩
      have HR3 := hide hR3
      have K3 := hide (grown_two K2.out hg3)
      clear hR3 hg3
      go_wp2
      go_ret2
      exact FIN.out _ _ (q + 1 + 1) K3.out HR3.out (by omega) (by omega) ⟨by omega, by omega⟩
set_option maxHeartbeats 800000 in
theorem drawCableOhms_any (A : Option Addr) (bs : List Int) (cap : Nat) (w : World) (hB : Byts w w.heap.size A bs) (hc : bs.length ≤ cap) (hn : cap ≤ 9223372036854775807) :
    Calls Try.prog 29 #[.slice A bs.length cap] w (DrawCabI w (-1) 401) := by
  obtain ⟨b2, hb2⟩ : ∃ b2, b2 = bs.take 2000 := ⟨_, rfl⟩
  have hl2 : b2.length ≤ 2000 := by rw [hb2]; simp; omega
  have hB2 : Byts w w.heap.size A b2 := by rw [hb2]; exact hB.take 2000
  have HO := fun W => l6Open_any A bs cap W hc hn
  rw [← hb2] at HO
  have hO := hide HO
  have HB2 := hide (hB2.below ((Below.refl _ w).alloc (Nat.le_refl _) (.cells #[.slice A b2.length cap, .int .i64 0] 68)))
  clear HO hb2 hB hB2
  go_enter Try.func29, Try.ntmps29
  go_wp2_with fail
  refine (hO.out _).mono ?_
  rintro e w' ⟨rfl, rfl⟩
  go_wp2_with fail
  (with_reducible refine (l91Mile_any w.heap.size A b2 cap 0 _ rd_newS HB2.out (by omega) (by omega) hl2).mono ?_)
  rintro e w1 ⟨A', fl, k, c, a, p', rfl, h1, h2, h3, h4, ha, h5, -, -, -, hg⟩
  go_wp2
  go_ret2
  exact ⟨A', c, fl, k, a, rfl, h1, h2, h3, h4, ha, h5.mono (by simp) (Nat.le_refl _), below_rdS hg⟩
end Go.Proofs.Ytglknakgfnoeaaa
