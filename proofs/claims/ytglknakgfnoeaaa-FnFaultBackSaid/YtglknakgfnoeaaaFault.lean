/-
  WALKS: the faults of a cable.
-/
import Derived.Test.YtglknakgfnoeaaaCableOhms
import Derived.Deep.RegionHeld3
import Derived.BigQuiet
import Derived.Deep.QuietTactic
import Derived.Deep.DeepCutAuto
import Derived.OwnWalk
import Derived.RegionTactic
import Derived.Orders
namespace Go.Proofs.Ytglknakgfnoeaaa
set_option linter.unusedVariables false
set_option linter.unusedSimpArgs false
open Go.RowKit

/-- There is a fault. -/
def faultOk (fl : List Int) (n : Nat) (m o : Int) : Bool := inB m 0 (miles fl n) && inB o 0 1000

theorem ohmsValid_any (o : Int) (w : World) : Calls Try.prog 56 #[.int .i64 o] w fun e w' => e = .returned (.bool (inB o 0 1000)) ∧ w = w' := by
  go_enter Try.func56, Try.ntmps56
  go_wp2_with fail
  (with_reducible refine (within_any _ _ _ _).mono ?_)
  rintro e w' ⟨rfl, rfl⟩
  go_wp2
  go_ret
  exact ⟨rfl, rfl⟩

/-- A fault lies in its box. -/
abbrev Boxed (w w' : World) (m o : Int) : Prop := w'.cell? ⟨w.heap.size, 0, none⟩ = some (.int .i64 m) ∧ w'.cell? ⟨w.heap.size, 1, none⟩ = some (.int .i64 o) ∧ w.heap.size < w'.heap.size ∧ Below w.heap.size w w'
theorem Boxed.on {w w' w'' : World} {m o : Int} (h : Boxed w w' m o) (hb : Below w'.heap.size w' w'') : Boxed w w'' m o :=
  ⟨(hb.cell (p := ⟨w.heap.size, 0, none⟩) h.2.2.1).trans h.1, (hb.cell (p := ⟨w.heap.size, 1, none⟩) h.2.2.1).trans h.2.1, by have := hb.size; have := h.2.2.1; omega, bt h.2.2.2 hb⟩
theorem Boxed.drew {w w' : World} {m o : Int} (h : Boxed w w' m o) : Boxed w w'.drew m o := ⟨h.1, h.2.1, h.2.2.1, h.2.2.2.drew⟩

set_option maxHeartbeats 1600000 in
theorem faultValid_any (A : Option Addr) (fl : List Int) (n cap : Nat) (m o : Int) (w : World) (hl : fl.length = n * 3) (h : Ints w w.heap.size A fl) (hn : n ≤ 1048576) :
    Calls Try.prog 51 #[.slice A n cap, .agg #[.int .i64 m, .int .i64 o]] w fun e w' => e = .returned (.bool (faultOk fl n m o)) ∧ Below w.heap.size w w' := by
  have HC := hide (fun (w' : World) (hb : Boxed w w' m o) => cableMiles_any A fl n cap w' hl (h.next hb.2.2.2) hn)
  clear hl h
  by_cases hA : inB m 0 (miles fl n) = true
  · have HA := hide hA
    have HF := hide (show faultOk fl n m o = inB o 0 1000 by simp [faultOk, hA])
    rw [HF.out]
    clear hA
    go_enter Try.func51, Try.ntmps51
    go_wp2_with fail
    go_region_held3 (fun w' => w'.cell? ⟨w.heap.size, 0, none⟩ = some (.int .i64 m) ∧ w'.cell? ⟨w.heap.size, 1, none⟩ = some (.int .i64 o) ∧ w.heap.size < w'.heap.size ∧ Below w.heap.size w w')
      (first
        | (exact ⟨by go_cell, by go_cell, by simp, by go_grown⟩)
        | (exact Boxed.on (by assumption) hb1)
        | (exact Boxed.drew (by assumption))
        | go_keep)
      (first
        | (go_at_call 17; (with_reducible refine (HC.out _ (by assumption)).mono ?_); rintro e w1 ⟨rfl, hb1⟩)
        | (go_at_call 46; (with_reducible refine (within_any _ _ _ _).mono ?_); rintro e w1 ⟨rfl, rfl⟩; rw [HA.out])
        | (go_at_call 56; (with_reducible refine (ohmsValid_any _ _).mono ?_); rintro e w1 ⟨rfl, rfl⟩))
    rename_i hS
    obtain ⟨-, -, -, hB⟩ := hS
    go_wp2
    go_ret
    exact ⟨rfl, hB⟩
  · have hA' : inB m 0 (miles fl n) = false := by simpa using hA
    have HA := hide hA'
    have HF := hide (show faultOk fl n m o = false by simp [faultOk, hA'])
    rw [HF.out]
    clear hA hA'
    go_enter Try.func51, Try.ntmps51
    go_wp2_with fail
    refine wp_region_any (by kernel_rfl) ?_
    try (change wpAny _ _ _ _ _ _ _ (World.drew _))
    have B0 : Boxed w (w.alloc (.cells #[.int .i64 m, .int .i64 o] 32)).drew m o := ⟨by go_cell, by go_cell, by simp, by go_grown⟩
    generalize (w.alloc (.cells #[.int .i64 m, .int .i64 o] 32)).drew = wa at B0 ⊢
    refine wpAny_take (i := 0) (v := ?_) rfl (by kernel_rfl) (by decide +kernel) (by decide +kernel) (fun _ _ _ h => h) (Or.inl ⟨by kernel_rfl, ?_⟩) ?_
    rotate_left
    · intro w
      go_simp
      try with_reducible rfl
    try simp only [List.getElem_toArray, List.getElem_cons_succ, List.getElem_cons_zero]
    refine wpAny_take (i := 2) (v := ?_) rfl (by kernel_rfl) (by decide +kernel) (by decide +kernel) (fun _ _ _ h => h) (Or.inl ⟨by kernel_rfl, ?_⟩) ?_
    rotate_left
    · intro w
      go_simp
      try with_reducible rfl
    try simp only [List.getElem_toArray, List.getElem_cons_succ, List.getElem_cons_zero]
    refine wpAny_ready (rs := [1, 3]) (by kernel_rfl) (by simp) ?_
    refine AllReady.cons rfl (fun K hK => ?_) (AllReady.cons rfl (fun K hK => ?_) AllReady.nil)
    · have k0 := B0.1
      go_simp
      refine hK _ _ ?_
      clear hK K
      refine wpAny_ready (rs := [3]) (by decide +kernel) (by simp) ?_
      refine AllReady.cons rfl (fun K hK => ?_) AllReady.nil
      go_simp
      (with_reducible refine (HC.out _ B0).mono ?_)
      rintro e w1 ⟨rfl, hb1⟩
      refine hK _ _ ?_
      clear hK K
      have B1 := B0.on hb1
      refine wpAny_ready (rs := [4]) (by decide +kernel) (by simp) ?_
      refine AllReady.cons rfl (fun K hK => ?_) AllReady.nil
      go_simp
      (with_reducible refine (within_any _ _ _ _).mono ?_)
      rintro e w' ⟨rfl, rfl⟩
      rw [HA.out]
      refine hK _ _ ?_
      clear hK K
      refine wpAny_take (i := 5) (v := ?_) rfl (by kernel_rfl) (by decide +kernel) (by decide +kernel) (fun _ _ _ h => h) (Or.inl ⟨by kernel_rfl, ?_⟩) ?_
      rotate_left
      · intro w
        go_simp
        try with_reducible rfl
      try simp only [List.getElem_toArray, List.getElem_cons_succ, List.getElem_cons_zero]
      refine wpAny_ready (rs := [6]) (by decide +kernel) (by simp) ?_
      refine AllReady.cons rfl (fun K hK => ?_) AllReady.nil
      go_simp
      refine hK _ _ ?_
      clear hK K
      refine wpAny_ready (rs := [7]) (by decide +kernel) (by simp) ?_
      refine AllReady.cons rfl (fun K hK => ?_) AllReady.nil
      go_simp
      refine hK _ _ ?_
      clear hK K
      refine wpAny_ready (rs := [8]) (by decide +kernel) (by simp) ?_
      refine AllReady.cons rfl (fun K hK => ?_) AllReady.nil
      go_simp
      refine hK _ _ ?_
      clear hK K
      refine wpAny_ready (rs := [9]) (by decide +kernel) (by simp) ?_
      refine AllReady.cons rfl (fun K hK => ?_) AllReady.nil
      go_simp
      refine hK _ _ ?_
      clear hK K
      refine wpAny_ready (rs := [10]) (by decide +kernel) (by simp) ?_
      refine AllReady.cons rfl (fun K hK => ?_) AllReady.nil
      go_simp
      refine hK _ _ ?_
      clear hK K
      refine wpAny_done (by decide +kernel) ?_ _
      go_simp
      go_wp2
      go_ret
      exact ⟨rfl, B1.2.2.2⟩
    · go_simp
      (with_reducible refine (HC.out _ B0).mono ?_)
      rintro e w1 ⟨rfl, hb1⟩
      refine hK _ _ ?_
      clear hK K
      have B1 := B0.on hb1
      have k0 := B1.1
      refine wpAny_ready (rs := [1]) (by decide +kernel) (by simp) ?_
      refine AllReady.cons rfl (fun K hK => ?_) AllReady.nil
      go_simp
      refine hK _ _ ?_
      clear hK K
      refine wpAny_ready (rs := [4]) (by decide +kernel) (by simp) ?_
      refine AllReady.cons rfl (fun K hK => ?_) AllReady.nil
      go_simp
      (with_reducible refine (within_any _ _ _ _).mono ?_)
      rintro e w' ⟨rfl, rfl⟩
      rw [HA.out]
      refine hK _ _ ?_
      clear hK K
      refine wpAny_take (i := 5) (v := ?_) rfl (by kernel_rfl) (by decide +kernel) (by decide +kernel) (fun _ _ _ h => h) (Or.inl ⟨by kernel_rfl, ?_⟩) ?_
      rotate_left
      · intro w
        go_simp
        try with_reducible rfl
      try simp only [List.getElem_toArray, List.getElem_cons_succ, List.getElem_cons_zero]
      refine wpAny_ready (rs := [6]) (by decide +kernel) (by simp) ?_
      refine AllReady.cons rfl (fun K hK => ?_) AllReady.nil
      go_simp
      refine hK _ _ ?_
      clear hK K
      refine wpAny_ready (rs := [7]) (by decide +kernel) (by simp) ?_
      refine AllReady.cons rfl (fun K hK => ?_) AllReady.nil
      go_simp
      refine hK _ _ ?_
      clear hK K
      refine wpAny_ready (rs := [8]) (by decide +kernel) (by simp) ?_
      refine AllReady.cons rfl (fun K hK => ?_) AllReady.nil
      go_simp
      refine hK _ _ ?_
      clear hK K
      refine wpAny_ready (rs := [9]) (by decide +kernel) (by simp) ?_
      refine AllReady.cons rfl (fun K hK => ?_) AllReady.nil
      go_simp
      refine hK _ _ ?_
      clear hK K
      refine wpAny_ready (rs := [10]) (by decide +kernel) (by simp) ?_
      refine AllReady.cons rfl (fun K hK => ?_) AllReady.nil
      go_simp
      refine hK _ _ ?_
      clear hK K
      refine wpAny_done (by decide +kernel) ?_ _
      go_simp
      go_wp2
      go_ret
      exact ⟨rfl, B1.2.2.2⟩
set_option maxHeartbeats 3200000 in
theorem specFaultValid_any (A : Option Addr) (fl : List Int) (n cap : Nat) (m o : Int) (w : World) (hl : fl.length = n * 3) (h : Ints w w.heap.size A fl) (hn : n ≤ 1048576) :
    Calls Try.prog 52 #[.slice A n cap, .agg #[.int .i64 m, .int .i64 o]] w fun e w' => e = .returned (.bool (faultOk fl n m o)) ∧ Below w.heap.size w w' := by
  have HV := hide (fun (w' : World) (hb : Boxed w w' m o) => specCableValid_any A fl n cap w' hl (h.next hb.2.2.2) hn)
  have HC := hide (fun (w' : World) (hb : Boxed w w' m o) => specCableMiles_any A fl n cap w' hl (h.next hb.2.2.2) hn)
  clear hl h
  by_cases hc : cableOk fl n = true
  · have HK := hide hc
    clear hc
    by_cases hA : inB m 0 (miles fl n) = true
    · have HA := hide hA
      have HF := hide (show faultOk fl n m o = inB o 0 1000 by simp [faultOk, hA])
      rw [HF.out]
      clear hA
      go_enter Try.func52, Try.ntmps52
      go_wp2_with fail
      go_region_held3 (fun w' => w'.cell? ⟨w.heap.size, 0, none⟩ = some (.int .i64 m) ∧ w'.cell? ⟨w.heap.size, 1, none⟩ = some (.int .i64 o) ∧ w.heap.size < w'.heap.size ∧ Below w.heap.size w w')
        (first
          | (exact ⟨by go_cell, by go_cell, by simp, by go_grown⟩)
          | (exact Boxed.on (by assumption) hb1)
          | (exact Boxed.drew (by assumption))
          | go_keep)
        (first
          | (go_at_call 43; (with_reducible refine (HV.out _ (by assumption)).mono ?_); rintro e w1 ⟨rfl, hb1⟩; rw [HK.out])
          | (go_at_call 18; (with_reducible refine (HC.out _ (by assumption)).mono ?_); rintro e w1 ⟨rfl, hb1⟩)
          | (go_at_call 55; (with_reducible refine (l6In_any m _ _ _).mono ?_); rintro e w1 ⟨rfl, rfl⟩; rw [HA.out])
          | (go_at_call 55; (with_reducible refine (l6In_any o _ _ _).mono ?_); rintro e w1 ⟨rfl, rfl⟩))
      rename_i hS
      obtain ⟨-, -, -, hB⟩ := hS
      go_wp2
      go_ret
      exact ⟨rfl, hB⟩
    · have hA' : inB m 0 (miles fl n) = false := by simpa using hA
      have HA := hide hA'
      have HF := hide (show faultOk fl n m o = false by simp [faultOk, hA'])
      rw [HF.out]
      clear hA hA'
      go_enter Try.func52, Try.ntmps52
      go_wp2_with fail
      refine wp_region_any (by kernel_rfl) ?_
      try (change wpAny _ _ _ _ _ _ _ (World.drew _))
      have B0 : Boxed w (w.alloc (.cells #[.int .i64 m, .int .i64 o] 32)).drew m o := ⟨by go_cell, by go_cell, by simp, by go_grown⟩
      generalize (w.alloc (.cells #[.int .i64 m, .int .i64 o] 32)).drew = wa at B0 ⊢
      refine wpAny_take (i := 0) (v := ?_) rfl (by kernel_rfl) (by decide +kernel) (by decide +kernel) (fun _ _ _ h => h) (Or.inl ⟨by kernel_rfl, ?_⟩) ?_
      rotate_left
      · intro w
        go_simp
        try with_reducible rfl
      try simp only [List.getElem_toArray, List.getElem_cons_succ, List.getElem_cons_zero]
      refine wpAny_ready (rs := [1]) (by decide +kernel) (by simp) ?_
      refine AllReady.cons rfl (fun K hK => ?_) AllReady.nil
      go_simp
      (with_reducible refine (HV.out _ B0).mono ?_)
      rintro e w1 ⟨rfl, hb1⟩
      rw [HK.out]
      refine hK _ _ ?_
      clear hK K
      have B1 := B0.on hb1
      refine wpAny_take (i := 2) (v := ?_) rfl (by kernel_rfl) (by decide +kernel) (by decide +kernel) (fun _ _ _ h => h) (Or.inl ⟨by kernel_rfl, ?_⟩) ?_
      rotate_left
      · intro w
        go_simp
        try with_reducible rfl
      try simp only [List.getElem_toArray, List.getElem_cons_succ, List.getElem_cons_zero]
      refine wpAny_take (i := 3) (v := ?_) rfl (by kernel_rfl) (by decide +kernel) (by decide +kernel) (fun _ _ _ h => h) (Or.inl ⟨by kernel_rfl, ?_⟩) ?_
      rotate_left
      · intro w
        go_simp
        try with_reducible rfl
      try simp only [List.getElem_toArray, List.getElem_cons_succ, List.getElem_cons_zero]
      refine wpAny_take (i := 5) (v := ?_) rfl (by kernel_rfl) (by decide +kernel) (by decide +kernel) (fun _ _ _ h => h) (Or.inl ⟨by kernel_rfl, ?_⟩) ?_
      rotate_left
      · intro w
        go_simp
        try with_reducible rfl
      try simp only [List.getElem_toArray, List.getElem_cons_succ, List.getElem_cons_zero]
      refine wpAny_ready (rs := [4, 6]) (by decide +kernel) (by simp) ?_
      refine AllReady.cons rfl (fun K hK => ?_) (AllReady.cons rfl (fun K hK => ?_) AllReady.nil)
      · have k0 := B1.1
        go_simp
        refine hK _ _ ?_
        clear hK K
        refine wpAny_ready (rs := [6]) (by decide +kernel) (by simp) ?_
        refine AllReady.cons rfl (fun K hK => ?_) AllReady.nil
        go_simp
        (with_reducible refine (HC.out _ B1).mono ?_)
        rintro e w2 ⟨rfl, hb2⟩
        refine hK _ _ ?_
        clear hK K
        have B2 := B1.on hb2
        refine wpAny_ready (rs := [7]) (by decide +kernel) (by simp) ?_
        refine AllReady.cons rfl (fun K hK => ?_) AllReady.nil
        go_simp
        (with_reducible refine (l6In_any _ _ _ _).mono ?_)
        rintro e w' ⟨rfl, rfl⟩
        rw [HA.out]
        refine hK _ _ ?_
        clear hK K
        refine wpAny_ready (rs := [8]) (by decide +kernel) (by simp) ?_
        refine AllReady.cons rfl (fun K hK => ?_) AllReady.nil
        go_simp
        refine hK _ _ ?_
        clear hK K
        refine wpAny_take (i := 9) (v := ?_) rfl (by kernel_rfl) (by decide +kernel) (by decide +kernel) (fun _ _ _ h => h) (Or.inl ⟨by kernel_rfl, ?_⟩) ?_
        rotate_left
        · intro w
          go_simp
          try with_reducible rfl
        try simp only [List.getElem_toArray, List.getElem_cons_succ, List.getElem_cons_zero]
        refine wpAny_ready (rs := [10]) (by decide +kernel) (by simp) ?_
        refine AllReady.cons rfl (fun K hK => ?_) AllReady.nil
        go_simp
        refine hK _ _ ?_
        clear hK K
        refine wpAny_ready (rs := [11]) (by decide +kernel) (by simp) ?_
        refine AllReady.cons rfl (fun K hK => ?_) AllReady.nil
        go_simp
        refine hK _ _ ?_
        clear hK K
        refine wpAny_ready (rs := [12]) (by decide +kernel) (by simp) ?_
        refine AllReady.cons rfl (fun K hK => ?_) AllReady.nil
        go_simp
        refine hK _ _ ?_
        clear hK K
        refine wpAny_ready (rs := [13]) (by decide +kernel) (by simp) ?_
        refine AllReady.cons rfl (fun K hK => ?_) AllReady.nil
        go_simp
        refine hK _ _ ?_
        clear hK K
        refine wpAny_ready (rs := [14]) (by decide +kernel) (by simp) ?_
        refine AllReady.cons rfl (fun K hK => ?_) AllReady.nil
        go_simp
        refine hK _ _ ?_
        clear hK K
        refine wpAny_done (by decide +kernel) ?_ _
        go_simp
        go_wp2
        go_ret
        exact ⟨rfl, B2.2.2.2⟩
      · go_simp
        (with_reducible refine (HC.out _ B1).mono ?_)
        rintro e w2 ⟨rfl, hb2⟩
        refine hK _ _ ?_
        clear hK K
        have B2 := B1.on hb2
        have k0 := B2.1
        refine wpAny_ready (rs := [4]) (by decide +kernel) (by simp) ?_
        refine AllReady.cons rfl (fun K hK => ?_) AllReady.nil
        go_simp
        refine hK _ _ ?_
        clear hK K
        refine wpAny_ready (rs := [7]) (by decide +kernel) (by simp) ?_
        refine AllReady.cons rfl (fun K hK => ?_) AllReady.nil
        go_simp
        (with_reducible refine (l6In_any _ _ _ _).mono ?_)
        rintro e w' ⟨rfl, rfl⟩
        rw [HA.out]
        refine hK _ _ ?_
        clear hK K
        refine wpAny_ready (rs := [8]) (by decide +kernel) (by simp) ?_
        refine AllReady.cons rfl (fun K hK => ?_) AllReady.nil
        go_simp
        refine hK _ _ ?_
        clear hK K
        refine wpAny_take (i := 9) (v := ?_) rfl (by kernel_rfl) (by decide +kernel) (by decide +kernel) (fun _ _ _ h => h) (Or.inl ⟨by kernel_rfl, ?_⟩) ?_
        rotate_left
        · intro w
          go_simp
          try with_reducible rfl
        try simp only [List.getElem_toArray, List.getElem_cons_succ, List.getElem_cons_zero]
        refine wpAny_ready (rs := [10]) (by decide +kernel) (by simp) ?_
        refine AllReady.cons rfl (fun K hK => ?_) AllReady.nil
        go_simp
        refine hK _ _ ?_
        clear hK K
        refine wpAny_ready (rs := [11]) (by decide +kernel) (by simp) ?_
        refine AllReady.cons rfl (fun K hK => ?_) AllReady.nil
        go_simp
        refine hK _ _ ?_
        clear hK K
        refine wpAny_ready (rs := [12]) (by decide +kernel) (by simp) ?_
        refine AllReady.cons rfl (fun K hK => ?_) AllReady.nil
        go_simp
        refine hK _ _ ?_
        clear hK K
        refine wpAny_ready (rs := [13]) (by decide +kernel) (by simp) ?_
        refine AllReady.cons rfl (fun K hK => ?_) AllReady.nil
        go_simp
        refine hK _ _ ?_
        clear hK K
        refine wpAny_ready (rs := [14]) (by decide +kernel) (by simp) ?_
        refine AllReady.cons rfl (fun K hK => ?_) AllReady.nil
        go_simp
        refine hK _ _ ?_
        clear hK K
        refine wpAny_done (by decide +kernel) ?_ _
        go_simp
        go_wp2
        go_ret
        exact ⟨rfl, B2.2.2.2⟩
  · have hK' : cableOk fl n = false := by simpa using hc
    have HK := hide hK'
    have HF := hide (show faultOk fl n m o = false by
      have : miles fl n = -1 := by simp [miles, hK']
      simp only [faultOk, this, inB]
      simp
      omega)
    rw [HF.out]
    clear hc hK'
    go_enter Try.func52, Try.ntmps52
    go_wp2_with fail
    refine wp_region_any (by kernel_rfl) ?_
    try (change wpAny _ _ _ _ _ _ _ (World.drew _))
    have B0 : Boxed w (w.alloc (.cells #[.int .i64 m, .int .i64 o] 32)).drew m o := ⟨by go_cell, by go_cell, by simp, by go_grown⟩
    generalize (w.alloc (.cells #[.int .i64 m, .int .i64 o] 32)).drew = wa at B0 ⊢
    refine wpAny_take (i := 0) (v := ?_) rfl (by kernel_rfl) (by decide +kernel) (by decide +kernel) (fun _ _ _ h => h) (Or.inl ⟨by kernel_rfl, ?_⟩) ?_
    rotate_left
    · intro w
      go_simp
      try with_reducible rfl
    try simp only [List.getElem_toArray, List.getElem_cons_succ, List.getElem_cons_zero]
    refine wpAny_ready (rs := [1]) (by decide +kernel) (by simp) ?_
    refine AllReady.cons rfl (fun K hK => ?_) AllReady.nil
    go_simp
    (with_reducible refine (HV.out _ B0).mono ?_)
    rintro e w1 ⟨rfl, hb1⟩
    rw [HK.out]
    refine hK _ _ ?_
    clear hK K
    have B1 := B0.on hb1
    refine wpAny_take (i := 2) (v := ?_) rfl (by kernel_rfl) (by decide +kernel) (by decide +kernel) (fun _ _ _ h => h) (Or.inl ⟨by kernel_rfl, ?_⟩) ?_
    rotate_left
    · intro w
      go_simp
      try with_reducible rfl
    try simp only [List.getElem_toArray, List.getElem_cons_succ, List.getElem_cons_zero]
    refine wpAny_take (i := 3) (v := undef) rfl (by kernel_rfl) (by decide +kernel) (by decide +kernel) (fun _ _ _ h => h) (Or.inr ⟨by kernel_rfl, rfl⟩) ?_
    try simp only [List.getElem_toArray, List.getElem_cons_succ, List.getElem_cons_zero]
    refine wpAny_take (i := 5) (v := undef) rfl (by kernel_rfl) (by decide +kernel) (by decide +kernel) (fun _ _ _ h => h) (Or.inr ⟨by kernel_rfl, rfl⟩) ?_
    try simp only [List.getElem_toArray, List.getElem_cons_succ, List.getElem_cons_zero]
    refine wpAny_ready (rs := [4, 6]) (by decide +kernel) (by simp) ?_
    refine AllReady.cons rfl (fun K hK => ?_) (AllReady.cons rfl (fun K hK => ?_) AllReady.nil)
    · go_simp
      refine hK _ _ ?_
      clear hK K
      refine wpAny_ready (rs := [6]) (by decide +kernel) (by simp) ?_
      refine AllReady.cons rfl (fun K hK => ?_) AllReady.nil
      go_simp
      refine hK _ _ ?_
      clear hK K
      refine wpAny_ready (rs := [7]) (by decide +kernel) (by simp) ?_
      refine AllReady.cons rfl (fun K hK => ?_) AllReady.nil
      go_simp
      refine hK _ _ ?_
      clear hK K
      refine wpAny_ready (rs := [8]) (by decide +kernel) (by simp) ?_
      refine AllReady.cons rfl (fun K hK => ?_) AllReady.nil
      go_simp
      refine hK _ _ ?_
      clear hK K
      refine wpAny_take (i := 9) (v := ?_) rfl (by kernel_rfl) (by decide +kernel) (by decide +kernel) (fun _ _ _ h => h) (Or.inl ⟨by kernel_rfl, ?_⟩) ?_
      rotate_left
      · intro w
        go_simp
        try with_reducible rfl
      try simp only [List.getElem_toArray, List.getElem_cons_succ, List.getElem_cons_zero]
      refine wpAny_ready (rs := [10]) (by decide +kernel) (by simp) ?_
      refine AllReady.cons rfl (fun K hK => ?_) AllReady.nil
      go_simp
      refine hK _ _ ?_
      clear hK K
      refine wpAny_ready (rs := [11]) (by decide +kernel) (by simp) ?_
      refine AllReady.cons rfl (fun K hK => ?_) AllReady.nil
      go_simp
      refine hK _ _ ?_
      clear hK K
      refine wpAny_ready (rs := [12]) (by decide +kernel) (by simp) ?_
      refine AllReady.cons rfl (fun K hK => ?_) AllReady.nil
      go_simp
      refine hK _ _ ?_
      clear hK K
      refine wpAny_ready (rs := [13]) (by decide +kernel) (by simp) ?_
      refine AllReady.cons rfl (fun K hK => ?_) AllReady.nil
      go_simp
      refine hK _ _ ?_
      clear hK K
      refine wpAny_ready (rs := [14]) (by decide +kernel) (by simp) ?_
      refine AllReady.cons rfl (fun K hK => ?_) AllReady.nil
      go_simp
      refine hK _ _ ?_
      clear hK K
      refine wpAny_done (by decide +kernel) ?_ _
      go_simp
      go_wp2
      go_ret
      exact ⟨rfl, B1.2.2.2⟩
    · go_simp
      refine hK _ _ ?_
      clear hK K
      refine wpAny_ready (rs := [4]) (by decide +kernel) (by simp) ?_
      refine AllReady.cons rfl (fun K hK => ?_) AllReady.nil
      go_simp
      refine hK _ _ ?_
      clear hK K
      refine wpAny_ready (rs := [7]) (by decide +kernel) (by simp) ?_
      refine AllReady.cons rfl (fun K hK => ?_) AllReady.nil
      go_simp
      refine hK _ _ ?_
      clear hK K
      refine wpAny_ready (rs := [8]) (by decide +kernel) (by simp) ?_
      refine AllReady.cons rfl (fun K hK => ?_) AllReady.nil
      go_simp
      refine hK _ _ ?_
      clear hK K
      refine wpAny_take (i := 9) (v := ?_) rfl (by kernel_rfl) (by decide +kernel) (by decide +kernel) (fun _ _ _ h => h) (Or.inl ⟨by kernel_rfl, ?_⟩) ?_
      rotate_left
      · intro w
        go_simp
        try with_reducible rfl
      try simp only [List.getElem_toArray, List.getElem_cons_succ, List.getElem_cons_zero]
      refine wpAny_ready (rs := [10]) (by decide +kernel) (by simp) ?_
      refine AllReady.cons rfl (fun K hK => ?_) AllReady.nil
      go_simp
      refine hK _ _ ?_
      clear hK K
      refine wpAny_ready (rs := [11]) (by decide +kernel) (by simp) ?_
      refine AllReady.cons rfl (fun K hK => ?_) AllReady.nil
      go_simp
      refine hK _ _ ?_
      clear hK K
      refine wpAny_ready (rs := [12]) (by decide +kernel) (by simp) ?_
      refine AllReady.cons rfl (fun K hK => ?_) AllReady.nil
      go_simp
      refine hK _ _ ?_
      clear hK K
      refine wpAny_ready (rs := [13]) (by decide +kernel) (by simp) ?_
      refine AllReady.cons rfl (fun K hK => ?_) AllReady.nil
      go_simp
      refine hK _ _ ?_
      clear hK K
      refine wpAny_ready (rs := [14]) (by decide +kernel) (by simp) ?_
      refine AllReady.cons rfl (fun K hK => ?_) AllReady.nil
      go_simp
      refine hK _ _ ?_
      clear hK K
      refine wpAny_done (by decide +kernel) ?_ _
      go_simp
      go_wp2
      go_ret
      exact ⟨rfl, B1.2.2.2⟩
end Go.Proofs.Ytglknakgfnoeaaa
