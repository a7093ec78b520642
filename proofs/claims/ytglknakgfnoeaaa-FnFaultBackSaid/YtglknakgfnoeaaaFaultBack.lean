/-
  WALKS: a fault counted from the other end.
-/
import Derived.Test.YtglknakgfnoeaaaFault
namespace Go.Proofs.Ytglknakgfnoeaaa
set_option linter.unusedVariables false
set_option linter.unusedSimpArgs false
open Go.RowKit

/-- A fault counted from the other end. -/
def fbM (fl : List Int) (n : Nat) (m o : Int) : Int := if faultOk fl n m o = true then miles fl n - m else 0
def fbO (fl : List Int) (n : Nat) (m o : Int) : Int := if faultOk fl n m o = true then o else 0

/-- A fault in its box, and the result's box behind it. -/
abbrev Two (w w' : World) (m o : Int) : Prop := Boxed w w' m o ∧ w'.heap[w.heap.size + 1]? = some (.cells #[.int .i64 0, .int .i64 0] 32 (0, 0)) ∧ w.heap.size + 1 < w'.heap.size
theorem Two.on {w w' w'' : World} {m o : Int} (h : Two w w' m o) (hb : Below w'.heap.size w' w'') : Two w w'' m o := ⟨Boxed.on h.1 hb, (hb.block _ h.2.2).trans h.2.1, by have := hb.size; have := h.2.2; omega⟩
theorem Two.drew {w w' : World} {m o : Int} (h : Two w w' m o) : Two w w'.drew m o := ⟨Boxed.drew h.1, h.2.1, h.2.2⟩
theorem Two.cells {w w' : World} {m o : Int} (h : Two w w' m o) : w'.cell? ⟨w.heap.size + 1, 0, none⟩ = some (.int .i64 0) ∧ w'.cell? ⟨w.heap.size + 1, 1, none⟩ = some (.int .i64 0) ∧ w'.frozen? ⟨w.heap.size + 1, 0, none⟩ = false ∧ w'.frozen? ⟨w.heap.size + 1, 1, none⟩ = false := by
  obtain ⟨-, hR, -⟩ := h
  exact ⟨cell_of_row w' (w.heap.size + 1) 0 _ _ _ hR, cell_of_row w' (w.heap.size + 1) 1 _ _ _ hR, by simp [World.frozen?, hR], by simp [World.frozen?, hR]⟩

set_option maxHeartbeats 6400000 in
theorem faultBack_any (A : Option Addr) (fl : List Int) (n cap : Nat) (m o : Int) (w : World) (hl : fl.length = n * 3) (h : Ints w w.heap.size A fl) (hn : n ≤ 1048576) :
    Calls Try.prog 24 #[.slice A n cap, .agg #[.int .i64 m, .int .i64 o]] w fun e w' => e = .returned (.tuple #[.agg #[.int .i64 (fbM fl n m o), .int .i64 (fbO fl n m o)], .bool (faultOk fl n m o)]) ∧ Below w.heap.size w w' := by
  have HV := hide (fun (w' : World) (hb : Boxed w w' m o) => faultValid_any A fl n cap m o w' hl (h.next hb.2.2.2) hn)
  have HC := hide (fun (w' : World) (hb : Boxed w w' m o) => cableMiles_any A fl n cap w' hl (h.next hb.2.2.2) hn)
  clear hl h
  by_cases hf : faultOk fl n m o = true
  · have HF := hide hf
    have HA := hide (show fbM fl n m o = miles fl n - m by simp [fbM, hf])
    have HB := hide (show fbO fl n m o = o by simp [fbO, hf])
    rw [HF.out, HA.out, HB.out]
    have B0 : Boxed w ((w.alloc (.cells #[.int .i64 m, .int .i64 o] 32)).alloc (.cells #[.int .i64 0, .int .i64 0] 32)) m o := ⟨by go_cell, by go_cell, by simp only [World.alloc, Array.size_push]; omega, by go_grown⟩
    obtain ⟨m0, m1⟩ := inB_iff.1 (show inB m 0 (miles fl n) = true by simp [faultOk] at hf; exact hf.1)
    obtain ⟨z0, z1⟩ := miles_le (show cableOk fl n = true by
      cases e : cableOk fl n
      · have : miles fl n = -1 := by simp [miles, e]
        omega
      · rfl)
    have HW := hide (show IntKind.i64.wrap (miles fl n - m) = miles fl n - m from IntWalk.i64_in _ (by omega))
    clear hf
    go_enter Try.func24, Try.ntmps24
    go_wp2_with fail
    (with_reducible refine (HV.out _ B0).mono ?_)
    rintro e w1 ⟨rfl, hb1⟩
    rw [HF.out]
    have B1 : Two w w1 m o := ⟨B0.on hb1, (hb1.block (w.heap.size + 1) (by simp only [World.alloc, Array.size_push]; omega)).trans (by simp only [World.alloc]; rw [Array.getElem?_push]; simp), by have := hb1.size; simp only [World.alloc, Array.size_push] at this; omega⟩
    clear hb1 B0
    go_wp2_with fail
    refine wp_region_any (by kernel_rfl) ?_
    try (change wpAny _ _ _ _ _ _ _ (World.drew _))
    replace B1 := Two.drew B1
    generalize (World.drew _) = wa at B1 ⊢
    refine wpAny_take (i := 0) (v := ?_) rfl (by kernel_rfl) (by decide +kernel) (by decide +kernel) (fun _ _ _ h => h) (Or.inl ⟨by kernel_rfl, ?_⟩) ?_
    rotate_left
    · intro w
      go_simp
      try with_reducible rfl
    try simp only [List.getElem_toArray, List.getElem_cons_succ, List.getElem_cons_zero]
    refine wpAny_take (i := 2) (v := ?_) rfl (by kernel_rfl) (by decide +kernel) (by decide +kernel) (fun _ _ _ h => h) (Or.inl ⟨by kernel_rfl, ?_⟩) ?_
    rotate_left
    · intro w
      go_simp
      try with_reducible rfl
    try simp only [List.getElem_toArray, List.getElem_cons_succ, List.getElem_cons_zero]
    refine wpAny_take (i := 5) (v := ?_) rfl (by kernel_rfl) (by decide +kernel) (by decide +kernel) (fun _ _ _ h => h) (Or.inl ⟨by kernel_rfl, ?_⟩) ?_
    rotate_left
    · intro w
      go_simp
      try with_reducible rfl
    try simp only [List.getElem_toArray, List.getElem_cons_succ, List.getElem_cons_zero]
    refine wpAny_ready (rs := [1, 3, 6]) (by decide +kernel) (by simp) ?_
    refine AllReady.cons rfl (fun K hK => ?_) (AllReady.cons rfl (fun K hK => ?_) (AllReady.cons rfl (fun K hK => ?_) (AllReady.nil)))
    · go_simp
      (with_reducible refine (HC.out _ B1.1).mono ?_)
      rintro e v2 ⟨rfl, hv2⟩
      refine hK _ _ ?_
      clear hK K
      have D2 := B1.on hv2
      refine wpAny_ready (rs := [3, 6]) (by decide +kernel) (by simp) ?_
      refine AllReady.cons rfl (fun K hK => ?_) (AllReady.cons rfl (fun K hK => ?_) (AllReady.nil))
      · have k0 := D2.1.1
        have k1 := D2.1.2.1
        go_simp
        refine hK _ _ ?_
        clear hK K
        refine wpAny_take (i := 4) (v := ?_) rfl (by kernel_rfl) (by decide +kernel) (by decide +kernel) (fun _ _ _ h => h) (Or.inl ⟨by kernel_rfl, ?_⟩) ?_
        rotate_left
        · intro w
          go_simp
          try with_reducible rfl
        try simp only [List.getElem_toArray, List.getElem_cons_succ, List.getElem_cons_zero]
        refine wpAny_ready (rs := [6]) (by decide +kernel) (by simp) ?_
        refine AllReady.cons rfl (fun K hK => ?_) AllReady.nil
        have k0 := D2.1.1
        have k1 := D2.1.2.1
        go_simp
        refine hK _ _ ?_
        clear hK K
        obtain ⟨r0, r1, f0, f1⟩ := D2.cells
        refine wpAny_take (i := 7) (v := ?_) rfl (by kernel_rfl) (by decide +kernel) (by decide +kernel) (fun _ _ _ h => h) (Or.inl ⟨by kernel_rfl, ?_⟩) ?_
        rotate_left
        · intro w
          go_simp
          try with_reducible rfl
        try simp only [List.getElem_toArray, List.getElem_cons_succ, List.getElem_cons_zero]
        refine wpAny_ready (rs := [8]) (by decide +kernel) (by simp) ?_
        refine AllReady.cons rfl (fun K hK => ?_) AllReady.nil
        go_simp
        refine hK _ _ ?_
        clear hK K
        refine wpAny_ready (rs := [9]) (by decide +kernel) (by simp) ?_
        refine AllReady.cons rfl (fun K hK => ?_) AllReady.nil
        go_simp
        refine hK _ _ ?_
        clear hK K
        refine wpAny_done (by decide +kernel) ?_ _
        go_simp
        go_wp2
        obtain ⟨s0, s1⟩ := two_set (a := .int .i64 (IntKind.i64.wrap (miles fl n - m))) (b := .int .i64 o) r0 r1
        exact bodyPost_ret (v := .tuple #[.agg #[.int .i64 (IntKind.i64.wrap (miles fl n - m)), .int .i64 o], .bool true]) (by simp [results, Try.results24, go_sem, s0, s1]) rfl ⟨by rw [HW.out], (D2.1.2.2.2.setCell (Nat.le_succ _) _).setCell (Nat.le_succ _) _⟩
      · have k0 := D2.1.1
        have k1 := D2.1.2.1
        go_simp
        refine hK _ _ ?_
        clear hK K
        refine wpAny_ready (rs := [3]) (by decide +kernel) (by simp) ?_
        refine AllReady.cons rfl (fun K hK => ?_) AllReady.nil
        have k0 := D2.1.1
        have k1 := D2.1.2.1
        go_simp
        refine hK _ _ ?_
        clear hK K
        refine wpAny_take (i := 4) (v := ?_) rfl (by kernel_rfl) (by decide +kernel) (by decide +kernel) (fun _ _ _ h => h) (Or.inl ⟨by kernel_rfl, ?_⟩) ?_
        rotate_left
        · intro w
          go_simp
          try with_reducible rfl
        try simp only [List.getElem_toArray, List.getElem_cons_succ, List.getElem_cons_zero]
        obtain ⟨r0, r1, f0, f1⟩ := D2.cells
        refine wpAny_take (i := 7) (v := ?_) rfl (by kernel_rfl) (by decide +kernel) (by decide +kernel) (fun _ _ _ h => h) (Or.inl ⟨by kernel_rfl, ?_⟩) ?_
        rotate_left
        · intro w
          go_simp
          try with_reducible rfl
        try simp only [List.getElem_toArray, List.getElem_cons_succ, List.getElem_cons_zero]
        refine wpAny_ready (rs := [8]) (by decide +kernel) (by simp) ?_
        refine AllReady.cons rfl (fun K hK => ?_) AllReady.nil
        go_simp
        refine hK _ _ ?_
        clear hK K
        refine wpAny_ready (rs := [9]) (by decide +kernel) (by simp) ?_
        refine AllReady.cons rfl (fun K hK => ?_) AllReady.nil
        go_simp
        refine hK _ _ ?_
        clear hK K
        refine wpAny_done (by decide +kernel) ?_ _
        go_simp
        go_wp2
        obtain ⟨s0, s1⟩ := two_set (a := .int .i64 (IntKind.i64.wrap (miles fl n - m))) (b := .int .i64 o) r0 r1
        exact bodyPost_ret (v := .tuple #[.agg #[.int .i64 (IntKind.i64.wrap (miles fl n - m)), .int .i64 o], .bool true]) (by simp [results, Try.results24, go_sem, s0, s1]) rfl ⟨by rw [HW.out], (D2.1.2.2.2.setCell (Nat.le_succ _) _).setCell (Nat.le_succ _) _⟩
    · have k0 := B1.1.1
      have k1 := B1.1.2.1
      go_simp
      refine hK _ _ ?_
      clear hK K
      refine wpAny_ready (rs := [1, 6]) (by decide +kernel) (by simp) ?_
      refine AllReady.cons rfl (fun K hK => ?_) (AllReady.cons rfl (fun K hK => ?_) (AllReady.nil))
      · go_simp
        (with_reducible refine (HC.out _ B1.1).mono ?_)
        rintro e v3 ⟨rfl, hv3⟩
        refine hK _ _ ?_
        clear hK K
        have D3 := B1.on hv3
        refine wpAny_take (i := 4) (v := ?_) rfl (by kernel_rfl) (by decide +kernel) (by decide +kernel) (fun _ _ _ h => h) (Or.inl ⟨by kernel_rfl, ?_⟩) ?_
        rotate_left
        · intro w
          go_simp
          try with_reducible rfl
        try simp only [List.getElem_toArray, List.getElem_cons_succ, List.getElem_cons_zero]
        refine wpAny_ready (rs := [6]) (by decide +kernel) (by simp) ?_
        refine AllReady.cons rfl (fun K hK => ?_) AllReady.nil
        have k0 := D3.1.1
        have k1 := D3.1.2.1
        go_simp
        refine hK _ _ ?_
        clear hK K
        obtain ⟨r0, r1, f0, f1⟩ := D3.cells
        refine wpAny_take (i := 7) (v := ?_) rfl (by kernel_rfl) (by decide +kernel) (by decide +kernel) (fun _ _ _ h => h) (Or.inl ⟨by kernel_rfl, ?_⟩) ?_
        rotate_left
        · intro w
          go_simp
          try with_reducible rfl
        try simp only [List.getElem_toArray, List.getElem_cons_succ, List.getElem_cons_zero]
        refine wpAny_ready (rs := [8]) (by decide +kernel) (by simp) ?_
        refine AllReady.cons rfl (fun K hK => ?_) AllReady.nil
        go_simp
        refine hK _ _ ?_
        clear hK K
        refine wpAny_ready (rs := [9]) (by decide +kernel) (by simp) ?_
        refine AllReady.cons rfl (fun K hK => ?_) AllReady.nil
        go_simp
        refine hK _ _ ?_
        clear hK K
        refine wpAny_done (by decide +kernel) ?_ _
        go_simp
        go_wp2
        obtain ⟨s0, s1⟩ := two_set (a := .int .i64 (IntKind.i64.wrap (miles fl n - m))) (b := .int .i64 o) r0 r1
        exact bodyPost_ret (v := .tuple #[.agg #[.int .i64 (IntKind.i64.wrap (miles fl n - m)), .int .i64 o], .bool true]) (by simp [results, Try.results24, go_sem, s0, s1]) rfl ⟨by rw [HW.out], (D3.1.2.2.2.setCell (Nat.le_succ _) _).setCell (Nat.le_succ _) _⟩
      · have k0 := B1.1.1
        have k1 := B1.1.2.1
        go_simp
        refine hK _ _ ?_
        clear hK K
        refine wpAny_ready (rs := [1]) (by decide +kernel) (by simp) ?_
        refine AllReady.cons rfl (fun K hK => ?_) AllReady.nil
        go_simp
        (with_reducible refine (HC.out _ B1.1).mono ?_)
        rintro e v4 ⟨rfl, hv4⟩
        refine hK _ _ ?_
        clear hK K
        have D4 := B1.on hv4
        refine wpAny_take (i := 4) (v := ?_) rfl (by kernel_rfl) (by decide +kernel) (by decide +kernel) (fun _ _ _ h => h) (Or.inl ⟨by kernel_rfl, ?_⟩) ?_
        rotate_left
        · intro w
          go_simp
          try with_reducible rfl
        try simp only [List.getElem_toArray, List.getElem_cons_succ, List.getElem_cons_zero]
        obtain ⟨r0, r1, f0, f1⟩ := D4.cells
        refine wpAny_take (i := 7) (v := ?_) rfl (by kernel_rfl) (by decide +kernel) (by decide +kernel) (fun _ _ _ h => h) (Or.inl ⟨by kernel_rfl, ?_⟩) ?_
        rotate_left
        · intro w
          go_simp
          try with_reducible rfl
        try simp only [List.getElem_toArray, List.getElem_cons_succ, List.getElem_cons_zero]
        refine wpAny_ready (rs := [8]) (by decide +kernel) (by simp) ?_
        refine AllReady.cons rfl (fun K hK => ?_) AllReady.nil
        go_simp
        refine hK _ _ ?_
        clear hK K
        refine wpAny_ready (rs := [9]) (by decide +kernel) (by simp) ?_
        refine AllReady.cons rfl (fun K hK => ?_) AllReady.nil
        go_simp
        refine hK _ _ ?_
        clear hK K
        refine wpAny_done (by decide +kernel) ?_ _
        go_simp
        go_wp2
        obtain ⟨s0, s1⟩ := two_set (a := .int .i64 (IntKind.i64.wrap (miles fl n - m))) (b := .int .i64 o) r0 r1
        exact bodyPost_ret (v := .tuple #[.agg #[.int .i64 (IntKind.i64.wrap (miles fl n - m)), .int .i64 o], .bool true]) (by simp [results, Try.results24, go_sem, s0, s1]) rfl ⟨by rw [HW.out], (D4.1.2.2.2.setCell (Nat.le_succ _) _).setCell (Nat.le_succ _) _⟩
    · have k0 := B1.1.1
      have k1 := B1.1.2.1
      go_simp
      refine hK _ _ ?_
      clear hK K
      refine wpAny_ready (rs := [1, 3]) (by decide +kernel) (by simp) ?_
      refine AllReady.cons rfl (fun K hK => ?_) (AllReady.cons rfl (fun K hK => ?_) (AllReady.nil))
      · go_simp
        (with_reducible refine (HC.out _ B1.1).mono ?_)
        rintro e v3 ⟨rfl, hv3⟩
        refine hK _ _ ?_
        clear hK K
        have D3 := B1.on hv3
        refine wpAny_ready (rs := [3]) (by decide +kernel) (by simp) ?_
        refine AllReady.cons rfl (fun K hK => ?_) AllReady.nil
        have k0 := D3.1.1
        have k1 := D3.1.2.1
        go_simp
        refine hK _ _ ?_
        clear hK K
        refine wpAny_take (i := 4) (v := ?_) rfl (by kernel_rfl) (by decide +kernel) (by decide +kernel) (fun _ _ _ h => h) (Or.inl ⟨by kernel_rfl, ?_⟩) ?_
        rotate_left
        · intro w
          go_simp
          try with_reducible rfl
        try simp only [List.getElem_toArray, List.getElem_cons_succ, List.getElem_cons_zero]
        obtain ⟨r0, r1, f0, f1⟩ := D3.cells
        refine wpAny_take (i := 7) (v := ?_) rfl (by kernel_rfl) (by decide +kernel) (by decide +kernel) (fun _ _ _ h => h) (Or.inl ⟨by kernel_rfl, ?_⟩) ?_
        rotate_left
        · intro w
          go_simp
          try with_reducible rfl
        try simp only [List.getElem_toArray, List.getElem_cons_succ, List.getElem_cons_zero]
        refine wpAny_ready (rs := [8]) (by decide +kernel) (by simp) ?_
        refine AllReady.cons rfl (fun K hK => ?_) AllReady.nil
        go_simp
        refine hK _ _ ?_
        clear hK K
        refine wpAny_ready (rs := [9]) (by decide +kernel) (by simp) ?_
        refine AllReady.cons rfl (fun K hK => ?_) AllReady.nil
        go_simp
        refine hK _ _ ?_
        clear hK K
        refine wpAny_done (by decide +kernel) ?_ _
        go_simp
        go_wp2
        obtain ⟨s0, s1⟩ := two_set (a := .int .i64 (IntKind.i64.wrap (miles fl n - m))) (b := .int .i64 o) r0 r1
        exact bodyPost_ret (v := .tuple #[.agg #[.int .i64 (IntKind.i64.wrap (miles fl n - m)), .int .i64 o], .bool true]) (by simp [results, Try.results24, go_sem, s0, s1]) rfl ⟨by rw [HW.out], (D3.1.2.2.2.setCell (Nat.le_succ _) _).setCell (Nat.le_succ _) _⟩
      · have k0 := B1.1.1
        have k1 := B1.1.2.1
        go_simp
        refine hK _ _ ?_
        clear hK K
        refine wpAny_ready (rs := [1]) (by decide +kernel) (by simp) ?_
        refine AllReady.cons rfl (fun K hK => ?_) AllReady.nil
        go_simp
        (with_reducible refine (HC.out _ B1.1).mono ?_)
        rintro e v4 ⟨rfl, hv4⟩
        refine hK _ _ ?_
        clear hK K
        have D4 := B1.on hv4
        refine wpAny_take (i := 4) (v := ?_) rfl (by kernel_rfl) (by decide +kernel) (by decide +kernel) (fun _ _ _ h => h) (Or.inl ⟨by kernel_rfl, ?_⟩) ?_
        rotate_left
        · intro w
          go_simp
          try with_reducible rfl
        try simp only [List.getElem_toArray, List.getElem_cons_succ, List.getElem_cons_zero]
        obtain ⟨r0, r1, f0, f1⟩ := D4.cells
        refine wpAny_take (i := 7) (v := ?_) rfl (by kernel_rfl) (by decide +kernel) (by decide +kernel) (fun _ _ _ h => h) (Or.inl ⟨by kernel_rfl, ?_⟩) ?_
        rotate_left
        · intro w
          go_simp
          try with_reducible rfl
        try simp only [List.getElem_toArray, List.getElem_cons_succ, List.getElem_cons_zero]
        refine wpAny_ready (rs := [8]) (by decide +kernel) (by simp) ?_
        refine AllReady.cons rfl (fun K hK => ?_) AllReady.nil
        go_simp
        refine hK _ _ ?_
        clear hK K
        refine wpAny_ready (rs := [9]) (by decide +kernel) (by simp) ?_
        refine AllReady.cons rfl (fun K hK => ?_) AllReady.nil
        go_simp
        refine hK _ _ ?_
        clear hK K
        refine wpAny_done (by decide +kernel) ?_ _
        go_simp
        go_wp2
        obtain ⟨s0, s1⟩ := two_set (a := .int .i64 (IntKind.i64.wrap (miles fl n - m))) (b := .int .i64 o) r0 r1
        exact bodyPost_ret (v := .tuple #[.agg #[.int .i64 (IntKind.i64.wrap (miles fl n - m)), .int .i64 o], .bool true]) (by simp [results, Try.results24, go_sem, s0, s1]) rfl ⟨by rw [HW.out], (D4.1.2.2.2.setCell (Nat.le_succ _) _).setCell (Nat.le_succ _) _⟩
  · have hf' : faultOk fl n m o = false := by simpa using hf
    have HF := hide hf'
    have HA := hide (show fbM fl n m o = 0 by simp [fbM, hf'])
    have HB := hide (show fbO fl n m o = 0 by simp [fbO, hf'])
    rw [HF.out, HA.out, HB.out]
    have B0 : Boxed w ((w.alloc (.cells #[.int .i64 m, .int .i64 o] 32)).alloc (.cells #[.int .i64 0, .int .i64 0] 32)) m o := ⟨by go_cell, by go_cell, by simp only [World.alloc, Array.size_push]; omega, by go_grown⟩
    clear hf hf'
    go_enter Try.func24, Try.ntmps24
    go_wp2_with fail
    (with_reducible refine (HV.out _ B0).mono ?_)
    rintro e w1 ⟨rfl, hb1⟩
    rw [HF.out]
    have B1 := B0.on hb1
    have hR : w1.heap[w.heap.size + 1]? = some (.cells #[.int .i64 0, .int .i64 0] 32 (0, 0)) := (hb1.block (w.heap.size + 1) (by simp only [World.alloc, Array.size_push]; omega)).trans (by simp only [World.alloc]; rw [Array.getElem?_push]; simp)
    have r0 : w1.cell? ⟨w.heap.size + 1, 0, none⟩ = some (.int .i64 0) := cell_of_row w1 (w.heap.size + 1) 0 _ _ _ hR
    have r1 : w1.cell? ⟨w.heap.size + 1, 1, none⟩ = some (.int .i64 0) := cell_of_row w1 (w.heap.size + 1) 1 _ _ _ hR
    have f0 : w1.frozen? ⟨w.heap.size + 1, 0, none⟩ = false := by simp [World.frozen?, hR]
    have f1 : w1.frozen? ⟨w.heap.size + 1, 1, none⟩ = false := by simp [World.frozen?, hR]
    clear hR
    go_wp2
    obtain ⟨s0, s1⟩ := two_set (a := .int .i64 0) (b := .int .i64 0) r0 r1
    refine bodyPost_ret (v := .tuple #[.agg #[.int .i64 0, .int .i64 0], .bool false]) (by simp [results, Try.results24, go_sem, s0, s1]) rfl ⟨rfl, ?_⟩
    exact (B1.2.2.2.setCell (Nat.le_succ _) _).setCell (Nat.le_succ _) _

set_option maxHeartbeats 6400000 in
theorem specFaultBack_any (A : Option Addr) (fl : List Int) (n cap : Nat) (m o : Int) (w : World) (hl : fl.length = n * 3) (h : Ints w w.heap.size A fl) (hn : n ≤ 1048576) :
    Calls Try.prog 25 #[.slice A n cap, .agg #[.int .i64 m, .int .i64 o]] w fun e w' => e = .returned (.tuple #[.agg #[.int .i64 (fbM fl n m o), .int .i64 (fbO fl n m o)], .bool (faultOk fl n m o)]) ∧ Below w.heap.size w w' := by
  have HV := hide (fun (w' : World) (hb : Boxed w w' m o) => specFaultValid_any A fl n cap m o w' hl (h.next hb.2.2.2) hn)
  have HC := hide (fun (w' : World) (hb : Boxed w w' m o) => specCableMiles_any A fl n cap w' hl (h.next hb.2.2.2) hn)
  clear hl h
  by_cases hf : faultOk fl n m o = true
  · have HF := hide hf
    have HA := hide (show fbM fl n m o = miles fl n - m by simp [fbM, hf])
    have HB := hide (show fbO fl n m o = o by simp [fbO, hf])
    rw [HF.out, HA.out, HB.out]
    have B0 : Boxed w ((w.alloc (.cells #[.int .i64 m, .int .i64 o] 32)).alloc (.cells #[.int .i64 0, .int .i64 0] 32)) m o := ⟨by go_cell, by go_cell, by simp only [World.alloc, Array.size_push]; omega, by go_grown⟩
    obtain ⟨m0, m1⟩ := inB_iff.1 (show inB m 0 (miles fl n) = true by simp [faultOk] at hf; exact hf.1)
    obtain ⟨z0, z1⟩ := miles_le (show cableOk fl n = true by
      cases e : cableOk fl n
      · have : miles fl n = -1 := by simp [miles, e]
        omega
      · rfl)
    have HW := hide (show IntKind.i64.wrap (miles fl n - m) = miles fl n - m from IntWalk.i64_in _ (by omega))
    clear hf
    go_enter Try.func25, Try.ntmps25
    go_wp2_with fail
    (with_reducible refine (HV.out _ B0).mono ?_)
    rintro e w1 ⟨rfl, hb1⟩
    rw [HF.out]
    have B1 : Two w w1 m o := ⟨B0.on hb1, (hb1.block (w.heap.size + 1) (by simp only [World.alloc, Array.size_push]; omega)).trans (by simp only [World.alloc]; rw [Array.getElem?_push]; simp), by have := hb1.size; simp only [World.alloc, Array.size_push] at this; omega⟩
    clear hb1 B0
    go_wp2_with fail
    refine wp_region_any (by kernel_rfl) ?_
    try (change wpAny _ _ _ _ _ _ _ (World.drew _))
    replace B1 := Two.drew B1
    generalize (World.drew _) = wa at B1 ⊢
    refine wpAny_take (i := 0) (v := ?_) rfl (by kernel_rfl) (by decide +kernel) (by decide +kernel) (fun _ _ _ h => h) (Or.inl ⟨by kernel_rfl, ?_⟩) ?_
    rotate_left
    · intro w
      go_simp
      try with_reducible rfl
    try simp only [List.getElem_toArray, List.getElem_cons_succ, List.getElem_cons_zero]
    refine wpAny_take (i := 2) (v := ?_) rfl (by kernel_rfl) (by decide +kernel) (by decide +kernel) (fun _ _ _ h => h) (Or.inl ⟨by kernel_rfl, ?_⟩) ?_
    rotate_left
    · intro w
      go_simp
      try with_reducible rfl
    try simp only [List.getElem_toArray, List.getElem_cons_succ, List.getElem_cons_zero]
    refine wpAny_take (i := 5) (v := ?_) rfl (by kernel_rfl) (by decide +kernel) (by decide +kernel) (fun _ _ _ h => h) (Or.inl ⟨by kernel_rfl, ?_⟩) ?_
    rotate_left
    · intro w
      go_simp
      try with_reducible rfl
    try simp only [List.getElem_toArray, List.getElem_cons_succ, List.getElem_cons_zero]
    refine wpAny_ready (rs := [1, 3, 6]) (by decide +kernel) (by simp) ?_
    refine AllReady.cons rfl (fun K hK => ?_) (AllReady.cons rfl (fun K hK => ?_) (AllReady.cons rfl (fun K hK => ?_) (AllReady.nil)))
    · go_simp
      (with_reducible refine (HC.out _ B1.1).mono ?_)
      rintro e v2 ⟨rfl, hv2⟩
      refine hK _ _ ?_
      clear hK K
      have D2 := B1.on hv2
      refine wpAny_ready (rs := [3, 6]) (by decide +kernel) (by simp) ?_
      refine AllReady.cons rfl (fun K hK => ?_) (AllReady.cons rfl (fun K hK => ?_) (AllReady.nil))
      · have k0 := D2.1.1
        have k1 := D2.1.2.1
        go_simp
        refine hK _ _ ?_
        clear hK K
        refine wpAny_take (i := 4) (v := ?_) rfl (by kernel_rfl) (by decide +kernel) (by decide +kernel) (fun _ _ _ h => h) (Or.inl ⟨by kernel_rfl, ?_⟩) ?_
        rotate_left
        · intro w
          go_simp
          try with_reducible rfl
        try simp only [List.getElem_toArray, List.getElem_cons_succ, List.getElem_cons_zero]
        refine wpAny_ready (rs := [6]) (by decide +kernel) (by simp) ?_
        refine AllReady.cons rfl (fun K hK => ?_) AllReady.nil
        have k0 := D2.1.1
        have k1 := D2.1.2.1
        go_simp
        refine hK _ _ ?_
        clear hK K
        obtain ⟨r0, r1, f0, f1⟩ := D2.cells
        refine wpAny_take (i := 7) (v := ?_) rfl (by kernel_rfl) (by decide +kernel) (by decide +kernel) (fun _ _ _ h => h) (Or.inl ⟨by kernel_rfl, ?_⟩) ?_
        rotate_left
        · intro w
          go_simp
          try with_reducible rfl
        try simp only [List.getElem_toArray, List.getElem_cons_succ, List.getElem_cons_zero]
        refine wpAny_ready (rs := [8]) (by decide +kernel) (by simp) ?_
        refine AllReady.cons rfl (fun K hK => ?_) AllReady.nil
        go_simp
        refine hK _ _ ?_
        clear hK K
        refine wpAny_ready (rs := [9]) (by decide +kernel) (by simp) ?_
        refine AllReady.cons rfl (fun K hK => ?_) AllReady.nil
        go_simp
        refine hK _ _ ?_
        clear hK K
        refine wpAny_done (by decide +kernel) ?_ _
        go_simp
        go_wp2
        obtain ⟨s0, s1⟩ := two_set (a := .int .i64 (IntKind.i64.wrap (miles fl n - m))) (b := .int .i64 o) r0 r1
        exact bodyPost_ret (v := .tuple #[.agg #[.int .i64 (IntKind.i64.wrap (miles fl n - m)), .int .i64 o], .bool true]) (by simp [results, Try.results25, go_sem, s0, s1]) rfl ⟨by rw [HW.out], (D2.1.2.2.2.setCell (Nat.le_succ _) _).setCell (Nat.le_succ _) _⟩
      · have k0 := D2.1.1
        have k1 := D2.1.2.1
        go_simp
        refine hK _ _ ?_
        clear hK K
        refine wpAny_ready (rs := [3]) (by decide +kernel) (by simp) ?_
        refine AllReady.cons rfl (fun K hK => ?_) AllReady.nil
        have k0 := D2.1.1
        have k1 := D2.1.2.1
        go_simp
        refine hK _ _ ?_
        clear hK K
        refine wpAny_take (i := 4) (v := ?_) rfl (by kernel_rfl) (by decide +kernel) (by decide +kernel) (fun _ _ _ h => h) (Or.inl ⟨by kernel_rfl, ?_⟩) ?_
        rotate_left
        · intro w
          go_simp
          try with_reducible rfl
        try simp only [List.getElem_toArray, List.getElem_cons_succ, List.getElem_cons_zero]
        obtain ⟨r0, r1, f0, f1⟩ := D2.cells
        refine wpAny_take (i := 7) (v := ?_) rfl (by kernel_rfl) (by decide +kernel) (by decide +kernel) (fun _ _ _ h => h) (Or.inl ⟨by kernel_rfl, ?_⟩) ?_
        rotate_left
        · intro w
          go_simp
          try with_reducible rfl
        try simp only [List.getElem_toArray, List.getElem_cons_succ, List.getElem_cons_zero]
        refine wpAny_ready (rs := [8]) (by decide +kernel) (by simp) ?_
        refine AllReady.cons rfl (fun K hK => ?_) AllReady.nil
        go_simp
        refine hK _ _ ?_
        clear hK K
        refine wpAny_ready (rs := [9]) (by decide +kernel) (by simp) ?_
        refine AllReady.cons rfl (fun K hK => ?_) AllReady.nil
        go_simp
        refine hK _ _ ?_
        clear hK K
        refine wpAny_done (by decide +kernel) ?_ _
        go_simp
        go_wp2
        obtain ⟨s0, s1⟩ := two_set (a := .int .i64 (IntKind.i64.wrap (miles fl n - m))) (b := .int .i64 o) r0 r1
        exact bodyPost_ret (v := .tuple #[.agg #[.int .i64 (IntKind.i64.wrap (miles fl n - m)), .int .i64 o], .bool true]) (by simp [results, Try.results25, go_sem, s0, s1]) rfl ⟨by rw [HW.out], (D2.1.2.2.2.setCell (Nat.le_succ _) _).setCell (Nat.le_succ _) _⟩
    · have k0 := B1.1.1
      have k1 := B1.1.2.1
      go_simp
      refine hK _ _ ?_
      clear hK K
      refine wpAny_ready (rs := [1, 6]) (by decide +kernel) (by simp) ?_
      refine AllReady.cons rfl (fun K hK => ?_) (AllReady.cons rfl (fun K hK => ?_) (AllReady.nil))
      · go_simp
        (with_reducible refine (HC.out _ B1.1).mono ?_)
        rintro e v3 ⟨rfl, hv3⟩
        refine hK _ _ ?_
        clear hK K
        have D3 := B1.on hv3
        refine wpAny_take (i := 4) (v := ?_) rfl (by kernel_rfl) (by decide +kernel) (by decide +kernel) (fun _ _ _ h => h) (Or.inl ⟨by kernel_rfl, ?_⟩) ?_
        rotate_left
        · intro w
          go_simp
          try with_reducible rfl
        try simp only [List.getElem_toArray, List.getElem_cons_succ, List.getElem_cons_zero]
        refine wpAny_ready (rs := [6]) (by decide +kernel) (by simp) ?_
        refine AllReady.cons rfl (fun K hK => ?_) AllReady.nil
        have k0 := D3.1.1
        have k1 := D3.1.2.1
        go_simp
        refine hK _ _ ?_
        clear hK K
        obtain ⟨r0, r1, f0, f1⟩ := D3.cells
        refine wpAny_take (i := 7) (v := ?_) rfl (by kernel_rfl) (by decide +kernel) (by decide +kernel) (fun _ _ _ h => h) (Or.inl ⟨by kernel_rfl, ?_⟩) ?_
        rotate_left
        · intro w
          go_simp
          try with_reducible rfl
        try simp only [List.getElem_toArray, List.getElem_cons_succ, List.getElem_cons_zero]
        refine wpAny_ready (rs := [8]) (by decide +kernel) (by simp) ?_
        refine AllReady.cons rfl (fun K hK => ?_) AllReady.nil
        go_simp
        refine hK _ _ ?_
        clear hK K
        refine wpAny_ready (rs := [9]) (by decide +kernel) (by simp) ?_
        refine AllReady.cons rfl (fun K hK => ?_) AllReady.nil
        go_simp
        refine hK _ _ ?_
        clear hK K
        refine wpAny_done (by decide +kernel) ?_ _
        go_simp
        go_wp2
        obtain ⟨s0, s1⟩ := two_set (a := .int .i64 (IntKind.i64.wrap (miles fl n - m))) (b := .int .i64 o) r0 r1
        exact bodyPost_ret (v := .tuple #[.agg #[.int .i64 (IntKind.i64.wrap (miles fl n - m)), .int .i64 o], .bool true]) (by simp [results, Try.results25, go_sem, s0, s1]) rfl ⟨by rw [HW.out], (D3.1.2.2.2.setCell (Nat.le_succ _) _).setCell (Nat.le_succ _) _⟩
      · have k0 := B1.1.1
        have k1 := B1.1.2.1
        go_simp
        refine hK _ _ ?_
        clear hK K
        refine wpAny_ready (rs := [1]) (by decide +kernel) (by simp) ?_
        refine AllReady.cons rfl (fun K hK => ?_) AllReady.nil
        go_simp
        (with_reducible refine (HC.out _ B1.1).mono ?_)
        rintro e v4 ⟨rfl, hv4⟩
        refine hK _ _ ?_
        clear hK K
        have D4 := B1.on hv4
        refine wpAny_take (i := 4) (v := ?_) rfl (by kernel_rfl) (by decide +kernel) (by decide +kernel) (fun _ _ _ h => h) (Or.inl ⟨by kernel_rfl, ?_⟩) ?_
        rotate_left
        · intro w
          go_simp
          try with_reducible rfl
        try simp only [List.getElem_toArray, List.getElem_cons_succ, List.getElem_cons_zero]
        obtain ⟨r0, r1, f0, f1⟩ := D4.cells
        refine wpAny_take (i := 7) (v := ?_) rfl (by kernel_rfl) (by decide +kernel) (by decide +kernel) (fun _ _ _ h => h) (Or.inl ⟨by kernel_rfl, ?_⟩) ?_
        rotate_left
        · intro w
          go_simp
          try with_reducible rfl
        try simp only [List.getElem_toArray, List.getElem_cons_succ, List.getElem_cons_zero]
        refine wpAny_ready (rs := [8]) (by decide +kernel) (by simp) ?_
        refine AllReady.cons rfl (fun K hK => ?_) AllReady.nil
        go_simp
        refine hK _ _ ?_
        clear hK K
        refine wpAny_ready (rs := [9]) (by decide +kernel) (by simp) ?_
        refine AllReady.cons rfl (fun K hK => ?_) AllReady.nil
        go_simp
        refine hK _ _ ?_
        clear hK K
        refine wpAny_done (by decide +kernel) ?_ _
        go_simp
        go_wp2
        obtain ⟨s0, s1⟩ := two_set (a := .int .i64 (IntKind.i64.wrap (miles fl n - m))) (b := .int .i64 o) r0 r1
        exact bodyPost_ret (v := .tuple #[.agg #[.int .i64 (IntKind.i64.wrap (miles fl n - m)), .int .i64 o], .bool true]) (by simp [results, Try.results25, go_sem, s0, s1]) rfl ⟨by rw [HW.out], (D4.1.2.2.2.setCell (Nat.le_succ _) _).setCell (Nat.le_succ _) _⟩
    · have k0 := B1.1.1
      have k1 := B1.1.2.1
      go_simp
      refine hK _ _ ?_
      clear hK K
      refine wpAny_ready (rs := [1, 3]) (by decide +kernel) (by simp) ?_
      refine AllReady.cons rfl (fun K hK => ?_) (AllReady.cons rfl (fun K hK => ?_) (AllReady.nil))
      · go_simp
        (with_reducible refine (HC.out _ B1.1).mono ?_)
        rintro e v3 ⟨rfl, hv3⟩
        refine hK _ _ ?_
        clear hK K
        have D3 := B1.on hv3
        refine wpAny_ready (rs := [3]) (by decide +kernel) (by simp) ?_
        refine AllReady.cons rfl (fun K hK => ?_) AllReady.nil
        have k0 := D3.1.1
        have k1 := D3.1.2.1
        go_simp
        refine hK _ _ ?_
        clear hK K
        refine wpAny_take (i := 4) (v := ?_) rfl (by kernel_rfl) (by decide +kernel) (by decide +kernel) (fun _ _ _ h => h) (Or.inl ⟨by kernel_rfl, ?_⟩) ?_
        rotate_left
        · intro w
          go_simp
          try with_reducible rfl
        try simp only [List.getElem_toArray, List.getElem_cons_succ, List.getElem_cons_zero]
        obtain ⟨r0, r1, f0, f1⟩ := D3.cells
        refine wpAny_take (i := 7) (v := ?_) rfl (by kernel_rfl) (by decide +kernel) (by decide +kernel) (fun _ _ _ h => h) (Or.inl ⟨by kernel_rfl, ?_⟩) ?_
        rotate_left
        · intro w
          go_simp
          try with_reducible rfl
        try simp only [List.getElem_toArray, List.getElem_cons_succ, List.getElem_cons_zero]
        refine wpAny_ready (rs := [8]) (by decide +kernel) (by simp) ?_
        refine AllReady.cons rfl (fun K hK => ?_) AllReady.nil
        go_simp
        refine hK _ _ ?_
        clear hK K
        refine wpAny_ready (rs := [9]) (by decide +kernel) (by simp) ?_
        refine AllReady.cons rfl (fun K hK => ?_) AllReady.nil
        go_simp
        refine hK _ _ ?_
        clear hK K
        refine wpAny_done (by decide +kernel) ?_ _
        go_simp
        go_wp2
        obtain ⟨s0, s1⟩ := two_set (a := .int .i64 (IntKind.i64.wrap (miles fl n - m))) (b := .int .i64 o) r0 r1
        exact bodyPost_ret (v := .tuple #[.agg #[.int .i64 (IntKind.i64.wrap (miles fl n - m)), .int .i64 o], .bool true]) (by simp [results, Try.results25, go_sem, s0, s1]) rfl ⟨by rw [HW.out], (D3.1.2.2.2.setCell (Nat.le_succ _) _).setCell (Nat.le_succ _) _⟩
      · have k0 := B1.1.1
        have k1 := B1.1.2.1
        go_simp
        refine hK _ _ ?_
        clear hK K
        refine wpAny_ready (rs := [1]) (by decide +kernel) (by simp) ?_
        refine AllReady.cons rfl (fun K hK => ?_) AllReady.nil
        go_simp
        (with_reducible refine (HC.out _ B1.1).mono ?_)
        rintro e v4 ⟨rfl, hv4⟩
        refine hK _ _ ?_
        clear hK K
        have D4 := B1.on hv4
        refine wpAny_take (i := 4) (v := ?_) rfl (by kernel_rfl) (by decide +kernel) (by decide +kernel) (fun _ _ _ h => h) (Or.inl ⟨by kernel_rfl, ?_⟩) ?_
        rotate_left
        · intro w
          go_simp
          try with_reducible rfl
        try simp only [List.getElem_toArray, List.getElem_cons_succ, List.getElem_cons_zero]
        obtain ⟨r0, r1, f0, f1⟩ := D4.cells
        refine wpAny_take (i := 7) (v := ?_) rfl (by kernel_rfl) (by decide +kernel) (by decide +kernel) (fun _ _ _ h => h) (Or.inl ⟨by kernel_rfl, ?_⟩) ?_
        rotate_left
        · intro w
          go_simp
          try with_reducible rfl
        try simp only [List.getElem_toArray, List.getElem_cons_succ, List.getElem_cons_zero]
        refine wpAny_ready (rs := [8]) (by decide +kernel) (by simp) ?_
        refine AllReady.cons rfl (fun K hK => ?_) AllReady.nil
        go_simp
        refine hK _ _ ?_
        clear hK K
        refine wpAny_ready (rs := [9]) (by decide +kernel) (by simp) ?_
        refine AllReady.cons rfl (fun K hK => ?_) AllReady.nil
        go_simp
        refine hK _ _ ?_
        clear hK K
        refine wpAny_done (by decide +kernel) ?_ _
        go_simp
        go_wp2
        obtain ⟨s0, s1⟩ := two_set (a := .int .i64 (IntKind.i64.wrap (miles fl n - m))) (b := .int .i64 o) r0 r1
        exact bodyPost_ret (v := .tuple #[.agg #[.int .i64 (IntKind.i64.wrap (miles fl n - m)), .int .i64 o], .bool true]) (by simp [results, Try.results25, go_sem, s0, s1]) rfl ⟨by rw [HW.out], (D4.1.2.2.2.setCell (Nat.le_succ _) _).setCell (Nat.le_succ _) _⟩
  · have hf' : faultOk fl n m o = false := by simpa using hf
    have HF := hide hf'
    have HA := hide (show fbM fl n m o = 0 by simp [fbM, hf'])
    have HB := hide (show fbO fl n m o = 0 by simp [fbO, hf'])
    rw [HF.out, HA.out, HB.out]
    have B0 : Boxed w ((w.alloc (.cells #[.int .i64 m, .int .i64 o] 32)).alloc (.cells #[.int .i64 0, .int .i64 0] 32)) m o := ⟨by go_cell, by go_cell, by simp only [World.alloc, Array.size_push]; omega, by go_grown⟩
    clear hf hf'
    go_enter Try.func25, Try.ntmps25
    go_wp2_with fail
    (with_reducible refine (HV.out _ B0).mono ?_)
    rintro e w1 ⟨rfl, hb1⟩
    rw [HF.out]
    have B1 := B0.on hb1
    have hR : w1.heap[w.heap.size + 1]? = some (.cells #[.int .i64 0, .int .i64 0] 32 (0, 0)) := (hb1.block (w.heap.size + 1) (by simp only [World.alloc, Array.size_push]; omega)).trans (by simp only [World.alloc]; rw [Array.getElem?_push]; simp)
    have r0 : w1.cell? ⟨w.heap.size + 1, 0, none⟩ = some (.int .i64 0) := cell_of_row w1 (w.heap.size + 1) 0 _ _ _ hR
    have r1 : w1.cell? ⟨w.heap.size + 1, 1, none⟩ = some (.int .i64 0) := cell_of_row w1 (w.heap.size + 1) 1 _ _ _ hR
    have f0 : w1.frozen? ⟨w.heap.size + 1, 0, none⟩ = false := by simp [World.frozen?, hR]
    have f1 : w1.frozen? ⟨w.heap.size + 1, 1, none⟩ = false := by simp [World.frozen?, hR]
    clear hR
    go_wp2
    obtain ⟨s0, s1⟩ := two_set (a := .int .i64 0) (b := .int .i64 0) r0 r1
    refine bodyPost_ret (v := .tuple #[.agg #[.int .i64 0, .int .i64 0], .bool false]) (by simp [results, Try.results25, go_sem, s0, s1]) rfl ⟨rfl, ?_⟩
    exact (B1.2.2.2.setCell (Nat.le_succ _) _).setCell (Nat.le_succ _) _
end Go.Proofs.Ytglknakgfnoeaaa
