/-
  WALK: the law FnExactFaultBack.
-/
import Derived.Test.YtlhmpecoboeoaaaFaultBack
import Derived.Test.YtlhmpecoboeoaaaFaultX
import Derived.Test.YtlhmpecoboeoaaaSecX
namespace Go.Proofs.Ytlhmpecoboeoaaa
set_option linter.unusedVariables false
set_option linter.unusedSimpArgs false
open Go.RowKit

theorem eqFault_same (a b : Int) (w : World) : Calls Try.prog 45 #[.agg #[.int .i64 a, .int .i64 b], .agg #[.int .i64 a, .int .i64 b]] w fun e w' => e = .returned (.bool true) ∧ Below w.heap.size w w' := by
  go_enter Try.func45, Try.ntmps45
  go_wp2
  go_ret
  exact ⟨rfl, ((Below.refl _ w).alloc (Nat.le_refl _) _).alloc (by simp) _⟩
/-- A box of a fault. -/
abbrev FBox (w : World) (g : Nat) (a b : Int) : Prop := w.heap[g]? = some (.cells #[.int .i64 a, .int .i64 b] 33 (0, 0))
theorem FBox.lt {w : World} {g : Nat} {a b : Int} (h : FBox w g a b) : g < w.heap.size := (Array.getElem?_eq_some_iff.1 h).1
theorem FBox.on {w w' : World} {g : Nat} {a b : Int} (h : FBox w g a b) (hb : Below w.heap.size w w') : FBox w' g a b := (hb.block g h.lt).trans h
abbrev GBox (w0 w : World) (g : Nat) : Prop := FBox w g 0 0 ∧ w0.heap.size < g
theorem GBox.new {w0 w : World} {a b : Int} (h : Boxed w0 w a b) : GBox w0 (w.alloc (.cells #[.int .i64 0, .int .i64 0] 33)) w.heap.size := ⟨heap_alloc_new w _, h.2.2.1⟩
theorem GBox.on {w0 w w' : World} {g : Nat} (h : GBox w0 w g) (hb : Below w.heap.size w w') : GBox w0 w' g := ⟨(hb.block g (Array.getElem?_eq_some_iff.1 h.1).1).trans h.1, h.2⟩
theorem GBox.set {w0 w : World} {g : Nat} (h : GBox w0 w g) (c d : Int) : FBox ((w.setCell ⟨g, 0, none⟩ (.int .i64 c)).setCell ⟨g, 1, none⟩ (.int .i64 d)) g c d := by
  have hg : w.heap[g]? = some (.cells #[.int .i64 0, .int .i64 0] 33 (0, 0)) := h.1
  simp [FBox, World.setCell, Array.getElem?_modify, hg]
theorem GBox.wrote {w0 w : World} {g : Nat} {a b : Int} (hB : Boxed w0 w a b) (h : GBox w0 w g) (c d : Value) : Boxed w0 ((w.setCell ⟨g, 0, none⟩ c).setCell ⟨g, 1, none⟩ d) a b := by
  obtain ⟨h0, h1, h2, h3⟩ := hB
  have hne := h.2
  refine ⟨?_, ?_, by simpa [World.setCell] using h2, (h3.setCell (p := ⟨g, 0, none⟩) (by show _ ≤ g; omega) _).setCell (p := ⟨g, 1, none⟩) (by show _ ≤ g; omega) _⟩
  · rw [World.cell?_setCell_other _ _ _ _ (by simp <;> omega), World.cell?_setCell_other _ _ _ _ (by simp <;> omega)]; exact h0
  · rw [World.cell?_setCell_other _ _ _ _ (by simp <;> omega), World.cell?_setCell_other _ _ _ _ (by simp <;> omega)]; exact h1
theorem FBox.free {w : World} {g : Nat} {a b : Int} (h : FBox w g a b) : w.frozen? ⟨g, 0, none⟩ = false ∧ w.frozen? ⟨g, 1, none⟩ = false := ⟨by simp [World.frozen?, show w.heap[g]? = _ from h], by simp [World.frozen?, show w.heap[g]? = _ from h]⟩
theorem FBox.cells {w : World} {g : Nat} {a b : Int} (h : FBox w g a b) : w.cell? ⟨g, 0, none⟩ = some (.int .i64 a) ∧ w.cell? ⟨g, 1, none⟩ = some (.int .i64 b) := ⟨cell_of_row _ _ 0 _ _ _ h, cell_of_row _ _ 1 _ _ _ h⟩

set_option maxRecDepth 100000 in
set_option maxHeartbeats 4000000 in
theorem walk_FnExactFaultBack (w0 : World) (A0 : Option Addr) (len0 cap0 : Nat) (x0 : List Int) (i0 : IsSecs w0 A0 len0 cap0 x0) (a1 b1 : Int) (wa1 : (Lit.int .i64 a1).wf = true) (wb1 : (Lit.int .i64 b1).wf = true) :
    Calls Try.prog 13 #[.slice A0 len0 cap0, .agg #[.int .i64 a1, .int .i64 b1]] w0 fun e w' => e = .returned (.bool true) ∧ Below w0.heap.size w0 w' := by
  have o0 := i0.ints
  obtain ⟨hl0, hlc0, hm0, -, -⟩ := i0
  unfold maxLen at hm0
  have B0 : Boxed w0 (w0.alloc (.cells #[.int .i64 a1, .int .i64 b1] 31)) a1 b1 := ⟨by go_cell, by go_cell, by simp, by go_grown⟩
  go_enter Try.func13, Try.ntmps13
  go_wp2_with fail
  (with_reducible refine (szSectionS_any _ len0 _ (1048576) _ (by omega) (by omega) (by omega)).mono ?_)
  rintro e w' ⟨rfl, rfl⟩
  by_cases big0 : (1048576 : Int) < (len0 : Int)
  · rw [if_pos big0]
    go_wp2
    go_ret
    exact ⟨rfl, B0.2.2.2⟩
  · rw [if_neg big0]
    have hn0 : len0 ≤ 1048576 := by omega
    have HT := hide (fun (w' : World) (hb : Boxed w0 w' a1 b1) => toSectionS_any A0 x0 len0 cap0 w' hl0 ((o0.below hb.2.2.2).mono hb.2.2.2.size) hn0)
    have HC := hide (fun (w' : World) (A : Option Addr) (c : Nat) (hi : Ints w' w'.heap.size A x0) => specFaultBack_any A x0 len0 c a1 b1 w' hl0 hi hn0)
    go_wp2_with fail
    go_cut [6, 7] (fun s0 s1 wx => ∃ g, s0 = Value.pointer (some ⟨g, 0, none⟩) ∧ s1 = Value.bool (faultOk x0 len0 a1 b1) ∧ FBox wx g (fbM x0 len0 a1 b1) (fbO x0 len0 a1 b1) ∧ Boxed w0 wx a1 b1)
    case first =>
      refine wp_region_any (by kernel_rfl) ?_
      try (change wpAny _ _ _ _ _ _ _ (World.drew _))
      replace B0 := Boxed.drew B0
      generalize (World.drew _) = wa at B0 ⊢
      refine wpAny_take (i := 0) (v := ?_) rfl (by kernel_rfl) (by decide +kernel) (by decide +kernel) (fun _ _ _ h => h) (Or.inl ⟨by kernel_rfl, ?_⟩) ?_
      rotate_left
      · intro w
        go_simp
        try with_reducible rfl
      try simp only [List.getElem_toArray, List.getElem_cons_succ, List.getElem_cons_zero]
      refine wpAny_ready (rs := [1, 2, 8]) (by decide +kernel) (by simp) ?_
      refine AllReady.cons rfl (fun K hK => ?_) (AllReady.cons rfl (fun K hK => ?_) (AllReady.cons rfl (fun K hK => ?_) (AllReady.nil)))
      · go_simp
        (with_reducible refine (HT.out _ B0).mono ?_)
        rintro e ws ⟨Bs, cs, rfl, hcs, hds, fs, hbs⟩
        refine hK _ _ ?_
        clear hK K
        have B1 := B0.on hbs
        have J1 := fs.ints
        refine wpAny_ready (rs := [2, 8]) (by decide +kernel) (by simp) ?_
        refine AllReady.cons rfl (fun K hK => ?_) (AllReady.cons rfl (fun K hK => ?_) (AllReady.nil))
        · have k0 := B1.1
          have k1 := B1.2.1
          go_simp
          refine hK _ _ ?_
          clear hK K
          refine wpAny_ready (rs := [3, 8]) (by decide +kernel) (by simp) ?_
          refine AllReady.cons rfl (fun K hK => ?_) (AllReady.cons rfl (fun K hK => ?_) (AllReady.nil))
          · go_simp
            (with_reducible refine (toFault_any a1 b1 _).mono ?_)
            rintro e v3 ⟨rfl, hb3⟩
            refine hK _ _ ?_
            clear hK K
            have B3 := B1.on hb3
            have J3 := J1.next hb3
            refine wpAny_ready (rs := [4, 8]) (by decide +kernel) (by simp) ?_
            refine AllReady.cons rfl (fun K hK => ?_) (AllReady.cons rfl (fun K hK => ?_) (AllReady.nil))
            · go_simp
              (with_reducible refine (HC.out _ _ _ J3).mono ?_)
              rintro e v4 ⟨rfl, hb4⟩
              refine hK _ _ ?_
              clear hK K
              have B4 := B3.on hb4
              have J4 := J3.next hb4
              refine wpAny_take (i := 5) (v := ?_) rfl (by kernel_rfl) (by decide +kernel) (by decide +kernel) (fun _ _ _ h => h) (Or.inl ⟨by kernel_rfl, ?_⟩) ?_
              rotate_left
              · intro w
                go_simp
                try with_reducible rfl
              try simp only [List.getElem_toArray, List.getElem_cons_succ, List.getElem_cons_zero]
              refine wpAny_take (i := 6) (v := ?_) rfl (by kernel_rfl) (by decide +kernel) (by decide +kernel) (fun _ _ _ h => h) (Or.inl ⟨by kernel_rfl, ?_⟩) ?_
              rotate_left
              · intro w
                go_simp
                try with_reducible rfl
              try simp only [List.getElem_toArray, List.getElem_cons_succ, List.getElem_cons_zero]
              refine wpAny_take (i := 7) (v := ?_) rfl (by kernel_rfl) (by decide +kernel) (by decide +kernel) (fun _ _ _ h => h) (Or.inl ⟨by kernel_rfl, ?_⟩) ?_
              rotate_left
              · intro w
                go_simp
                try with_reducible rfl
              try simp only [List.getElem_toArray, List.getElem_cons_succ, List.getElem_cons_zero]
              refine wpAny_ready (rs := [8]) (by decide +kernel) (by simp) ?_
              refine AllReady.cons rfl (fun K hK => ?_) AllReady.nil
              go_simp
              refine hK _ _ ?_
              clear hK K
              have B5 := B4.on ((Below.refl _ _).alloc (Nat.le_refl _) (.cells #[.int .i64 0, .int .i64 0] 33))
              have J5 := J4.next ((Below.refl _ _).alloc (Nat.le_refl _) (.cells #[.int .i64 0, .int .i64 0] 33))
              have G5 := GBox.new B4
              obtain ⟨q0, q1⟩ := FBox.cells G5.1
              obtain ⟨f0, f1⟩ := FBox.free G5.1
              refine wpAny_ready (rs := [9]) (by decide +kernel) (by simp) ?_
              refine AllReady.cons rfl (fun K hK => ?_) AllReady.nil
              go_simp
              refine hK _ _ ?_
              clear hK K
              refine wpAny_take (i := 10) (v := ?_) rfl (by kernel_rfl) (by decide +kernel) (by decide +kernel) (fun _ _ _ h => h) (Or.inl ⟨by kernel_rfl, ?_⟩) ?_
              rotate_left
              · intro w
                go_simp
                try with_reducible rfl
              try simp only [List.getElem_toArray, List.getElem_cons_succ, List.getElem_cons_zero]
              refine wpAny_done (by decide +kernel) ?_ _
              go_simp
              go_wp2_with fail
              go_meet
              first
                | exact ⟨_, rfl, rfl, GBox.set G5 _ _, GBox.wrote B5 G5 _ _⟩
                | exact ⟨_, rfl, rfl, heap_alloc_new _ _, B4.on ((Below.refl _ _).alloc (Nat.le_refl _) _)⟩
            · go_simp
              refine hK _ _ ?_
              clear hK K
              have B4 := B3.on ((Below.refl _ _).alloc (Nat.le_refl _) (.cells #[.int .i64 0, .int .i64 0] 33))
              have J4 := J3.next ((Below.refl _ _).alloc (Nat.le_refl _) (.cells #[.int .i64 0, .int .i64 0] 33))
              have G4 := GBox.new B3
              refine wpAny_ready (rs := [4]) (by decide +kernel) (by simp) ?_
              refine AllReady.cons rfl (fun K hK => ?_) AllReady.nil
              go_simp
              (with_reducible refine (HC.out _ _ _ J4).mono ?_)
              rintro e v5 ⟨rfl, hb5⟩
              refine hK _ _ ?_
              clear hK K
              have B5 := B4.on hb5
              have G5 := GBox.on G4 hb5
              have J5 := J4.next hb5
              refine wpAny_take (i := 5) (v := ?_) rfl (by kernel_rfl) (by decide +kernel) (by decide +kernel) (fun _ _ _ h => h) (Or.inl ⟨by kernel_rfl, ?_⟩) ?_
              rotate_left
              · intro w
                go_simp
                try with_reducible rfl
              try simp only [List.getElem_toArray, List.getElem_cons_succ, List.getElem_cons_zero]
              refine wpAny_take (i := 6) (v := ?_) rfl (by kernel_rfl) (by decide +kernel) (by decide +kernel) (fun _ _ _ h => h) (Or.inl ⟨by kernel_rfl, ?_⟩) ?_
              rotate_left
              · intro w
                go_simp
                try with_reducible rfl
              try simp only [List.getElem_toArray, List.getElem_cons_succ, List.getElem_cons_zero]
              refine wpAny_take (i := 7) (v := ?_) rfl (by kernel_rfl) (by decide +kernel) (by decide +kernel) (fun _ _ _ h => h) (Or.inl ⟨by kernel_rfl, ?_⟩) ?_
              rotate_left
              · intro w
                go_simp
                try with_reducible rfl
              try simp only [List.getElem_toArray, List.getElem_cons_succ, List.getElem_cons_zero]
              obtain ⟨q0, q1⟩ := FBox.cells G5.1
              obtain ⟨f0, f1⟩ := FBox.free G5.1
              refine wpAny_ready (rs := [9]) (by decide +kernel) (by simp) ?_
              refine AllReady.cons rfl (fun K hK => ?_) AllReady.nil
              go_simp
              refine hK _ _ ?_
              clear hK K
              refine wpAny_take (i := 10) (v := ?_) rfl (by kernel_rfl) (by decide +kernel) (by decide +kernel) (fun _ _ _ h => h) (Or.inl ⟨by kernel_rfl, ?_⟩) ?_
              rotate_left
              · intro w
                go_simp
                try with_reducible rfl
              try simp only [List.getElem_toArray, List.getElem_cons_succ, List.getElem_cons_zero]
              refine wpAny_done (by decide +kernel) ?_ _
              go_simp
              go_wp2_with fail
              go_meet
              first
                | exact ⟨_, rfl, rfl, GBox.set G5 _ _, GBox.wrote B5 G5 _ _⟩
                | exact ⟨_, rfl, rfl, heap_alloc_new _ _, B4.on ((Below.refl _ _).alloc (Nat.le_refl _) _)⟩
          · go_simp
            refine hK _ _ ?_
            clear hK K
            have B3 := B1.on ((Below.refl _ _).alloc (Nat.le_refl _) (.cells #[.int .i64 0, .int .i64 0] 33))
            have J3 := J1.next ((Below.refl _ _).alloc (Nat.le_refl _) (.cells #[.int .i64 0, .int .i64 0] 33))
            have G3 := GBox.new B1
            refine wpAny_ready (rs := [3]) (by decide +kernel) (by simp) ?_
            refine AllReady.cons rfl (fun K hK => ?_) AllReady.nil
            go_simp
            (with_reducible refine (toFault_any a1 b1 _).mono ?_)
            rintro e v4 ⟨rfl, hb4⟩
            refine hK _ _ ?_
            clear hK K
            have B4 := B3.on hb4
            have G4 := GBox.on G3 hb4
            have J4 := J3.next hb4
            refine wpAny_ready (rs := [4]) (by decide +kernel) (by simp) ?_
            refine AllReady.cons rfl (fun K hK => ?_) AllReady.nil
            go_simp
            (with_reducible refine (HC.out _ _ _ J4).mono ?_)
            rintro e v5 ⟨rfl, hb5⟩
            refine hK _ _ ?_
            clear hK K
            have B5 := B4.on hb5
            have G5 := GBox.on G4 hb5
            have J5 := J4.next hb5
            refine wpAny_take (i := 5) (v := ?_) rfl (by kernel_rfl) (by decide +kernel) (by decide +kernel) (fun _ _ _ h => h) (Or.inl ⟨by kernel_rfl, ?_⟩) ?_
            rotate_left
            · intro w
              go_simp
              try with_reducible rfl
            try simp only [List.getElem_toArray, List.getElem_cons_succ, List.getElem_cons_zero]
            refine wpAny_take (i := 6) (v := ?_) rfl (by kernel_rfl) (by decide +kernel) (by decide +kernel) (fun _ _ _ h => h) (Or.inl ⟨by kernel_rfl, ?_⟩) ?_
            rotate_left
            · intro w
              go_simp
              try with_reducible rfl
            try simp only [List.getElem_toArray, List.getElem_cons_succ, List.getElem_cons_zero]
            refine wpAny_take (i := 7) (v := ?_) rfl (by kernel_rfl) (by decide +kernel) (by decide +kernel) (fun _ _ _ h => h) (Or.inl ⟨by kernel_rfl, ?_⟩) ?_
            rotate_left
            · intro w
              go_simp
              try with_reducible rfl
            try simp only [List.getElem_toArray, List.getElem_cons_succ, List.getElem_cons_zero]
            obtain ⟨q0, q1⟩ := FBox.cells G5.1
            obtain ⟨f0, f1⟩ := FBox.free G5.1
            refine wpAny_ready (rs := [9]) (by decide +kernel) (by simp) ?_
            refine AllReady.cons rfl (fun K hK => ?_) AllReady.nil
            go_simp
            refine hK _ _ ?_
            clear hK K
            refine wpAny_take (i := 10) (v := ?_) rfl (by kernel_rfl) (by decide +kernel) (by decide +kernel) (fun _ _ _ h => h) (Or.inl ⟨by kernel_rfl, ?_⟩) ?_
            rotate_left
            · intro w
              go_simp
              try with_reducible rfl
            try simp only [List.getElem_toArray, List.getElem_cons_succ, List.getElem_cons_zero]
            refine wpAny_done (by decide +kernel) ?_ _
            go_simp
            go_wp2_with fail
            go_meet
            first
              | exact ⟨_, rfl, rfl, GBox.set G5 _ _, GBox.wrote B5 G5 _ _⟩
              | exact ⟨_, rfl, rfl, heap_alloc_new _ _, B4.on ((Below.refl _ _).alloc (Nat.le_refl _) _)⟩
        · go_simp
          refine hK _ _ ?_
          clear hK K
          have B2 := B1.on ((Below.refl _ _).alloc (Nat.le_refl _) (.cells #[.int .i64 0, .int .i64 0] 33))
          have J2 := J1.next ((Below.refl _ _).alloc (Nat.le_refl _) (.cells #[.int .i64 0, .int .i64 0] 33))
          have G2 := GBox.new B1
          refine wpAny_ready (rs := [2]) (by decide +kernel) (by simp) ?_
          refine AllReady.cons rfl (fun K hK => ?_) AllReady.nil
          have k0 := B2.1
          have k1 := B2.2.1
          go_simp
          refine hK _ _ ?_
          clear hK K
          refine wpAny_ready (rs := [3]) (by decide +kernel) (by simp) ?_
          refine AllReady.cons rfl (fun K hK => ?_) AllReady.nil
          go_simp
          (with_reducible refine (toFault_any a1 b1 _).mono ?_)
          rintro e v4 ⟨rfl, hb4⟩
          refine hK _ _ ?_
          clear hK K
          have B4 := B2.on hb4
          have G4 := GBox.on G2 hb4
          have J4 := J2.next hb4
          refine wpAny_ready (rs := [4]) (by decide +kernel) (by simp) ?_
          refine AllReady.cons rfl (fun K hK => ?_) AllReady.nil
          go_simp
          (with_reducible refine (HC.out _ _ _ J4).mono ?_)
          rintro e v5 ⟨rfl, hb5⟩
          refine hK _ _ ?_
          clear hK K
          have B5 := B4.on hb5
          have G5 := GBox.on G4 hb5
          have J5 := J4.next hb5
          refine wpAny_take (i := 5) (v := ?_) rfl (by kernel_rfl) (by decide +kernel) (by decide +kernel) (fun _ _ _ h => h) (Or.inl ⟨by kernel_rfl, ?_⟩) ?_
          rotate_left
          · intro w
            go_simp
            try with_reducible rfl
          try simp only [List.getElem_toArray, List.getElem_cons_succ, List.getElem_cons_zero]
          refine wpAny_take (i := 6) (v := ?_) rfl (by kernel_rfl) (by decide +kernel) (by decide +kernel) (fun _ _ _ h => h) (Or.inl ⟨by kernel_rfl, ?_⟩) ?_
          rotate_left
          · intro w
            go_simp
            try with_reducible rfl
          try simp only [List.getElem_toArray, List.getElem_cons_succ, List.getElem_cons_zero]
          refine wpAny_take (i := 7) (v := ?_) rfl (by kernel_rfl) (by decide +kernel) (by decide +kernel) (fun _ _ _ h => h) (Or.inl ⟨by kernel_rfl, ?_⟩) ?_
          rotate_left
          · intro w
            go_simp
            try with_reducible rfl
          try simp only [List.getElem_toArray, List.getElem_cons_succ, List.getElem_cons_zero]
          obtain ⟨q0, q1⟩ := FBox.cells G5.1
          obtain ⟨f0, f1⟩ := FBox.free G5.1
          refine wpAny_ready (rs := [9]) (by decide +kernel) (by simp) ?_
          refine AllReady.cons rfl (fun K hK => ?_) AllReady.nil
          go_simp
          refine hK _ _ ?_
          clear hK K
          refine wpAny_take (i := 10) (v := ?_) rfl (by kernel_rfl) (by decide +kernel) (by decide +kernel) (fun _ _ _ h => h) (Or.inl ⟨by kernel_rfl, ?_⟩) ?_
          rotate_left
          · intro w
            go_simp
            try with_reducible rfl
          try simp only [List.getElem_toArray, List.getElem_cons_succ, List.getElem_cons_zero]
          refine wpAny_done (by decide +kernel) ?_ _
          go_simp
          go_wp2_with fail
          go_meet
          first
            | exact ⟨_, rfl, rfl, GBox.set G5 _ _, GBox.wrote B5 G5 _ _⟩
            | exact ⟨_, rfl, rfl, heap_alloc_new _ _, B4.on ((Below.refl _ _).alloc (Nat.le_refl _) _)⟩
      · have k0 := B0.1
        have k1 := B0.2.1
        go_simp
        refine hK _ _ ?_
        clear hK K
        refine wpAny_ready (rs := [1, 8]) (by decide +kernel) (by simp) ?_
        refine AllReady.cons rfl (fun K hK => ?_) (AllReady.cons rfl (fun K hK => ?_) (AllReady.nil))
        · go_simp
          (with_reducible refine (HT.out _ B0).mono ?_)
          rintro e ws ⟨Bs, cs, rfl, hcs, hds, fs, hbs⟩
          refine hK _ _ ?_
          clear hK K
          have B2 := B0.on hbs
          have J2 := fs.ints
          refine wpAny_ready (rs := [3, 8]) (by decide +kernel) (by simp) ?_
          refine AllReady.cons rfl (fun K hK => ?_) (AllReady.cons rfl (fun K hK => ?_) (AllReady.nil))
          · go_simp
            (with_reducible refine (toFault_any a1 b1 _).mono ?_)
            rintro e v3 ⟨rfl, hb3⟩
            refine hK _ _ ?_
            clear hK K
            have B3 := B2.on hb3
            have J3 := J2.next hb3
            refine wpAny_ready (rs := [4, 8]) (by decide +kernel) (by simp) ?_
            refine AllReady.cons rfl (fun K hK => ?_) (AllReady.cons rfl (fun K hK => ?_) (AllReady.nil))
            · go_simp
              (with_reducible refine (HC.out _ _ _ J3).mono ?_)
              rintro e v4 ⟨rfl, hb4⟩
              refine hK _ _ ?_
              clear hK K
              have B4 := B3.on hb4
              have J4 := J3.next hb4
              refine wpAny_take (i := 5) (v := ?_) rfl (by kernel_rfl) (by decide +kernel) (by decide +kernel) (fun _ _ _ h => h) (Or.inl ⟨by kernel_rfl, ?_⟩) ?_
              rotate_left
              · intro w
                go_simp
                try with_reducible rfl
              try simp only [List.getElem_toArray, List.getElem_cons_succ, List.getElem_cons_zero]
              refine wpAny_take (i := 6) (v := ?_) rfl (by kernel_rfl) (by decide +kernel) (by decide +kernel) (fun _ _ _ h => h) (Or.inl ⟨by kernel_rfl, ?_⟩) ?_
              rotate_left
              · intro w
                go_simp
                try with_reducible rfl
              try simp only [List.getElem_toArray, List.getElem_cons_succ, List.getElem_cons_zero]
              refine wpAny_take (i := 7) (v := ?_) rfl (by kernel_rfl) (by decide +kernel) (by decide +kernel) (fun _ _ _ h => h) (Or.inl ⟨by kernel_rfl, ?_⟩) ?_
              rotate_left
              · intro w
                go_simp
                try with_reducible rfl
              try simp only [List.getElem_toArray, List.getElem_cons_succ, List.getElem_cons_zero]
              refine wpAny_ready (rs := [8]) (by decide +kernel) (by simp) ?_
              refine AllReady.cons rfl (fun K hK => ?_) AllReady.nil
              go_simp
              refine hK _ _ ?_
              clear hK K
              have B5 := B4.on ((Below.refl _ _).alloc (Nat.le_refl _) (.cells #[.int .i64 0, .int .i64 0] 33))
              have J5 := J4.next ((Below.refl _ _).alloc (Nat.le_refl _) (.cells #[.int .i64 0, .int .i64 0] 33))
              have G5 := GBox.new B4
              obtain ⟨q0, q1⟩ := FBox.cells G5.1
              obtain ⟨f0, f1⟩ := FBox.free G5.1
              refine wpAny_ready (rs := [9]) (by decide +kernel) (by simp) ?_
              refine AllReady.cons rfl (fun K hK => ?_) AllReady.nil
              go_simp
              refine hK _ _ ?_
              clear hK K
              refine wpAny_take (i := 10) (v := ?_) rfl (by kernel_rfl) (by decide +kernel) (by decide +kernel) (fun _ _ _ h => h) (Or.inl ⟨by kernel_rfl, ?_⟩) ?_
              rotate_left
              · intro w
                go_simp
                try with_reducible rfl
              try simp only [List.getElem_toArray, List.getElem_cons_succ, List.getElem_cons_zero]
              refine wpAny_done (by decide +kernel) ?_ _
              go_simp
              go_wp2_with fail
              go_meet
              first
                | exact ⟨_, rfl, rfl, GBox.set G5 _ _, GBox.wrote B5 G5 _ _⟩
                | exact ⟨_, rfl, rfl, heap_alloc_new _ _, B4.on ((Below.refl _ _).alloc (Nat.le_refl _) _)⟩
            · go_simp
              refine hK _ _ ?_
              clear hK K
              have B4 := B3.on ((Below.refl _ _).alloc (Nat.le_refl _) (.cells #[.int .i64 0, .int .i64 0] 33))
              have J4 := J3.next ((Below.refl _ _).alloc (Nat.le_refl _) (.cells #[.int .i64 0, .int .i64 0] 33))
              have G4 := GBox.new B3
              refine wpAny_ready (rs := [4]) (by decide +kernel) (by simp) ?_
              refine AllReady.cons rfl (fun K hK => ?_) AllReady.nil
              go_simp
              (with_reducible refine (HC.out _ _ _ J4).mono ?_)
              rintro e v5 ⟨rfl, hb5⟩
              refine hK _ _ ?_
              clear hK K
              have B5 := B4.on hb5
              have G5 := GBox.on G4 hb5
              have J5 := J4.next hb5
              refine wpAny_take (i := 5) (v := ?_) rfl (by kernel_rfl) (by decide +kernel) (by decide +kernel) (fun _ _ _ h => h) (Or.inl ⟨by kernel_rfl, ?_⟩) ?_
              rotate_left
              · intro w
                go_simp
                try with_reducible rfl
              try simp only [List.getElem_toArray, List.getElem_cons_succ, List.getElem_cons_zero]
              refine wpAny_take (i := 6) (v := ?_) rfl (by kernel_rfl) (by decide +kernel) (by decide +kernel) (fun _ _ _ h => h) (Or.inl ⟨by kernel_rfl, ?_⟩) ?_
              rotate_left
              · intro w
                go_simp
                try with_reducible rfl
              try simp only [List.getElem_toArray, List.getElem_cons_succ, List.getElem_cons_zero]
              refine wpAny_take (i := 7) (v := ?_) rfl (by kernel_rfl) (by decide +kernel) (by decide +kernel) (fun _ _ _ h => h) (Or.inl ⟨by kernel_rfl, ?_⟩) ?_
              rotate_left
              · intro w
                go_simp
                try with_reducible rfl
              try simp only [List.getElem_toArray, List.getElem_cons_succ, List.getElem_cons_zero]
              obtain ⟨q0, q1⟩ := FBox.cells G5.1
              obtain ⟨f0, f1⟩ := FBox.free G5.1
              refine wpAny_ready (rs := [9]) (by decide +kernel) (by simp) ?_
              refine AllReady.cons rfl (fun K hK => ?_) AllReady.nil
              go_simp
              refine hK _ _ ?_
              clear hK K
              refine wpAny_take (i := 10) (v := ?_) rfl (by kernel_rfl) (by decide +kernel) (by decide +kernel) (fun _ _ _ h => h) (Or.inl ⟨by kernel_rfl, ?_⟩) ?_
              rotate_left
              · intro w
                go_simp
                try with_reducible rfl
              try simp only [List.getElem_toArray, List.getElem_cons_succ, List.getElem_cons_zero]
              refine wpAny_done (by decide +kernel) ?_ _
              go_simp
              go_wp2_with fail
              go_meet
              first
                | exact ⟨_, rfl, rfl, GBox.set G5 _ _, GBox.wrote B5 G5 _ _⟩
                | exact ⟨_, rfl, rfl, heap_alloc_new _ _, B4.on ((Below.refl _ _).alloc (Nat.le_refl _) _)⟩
          · go_simp
            refine hK _ _ ?_
            clear hK K
            have B3 := B2.on ((Below.refl _ _).alloc (Nat.le_refl _) (.cells #[.int .i64 0, .int .i64 0] 33))
            have J3 := J2.next ((Below.refl _ _).alloc (Nat.le_refl _) (.cells #[.int .i64 0, .int .i64 0] 33))
            have G3 := GBox.new B2
            refine wpAny_ready (rs := [3]) (by decide +kernel) (by simp) ?_
            refine AllReady.cons rfl (fun K hK => ?_) AllReady.nil
            go_simp
            (with_reducible refine (toFault_any a1 b1 _).mono ?_)
            rintro e v4 ⟨rfl, hb4⟩
            refine hK _ _ ?_
            clear hK K
            have B4 := B3.on hb4
            have G4 := GBox.on G3 hb4
            have J4 := J3.next hb4
            refine wpAny_ready (rs := [4]) (by decide +kernel) (by simp) ?_
            refine AllReady.cons rfl (fun K hK => ?_) AllReady.nil
            go_simp
            (with_reducible refine (HC.out _ _ _ J4).mono ?_)
            rintro e v5 ⟨rfl, hb5⟩
            refine hK _ _ ?_
            clear hK K
            have B5 := B4.on hb5
            have G5 := GBox.on G4 hb5
            have J5 := J4.next hb5
            refine wpAny_take (i := 5) (v := ?_) rfl (by kernel_rfl) (by decide +kernel) (by decide +kernel) (fun _ _ _ h => h) (Or.inl ⟨by kernel_rfl, ?_⟩) ?_
            rotate_left
            · intro w
              go_simp
              try with_reducible rfl
            try simp only [List.getElem_toArray, List.getElem_cons_succ, List.getElem_cons_zero]
            refine wpAny_take (i := 6) (v := ?_) rfl (by kernel_rfl) (by decide +kernel) (by decide +kernel) (fun _ _ _ h => h) (Or.inl ⟨by kernel_rfl, ?_⟩) ?_
            rotate_left
            · intro w
              go_simp
              try with_reducible rfl
            try simp only [List.getElem_toArray, List.getElem_cons_succ, List.getElem_cons_zero]
            refine wpAny_take (i := 7) (v := ?_) rfl (by kernel_rfl) (by decide +kernel) (by decide +kernel) (fun _ _ _ h => h) (Or.inl ⟨by kernel_rfl, ?_⟩) ?_
            rotate_left
            · intro w
              go_simp
              try with_reducible rfl
            try simp only [List.getElem_toArray, List.getElem_cons_succ, List.getElem_cons_zero]
            obtain ⟨q0, q1⟩ := FBox.cells G5.1
            obtain ⟨f0, f1⟩ := FBox.free G5.1
            refine wpAny_ready (rs := [9]) (by decide +kernel) (by simp) ?_
            refine AllReady.cons rfl (fun K hK => ?_) AllReady.nil
            go_simp
            refine hK _ _ ?_
            clear hK K
            refine wpAny_take (i := 10) (v := ?_) rfl (by kernel_rfl) (by decide +kernel) (by decide +kernel) (fun _ _ _ h => h) (Or.inl ⟨by kernel_rfl, ?_⟩) ?_
            rotate_left
            · intro w
              go_simp
              try with_reducible rfl
            try simp only [List.getElem_toArray, List.getElem_cons_succ, List.getElem_cons_zero]
            refine wpAny_done (by decide +kernel) ?_ _
            go_simp
            go_wp2_with fail
            go_meet
            first
              | exact ⟨_, rfl, rfl, GBox.set G5 _ _, GBox.wrote B5 G5 _ _⟩
              | exact ⟨_, rfl, rfl, heap_alloc_new _ _, B4.on ((Below.refl _ _).alloc (Nat.le_refl _) _)⟩
        · go_simp
          refine hK _ _ ?_
          clear hK K
          have B2 := B0.on ((Below.refl _ _).alloc (Nat.le_refl _) (.cells #[.int .i64 0, .int .i64 0] 33))
          have G2 := GBox.new B0
          refine wpAny_ready (rs := [1]) (by decide +kernel) (by simp) ?_
          refine AllReady.cons rfl (fun K hK => ?_) AllReady.nil
          go_simp
          (with_reducible refine (HT.out _ B2).mono ?_)
          rintro e ws ⟨Bs, cs, rfl, hcs, hds, fs, hbs⟩
          refine hK _ _ ?_
          clear hK K
          have B3 := B2.on hbs
          have G3 := GBox.on G2 hbs
          have J3 := fs.ints
          refine wpAny_ready (rs := [3]) (by decide +kernel) (by simp) ?_
          refine AllReady.cons rfl (fun K hK => ?_) AllReady.nil
          go_simp
          (with_reducible refine (toFault_any a1 b1 _).mono ?_)
          rintro e v4 ⟨rfl, hb4⟩
          refine hK _ _ ?_
          clear hK K
          have B4 := B3.on hb4
          have G4 := GBox.on G3 hb4
          have J4 := J3.next hb4
          refine wpAny_ready (rs := [4]) (by decide +kernel) (by simp) ?_
          refine AllReady.cons rfl (fun K hK => ?_) AllReady.nil
          go_simp
          (with_reducible refine (HC.out _ _ _ J4).mono ?_)
          rintro e v5 ⟨rfl, hb5⟩
          refine hK _ _ ?_
          clear hK K
          have B5 := B4.on hb5
          have G5 := GBox.on G4 hb5
          have J5 := J4.next hb5
          refine wpAny_take (i := 5) (v := ?_) rfl (by kernel_rfl) (by decide +kernel) (by decide +kernel) (fun _ _ _ h => h) (Or.inl ⟨by kernel_rfl, ?_⟩) ?_
          rotate_left
          · intro w
            go_simp
            try with_reducible rfl
          try simp only [List.getElem_toArray, List.getElem_cons_succ, List.getElem_cons_zero]
          refine wpAny_take (i := 6) (v := ?_) rfl (by kernel_rfl) (by decide +kernel) (by decide +kernel) (fun _ _ _ h => h) (Or.inl ⟨by kernel_rfl, ?_⟩) ?_
          rotate_left
          · intro w
            go_simp
            try with_reducible rfl
          try simp only [List.getElem_toArray, List.getElem_cons_succ, List.getElem_cons_zero]
          refine wpAny_take (i := 7) (v := ?_) rfl (by kernel_rfl) (by decide +kernel) (by decide +kernel) (fun _ _ _ h => h) (Or.inl ⟨by kernel_rfl, ?_⟩) ?_
          rotate_left
          · intro w
            go_simp
            try with_reducible rfl
          try simp only [List.getElem_toArray, List.getElem_cons_succ, List.getElem_cons_zero]
          obtain ⟨q0, q1⟩ := FBox.cells G5.1
          obtain ⟨f0, f1⟩ := FBox.free G5.1
          refine wpAny_ready (rs := [9]) (by decide +kernel) (by simp) ?_
          refine AllReady.cons rfl (fun K hK => ?_) AllReady.nil
          go_simp
          refine hK _ _ ?_
          clear hK K
          refine wpAny_take (i := 10) (v := ?_) rfl (by kernel_rfl) (by decide +kernel) (by decide +kernel) (fun _ _ _ h => h) (Or.inl ⟨by kernel_rfl, ?_⟩) ?_
          rotate_left
          · intro w
            go_simp
            try with_reducible rfl
          try simp only [List.getElem_toArray, List.getElem_cons_succ, List.getElem_cons_zero]
          refine wpAny_done (by decide +kernel) ?_ _
          go_simp
          go_wp2_with fail
          go_meet
          first
            | exact ⟨_, rfl, rfl, GBox.set G5 _ _, GBox.wrote B5 G5 _ _⟩
            | exact ⟨_, rfl, rfl, heap_alloc_new _ _, B4.on ((Below.refl _ _).alloc (Nat.le_refl _) _)⟩
      · go_simp
        refine hK _ _ ?_
        clear hK K
        have B1 := B0.on ((Below.refl _ _).alloc (Nat.le_refl _) (.cells #[.int .i64 0, .int .i64 0] 33))
        have G1 := GBox.new B0
        refine wpAny_ready (rs := [1, 2]) (by decide +kernel) (by simp) ?_
        refine AllReady.cons rfl (fun K hK => ?_) (AllReady.cons rfl (fun K hK => ?_) (AllReady.nil))
        · go_simp
          (with_reducible refine (HT.out _ B1).mono ?_)
          rintro e ws ⟨Bs, cs, rfl, hcs, hds, fs, hbs⟩
          refine hK _ _ ?_
          clear hK K
          have B2 := B1.on hbs
          have G2 := GBox.on G1 hbs
          have J2 := fs.ints
          refine wpAny_ready (rs := [2]) (by decide +kernel) (by simp) ?_
          refine AllReady.cons rfl (fun K hK => ?_) AllReady.nil
          have k0 := B2.1
          have k1 := B2.2.1
          go_simp
          refine hK _ _ ?_
          clear hK K
          refine wpAny_ready (rs := [3]) (by decide +kernel) (by simp) ?_
          refine AllReady.cons rfl (fun K hK => ?_) AllReady.nil
          go_simp
          (with_reducible refine (toFault_any a1 b1 _).mono ?_)
          rintro e v4 ⟨rfl, hb4⟩
          refine hK _ _ ?_
          clear hK K
          have B4 := B2.on hb4
          have G4 := GBox.on G2 hb4
          have J4 := J2.next hb4
          refine wpAny_ready (rs := [4]) (by decide +kernel) (by simp) ?_
          refine AllReady.cons rfl (fun K hK => ?_) AllReady.nil
          go_simp
          (with_reducible refine (HC.out _ _ _ J4).mono ?_)
          rintro e v5 ⟨rfl, hb5⟩
          refine hK _ _ ?_
          clear hK K
          have B5 := B4.on hb5
          have G5 := GBox.on G4 hb5
          have J5 := J4.next hb5
          refine wpAny_take (i := 5) (v := ?_) rfl (by kernel_rfl) (by decide +kernel) (by decide +kernel) (fun _ _ _ h => h) (Or.inl ⟨by kernel_rfl, ?_⟩) ?_
          rotate_left
          · intro w
            go_simp
            try with_reducible rfl
          try simp only [List.getElem_toArray, List.getElem_cons_succ, List.getElem_cons_zero]
          refine wpAny_take (i := 6) (v := ?_) rfl (by kernel_rfl) (by decide +kernel) (by decide +kernel) (fun _ _ _ h => h) (Or.inl ⟨by kernel_rfl, ?_⟩) ?_
          rotate_left
          · intro w
            go_simp
            try with_reducible rfl
          try simp only [List.getElem_toArray, List.getElem_cons_succ, List.getElem_cons_zero]
          refine wpAny_take (i := 7) (v := ?_) rfl (by kernel_rfl) (by decide +kernel) (by decide +kernel) (fun _ _ _ h => h) (Or.inl ⟨by kernel_rfl, ?_⟩) ?_
          rotate_left
          · intro w
            go_simp
            try with_reducible rfl
          try simp only [List.getElem_toArray, List.getElem_cons_succ, List.getElem_cons_zero]
          obtain ⟨q0, q1⟩ := FBox.cells G5.1
          obtain ⟨f0, f1⟩ := FBox.free G5.1
          refine wpAny_ready (rs := [9]) (by decide +kernel) (by simp) ?_
          refine AllReady.cons rfl (fun K hK => ?_) AllReady.nil
          go_simp
          refine hK _ _ ?_
          clear hK K
          refine wpAny_take (i := 10) (v := ?_) rfl (by kernel_rfl) (by decide +kernel) (by decide +kernel) (fun _ _ _ h => h) (Or.inl ⟨by kernel_rfl, ?_⟩) ?_
          rotate_left
          · intro w
            go_simp
            try with_reducible rfl
          try simp only [List.getElem_toArray, List.getElem_cons_succ, List.getElem_cons_zero]
          refine wpAny_done (by decide +kernel) ?_ _
          go_simp
          go_wp2_with fail
          go_meet
          first
            | exact ⟨_, rfl, rfl, GBox.set G5 _ _, GBox.wrote B5 G5 _ _⟩
            | exact ⟨_, rfl, rfl, heap_alloc_new _ _, B4.on ((Below.refl _ _).alloc (Nat.le_refl _) _)⟩
        · have k0 := B1.1
          have k1 := B1.2.1
          go_simp
          refine hK _ _ ?_
          clear hK K
          refine wpAny_ready (rs := [1]) (by decide +kernel) (by simp) ?_
          refine AllReady.cons rfl (fun K hK => ?_) AllReady.nil
          go_simp
          (with_reducible refine (HT.out _ B1).mono ?_)
          rintro e ws ⟨Bs, cs, rfl, hcs, hds, fs, hbs⟩
          refine hK _ _ ?_
          clear hK K
          have B3 := B1.on hbs
          have G3 := GBox.on G1 hbs
          have J3 := fs.ints
          refine wpAny_ready (rs := [3]) (by decide +kernel) (by simp) ?_
          refine AllReady.cons rfl (fun K hK => ?_) AllReady.nil
          go_simp
          (with_reducible refine (toFault_any a1 b1 _).mono ?_)
          rintro e v4 ⟨rfl, hb4⟩
          refine hK _ _ ?_
          clear hK K
          have B4 := B3.on hb4
          have G4 := GBox.on G3 hb4
          have J4 := J3.next hb4
          refine wpAny_ready (rs := [4]) (by decide +kernel) (by simp) ?_
          refine AllReady.cons rfl (fun K hK => ?_) AllReady.nil
          go_simp
          (with_reducible refine (HC.out _ _ _ J4).mono ?_)
          rintro e v5 ⟨rfl, hb5⟩
          refine hK _ _ ?_
          clear hK K
          have B5 := B4.on hb5
          have G5 := GBox.on G4 hb5
          have J5 := J4.next hb5
          refine wpAny_take (i := 5) (v := ?_) rfl (by kernel_rfl) (by decide +kernel) (by decide +kernel) (fun _ _ _ h => h) (Or.inl ⟨by kernel_rfl, ?_⟩) ?_
          rotate_left
          · intro w
            go_simp
            try with_reducible rfl
          try simp only [List.getElem_toArray, List.getElem_cons_succ, List.getElem_cons_zero]
          refine wpAny_take (i := 6) (v := ?_) rfl (by kernel_rfl) (by decide +kernel) (by decide +kernel) (fun _ _ _ h => h) (Or.inl ⟨by kernel_rfl, ?_⟩) ?_
          rotate_left
          · intro w
            go_simp
            try with_reducible rfl
          try simp only [List.getElem_toArray, List.getElem_cons_succ, List.getElem_cons_zero]
          refine wpAny_take (i := 7) (v := ?_) rfl (by kernel_rfl) (by decide +kernel) (by decide +kernel) (fun _ _ _ h => h) (Or.inl ⟨by kernel_rfl, ?_⟩) ?_
          rotate_left
          · intro w
            go_simp
            try with_reducible rfl
          try simp only [List.getElem_toArray, List.getElem_cons_succ, List.getElem_cons_zero]
          obtain ⟨q0, q1⟩ := FBox.cells G5.1
          obtain ⟨f0, f1⟩ := FBox.free G5.1
          refine wpAny_ready (rs := [9]) (by decide +kernel) (by simp) ?_
          refine AllReady.cons rfl (fun K hK => ?_) AllReady.nil
          go_simp
          refine hK _ _ ?_
          clear hK K
          refine wpAny_take (i := 10) (v := ?_) rfl (by kernel_rfl) (by decide +kernel) (by decide +kernel) (fun _ _ _ h => h) (Or.inl ⟨by kernel_rfl, ?_⟩) ?_
          rotate_left
          · intro w
            go_simp
            try with_reducible rfl
          try simp only [List.getElem_toArray, List.getElem_cons_succ, List.getElem_cons_zero]
          refine wpAny_done (by decide +kernel) ?_ _
          go_simp
          go_wp2_with fail
          go_meet
          first
            | exact ⟨_, rfl, rfl, GBox.set G5 _ _, GBox.wrote B5 G5 _ _⟩
            | exact ⟨_, rfl, rfl, heap_alloc_new _ _, B4.on ((Below.refl _ _).alloc (Nat.le_refl _) _)⟩
    obtain ⟨g, rfl, rfl, G, BC⟩ := hcut
    clear HC
    go_wp2_with fail
    (with_reducible refine (HT.out _ BC).mono ?_)
    rintro e w3 ⟨By, cy, rfl, hcy, hdy, y0, hb3⟩
    have B3 := BC.on hb3
    have k0 := B3.1
    have k1 := B3.2.1
    go_wp2_with fail
    (with_reducible refine (toFault_any a1 b1 _).mono ?_)
    rintro e w4 ⟨rfl, hb4⟩
    have B4 := B3.on hb4
    have z4 := hb4.size
    replace y0 := y0.below (hb4.mono (by omega))
    go_wp2_with fail
    (with_reducible refine (faultBack_any _ x0 len0 _ a1 b1 _ hl0 (y0.ints.mono (by omega)) hn0).mono ?_)
    rintro e w5 ⟨rfl, hb5⟩
    have B5 := B4.on hb5
    have z5 := hb5.size
    replace y0 := y0.below (hb5.mono (by omega))
    obtain ⟨g0, g1⟩ := ((((G.on hb3).on hb4).on hb5).on ((Below.refl _ w5).alloc (Nat.le_refl _) (.cells #[.int .i64 (fbM x0 len0 a1 b1), .int .i64 (fbO x0 len0 a1 b1)] 33))).cells
    have h0 : (w5.alloc (.cells #[.int .i64 (fbM x0 len0 a1 b1), .int .i64 (fbO x0 len0 a1 b1)] 33)).cell? ⟨w5.heap.size, 0, none⟩ = some (.int .i64 (fbM x0 len0 a1 b1)) := cell_of_row _ _ 0 _ _ _ (heap_alloc_new w5 _)
    have h1 : (w5.alloc (.cells #[.int .i64 (fbM x0 len0 a1 b1), .int .i64 (fbO x0 len0 a1 b1)] 33)).cell? ⟨w5.heap.size, 1, none⟩ = some (.int .i64 (fbO x0 len0 a1 b1)) := cell_of_row _ _ 1 _ _ _ (heap_alloc_new w5 _)
    have BA := B5.on ((Below.refl _ w5).alloc (Nat.le_refl _) (.cells #[.int .i64 (fbM x0 len0 a1 b1), .int .i64 (fbO x0 len0 a1 b1)] 33))
    have yA := y0.below ((Below.refl w5.heap.size w5).alloc (Nat.le_refl _) (.cells #[.int .i64 (fbM x0 len0 a1 b1), .int .i64 (fbO x0 len0 a1 b1)] 33) |>.mono (by omega))
    have zA : w5.heap.size < (w5.alloc (.cells #[.int .i64 (fbM x0 len0 a1 b1), .int .i64 (fbO x0 len0 a1 b1)] 33)).heap.size := by simp
    go_wp2_with fail
    (with_reducible refine (eqFault_same _ _ _).mono ?_)
    rintro e w8 ⟨rfl, hb8⟩
    have B8 := BA.on hb8
    have z8 := hb8.size
    replace y0 := yA.below (hb8.mono (by omega))
    go_wp2_with fail
    (with_reducible refine (HT.out _ B8).mono ?_)
    rintro e w6 ⟨Bz, cz, rfl, hcz, hdz, z0, hb6⟩
    have B6 := B8.on hb6
    have z6 := hb6.size
    replace y0 := y0.below (hb6.mono (by omega))
    go_wp2_with fail
    (with_reducible refine (eqSectionS_same _ _ (x0) (len0) _ _ _ hl0 (y0.ints.mono (by omega)) (z0.ints.mono (by omega)) (by omega)).mono ?_)
    rintro e w7 ⟨rfl, hb7⟩
    have B7 := B6.on hb7
    go_wp2
    go_ret
    exact ⟨rfl, B7.2.2.2⟩
end Go.Proofs.Ytlhmpecoboeoaaa
