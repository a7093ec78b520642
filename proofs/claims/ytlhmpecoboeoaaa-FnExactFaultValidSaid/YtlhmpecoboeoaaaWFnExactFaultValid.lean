/-
  WALK: the law FnExactFaultValid.
-/
import Derived.Test.YtlhmpecoboeoaaaFault
import Derived.Test.YtlhmpecoboeoaaaFaultX
import Derived.Test.YtlhmpecoboeoaaaSecX
namespace Go.Proofs.Ytlhmpecoboeoaaa
set_option linter.unusedVariables false
set_option linter.unusedSimpArgs false
open Go.RowKit

set_option maxRecDepth 100000 in
set_option maxHeartbeats 4000000 in
theorem walk_FnExactFaultValid (w0 : World) (A0 : Option Addr) (len0 cap0 : Nat) (x0 : List Int) (i0 : IsSecs w0 A0 len0 cap0 x0) (a1 b1 : Int) (wa1 : (Lit.int .i64 a1).wf = true) (wb1 : (Lit.int .i64 b1).wf = true) :
    Calls Try.prog 5 #[.slice A0 len0 cap0, .agg #[.int .i64 a1, .int .i64 b1]] w0 fun e w' => e = .returned (.bool true) ∧ Below w0.heap.size w0 w' := by
  have o0 := i0.ints
  obtain ⟨hl0, hlc0, hm0, -, -⟩ := i0
  unfold maxLen at hm0
  have B0 : Boxed w0 (w0.alloc (.cells #[.int .i64 a1, .int .i64 b1] 31)) a1 b1 := ⟨by go_cell, by go_cell, by simp, by go_grown⟩
  go_enter Try.func5, Try.ntmps5
  go_wp2_with fail
  (with_reducible refine (szSectionS_any _ len0 _ (1048576) _ (by omega) (by omega) (by omega)).mono ?_)
  rintro e w' ⟨rfl, rfl⟩
  by_cases big0 : (1048576 : Int) < (len0 : Int)
  · rw [if_pos big0]
    go_wp2
    go_ret
    exact ⟨rfl, B0.2.2.2⟩
  · rw [if_neg big0]
    have hn0 : len0 ≤ 1048576 := by omega
    have HT := hide (fun (w' : World) (hb : Boxed w0 w' a1 b1) => toSectionS_any A0 x0 len0 cap0 w' hl0 ((o0.below hb.2.2.2).mono hb.2.2.2.size) hn0)
    have HC := hide (fun (w' : World) (A : Option Addr) (c : Nat) (hi : Ints w' w'.heap.size A x0) => specFaultValid_any A x0 len0 c a1 b1 w' hl0 hi hn0)
    go_wp2_with fail
    go_cut [6] (fun s0 wx => s0 = Value.bool (faultOk x0 len0 a1 b1) ∧ Boxed w0 wx a1 b1)
    case first =>
      refine wp_region_any (by kernel_rfl) ?_
      try (change wpAny _ _ _ _ _ _ _ (World.drew _))
      replace B0 := Boxed.drew B0
      generalize (World.drew _) = wa at B0 ⊢
      refine wpAny_take (i := 0) (v := ?_) rfl (by kernel_rfl) (by decide +kernel) (by decide +kernel) (fun _ _ _ h => h) (Or.inl ⟨by kernel_rfl, ?_⟩) ?_
      rotate_left
      · intro w
        go_simp
        try with_reducible rfl
      try simp only [List.getElem_toArray, List.getElem_cons_succ, List.getElem_cons_zero]
      refine wpAny_ready (rs := [1, 2]) (by decide +kernel) (by simp) ?_
      refine AllReady.cons rfl (fun K hK => ?_) (AllReady.cons rfl (fun K hK => ?_) AllReady.nil)
      · go_simp
        (with_reducible refine (HT.out _ B0).mono ?_)
        rintro e ws ⟨Bs, cs, rfl, hcs, hds, fs, hbs⟩
        refine hK _ _ ?_
        clear hK K
        have B1 := B0.on hbs
        have k0 := B1.1
        have k1 := B1.2.1
        refine wpAny_ready (rs := [2]) (by decide +kernel) (by simp) ?_
        refine AllReady.cons rfl (fun K hK => ?_) AllReady.nil
        go_simp
        refine hK _ _ ?_
        clear hK K
        refine wpAny_ready (rs := [3]) (by decide +kernel) (by simp) ?_
        refine AllReady.cons rfl (fun K hK => ?_) AllReady.nil
        go_simp
        (with_reducible refine (toFault_any a1 b1 _).mono ?_)
        rintro e wf ⟨rfl, hbf⟩
        refine hK _ _ ?_
        clear hK K
        have B2 := B1.on hbf
        refine wpAny_ready (rs := [4]) (by decide +kernel) (by simp) ?_
        refine AllReady.cons rfl (fun K hK => ?_) AllReady.nil
        go_simp
        (with_reducible refine (HC.out _ _ _ ((fs.below (hbf.mono (Nat.le_refl _))).ints.mono hbf.size)).mono ?_)
        rintro e wz ⟨rfl, hbz⟩
        refine hK _ _ ?_
        clear hK K
        have BZ := B2.on hbz
        refine wpAny_ready (rs := [5]) (by decide +kernel) (by simp) ?_
        refine AllReady.cons rfl (fun K hK => ?_) AllReady.nil
        go_simp
        refine hK _ _ ?_
        clear hK K
        refine wpAny_done (by decide +kernel) ?_ _
        go_simp
        go_wp2_with fail
        go_meet
        exact ⟨rfl, BZ⟩
      · have k0 := B0.1
        have k1 := B0.2.1
        go_simp
        refine hK _ _ ?_
        clear hK K
        refine wpAny_ready (rs := [1]) (by decide +kernel) (by simp) ?_
        refine AllReady.cons rfl (fun K hK => ?_) AllReady.nil
        go_simp
        (with_reducible refine (HT.out _ B0).mono ?_)
        rintro e ws ⟨Bs, cs, rfl, hcs, hds, fs, hbs⟩
        refine hK _ _ ?_
        clear hK K
        have B1 := B0.on hbs
        refine wpAny_ready (rs := [3]) (by decide +kernel) (by simp) ?_
        refine AllReady.cons rfl (fun K hK => ?_) AllReady.nil
        go_simp
        (with_reducible refine (toFault_any a1 b1 _).mono ?_)
        rintro e wf ⟨rfl, hbf⟩
        refine hK _ _ ?_
        clear hK K
        have B2 := B1.on hbf
        refine wpAny_ready (rs := [4]) (by decide +kernel) (by simp) ?_
        refine AllReady.cons rfl (fun K hK => ?_) AllReady.nil
        go_simp
        (with_reducible refine (HC.out _ _ _ ((fs.below (hbf.mono (Nat.le_refl _))).ints.mono hbf.size)).mono ?_)
        rintro e wz ⟨rfl, hbz⟩
        refine hK _ _ ?_
        clear hK K
        have BZ := B2.on hbz
        refine wpAny_ready (rs := [5]) (by decide +kernel) (by simp) ?_
        refine AllReady.cons rfl (fun K hK => ?_) AllReady.nil
        go_simp
        refine hK _ _ ?_
        clear hK K
        refine wpAny_done (by decide +kernel) ?_ _
        go_simp
        go_wp2_with fail
        go_meet
        exact ⟨rfl, BZ⟩
    obtain ⟨rfl, BC⟩ := hcut
    clear HC
    go_wp2_with fail
    (with_reducible refine (HT.out _ BC).mono ?_)
    rintro e w3 ⟨By, cy, rfl, hcy, hdy, y0, hb3⟩
    have B3 := BC.on hb3
    have k0 := B3.1
    have k1 := B3.2.1
    go_wp2_with fail
    (with_reducible refine (toFault_any a1 b1 _).mono ?_)
    rintro e w4 ⟨rfl, hb4⟩
    have B4 := B3.on hb4
    have z4 := hb4.size
    replace y0 := y0.below (hb4.mono (by omega))
    go_wp2_with fail
    (with_reducible refine (faultValid_any _ x0 len0 _ a1 b1 _ hl0 (y0.ints.mono (by omega)) hn0).mono ?_)
    rintro e w5 ⟨rfl, hb5⟩
    have B5 := B4.on hb5
    have z5 := hb5.size
    replace y0 := y0.below (hb5.mono (by omega))
    go_wp2_with fail
    (with_reducible refine (HT.out _ B5).mono ?_)
    rintro e w6 ⟨Bz, cz, rfl, hcz, hdz, z0, hb6⟩
    have B6 := B5.on hb6
    have z6 := hb6.size
    replace y0 := y0.below (hb6.mono (by omega))
    go_wp2_with fail
    (with_reducible refine (eqSectionS_same _ _ (x0) (len0) _ _ _ hl0 (y0.ints.mono (by omega)) (z0.ints.mono (by omega)) (by omega)).mono ?_)
    rintro e w7 ⟨rfl, hb7⟩
    have B7 := B6.on hb7
    go_wp2
    go_ret
    exact ⟨rfl, B7.2.2.2⟩
end Go.Proofs.Ytlhmpecoboeoaaa
