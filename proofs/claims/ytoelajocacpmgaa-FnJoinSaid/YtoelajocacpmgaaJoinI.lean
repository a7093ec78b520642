/-
  WALKS: the floor of two floors: the program's.
-/
import Derived.Test.YtoelajocacpmgaaSpecJoin
import Derived.Deep.DeepCutAuto
import Derived.Deep.RegionWith
namespace Go.Proofs.Ytoelajocacpmgaa
set_option linter.unusedVariables false
set_option linter.unusedSimpArgs false
open Go.RowKit

set_option maxHeartbeats 3200000 in
theorem floorJoin_any (A B : Option Addr) (xs ys : List Int) (c d : Nat) (w : World) (h : Ints w w.heap.size A xs) (h' : Ints w w.heap.size B ys) (hn : xs.length ≤ 1048576) (hn' : ys.length ≤ 1048576)
    (hc : xs.length ≤ c) (hcm : c ≤ 9223372036854775807) (hd : ys.length ≤ d) (hdm : d ≤ 9223372036854775807) :
    Calls Try.prog 55 #[.slice A xs.length c, .slice B ys.length d] w (RetList w (join xs ys) (joinOk xs ys)) := by
  have H := hide h
  have H' := hide h'
  clear h h'
  have hV : ∀ W, Below w.heap.size w W → Calls Try.prog 63 #[.slice A xs.length c] W fun e w' => e = .returned (.bool (floorOk xs)) ∧ Below w.heap.size w w' := fun W hW =>
    (floorValid_any A xs c W (H.out.next hW) hn).mono (by rintro e w' ⟨rfl, hb⟩; exact ⟨rfl, bt hW hb⟩)
  have hV' : ∀ W, Below w.heap.size w W → Calls Try.prog 63 #[.slice B ys.length d] W fun e w' => e = .returned (.bool (floorOk ys)) ∧ Below w.heap.size w w' := fun W hW =>
    (floorValid_any B ys d W (H'.out.next hW) hn').mono (by rintro e w' ⟨rfl, hb⟩; exact ⟨rfl, bt hW hb⟩)
  have hBd : Below w.heap.size w w.drew := (Below.refl _ _).drew
  have hB0 := Below.refl w.heap.size w
  by_cases h1 : floorOk xs = true
  · rw [h1] at hV
    have HV := hide hV
    clear hV
    by_cases h2 : floorOk ys = true
    · rw [h2] at hV'
      have HV' := hide hV'
      clear hV'
      obtain ⟨l1, l2⟩ := floorOk_len h1
      obtain ⟨k1, k2⟩ := floorOk_len h2
      obtain ⟨b, off, rfl, hb, hcx⟩ := H.out (by omega)
      obtain ⟨b', off', rfl, hb', hcy⟩ := H'.out (by omega)
      have HS := hide (show ∀ W, Below w.heap.size w W → W.cell? ⟨b, off + (xs.length - 1), none⟩ = some (.int .i64 (at0 xs (xs.length - 1))) ∧ W.cell? ⟨b', off', none⟩ = some (.int .i64 (at0 ys 0)) ∧ Below w.heap.size w W from fun W hW =>
        ⟨(hW.cell (p := ⟨b, off + (xs.length - 1), none⟩) hb).trans (hcx _ (by omega)), (hW.cell (p := ⟨b', off', none⟩) hb').trans (by have := hcy 0 (by omega); rwa [Nat.add_zero] at this), hW⟩)
      have e1 : (0 : Int) ≤ (xs.length : Int) - 1 := by omega
      have e2 : (xs.length : Int) - 1 < (xs.length : Int) := by omega
      have e3 : ((xs.length : Int) - 1).toNat = xs.length - 1 := by omega
      have e4 : (0 : Int) < (ys.length : Int) := by omega
      have e1' : (1 : Int) ≤ (xs.length : Int) := by omega
      have e4' : 0 < ys.length := by omega
      have e2' : xs.length - 1 < xs.length := by omega
      have s1 : IntKind.i64.wrap ((xs.length : Int) - 1) = (xs.length : Int) - 1 := IntWalk.i64_in _ ⟨by omega, by omega⟩
      obtain ⟨c1, c2, -⟩ := HS.out _ hB0
      by_cases h3 : at0 xs (xs.length - 1) = at0 ys 0
      · have heq : (at0 xs (xs.length - 1) != at0 ys 0) = false := by simp [h3]
        obtain ⟨L, hL⟩ : ∃ L, L = xs ++ ys.drop 1 := ⟨_, rfl⟩
        have hj1 : L.length = xs.length + (ys.length - 1) := by rw [hL]; simp
        have HJ1 := hide hj1
        have H'd := hide (H'.out.drop1 (by omega))
        have hld := hide (show (ys.drop 1).length = (ys.length - 1) * 1 by simp)
        have hlx := hide (show xs.length = xs.length * 1 by simp)
        have e5 : (1 : Int) ≤ (ys.length : Int) := by omega
        have e6 : (1 : Int) ≤ (d : Int) := by omega
        have e7 : (ys.length : Int) ≤ (d : Int) := by omega
        have e8 : ¬ d = 1 := by omega
        by_cases h4 : floorOk L = true
        · have hok : joinOk xs ys = true := by rw [hL] at h4; unfold joinOk; rw [h1, h2, h3, h4]; simp
          have HN := hide (show join xs ys = L by rw [hL]; unfold join; rw [if_pos hok])
          have H4 := hide h4
          rw [HN.out, hok]
          have HL := hide hL
          clear hcx hcy h1 h2 h3 h4 hok hj1 hL
          go_enter Try.func55, Try.ntmps55
          go_upto_region 1 with fail
          go_cut [26] (fun s wx => s = .bool false ∧ Below w.heap.size w wx)
          case first =>
            go_region_held3 (fun w' => w'.cell? ⟨b, off + (xs.length - 1), none⟩ = some (.int .i64 (at0 xs (xs.length - 1))) ∧ w'.cell? ⟨b', off', none⟩ = some (.int .i64 (at0 ys 0)) ∧ Below w.heap.size w w') (exact HS.out _ (by assumption))
            ((first | (go_at_call 63; (with_reducible refine (HV.out _ (by assumption)).mono ?_); rintro e w1 ⟨rfl, hb1⟩) | (go_at_call 63; (with_reducible refine (HV'.out _ (by assumption)).mono ?_); rintro e w2 ⟨rfl, hb2⟩)))
            all_goals (go_wp2_with fail; go_meet; exact ⟨rfl, by assumption⟩)
          obtain ⟨rfl, hb2⟩ := hcut
          clear s1
          go_wp2_with fail
          (with_reducible refine (concat_new _ _ _ _ _ _ _ xs (ys.drop 1) hlx.out hld.out (H.out.next hb2) (H'd.out.next hb2) (by omega) (by omega)).mono ?_)
          rintro e w3 ⟨v, rfl, hown, hb3⟩
          obtain ⟨A2, c2, rfl, g1, g2⟩ := own_form hown
          have hown3 : w3.ownsRow wc.heap.size 3 1 (.slice A2 L.length c2) L.length (L.map (Value.int .i64)) := by
            have e0 : xs.length + (ys.length - 1) = L.length := HJ1.out.symm
            rw [e0, ← HL.out] at hown
            exact hown
          rw [← HJ1.out]
          unfold maxLen at g2
          have hfr := Fresh.of_own hown3
          have HG1 := hide (show L.length ≤ c2 by rw [HJ1.out]; exact g1)
          have hB3 := bt hb2 hb3
          clear hown hown3 g1
          go_wp2_with fail
          (with_reducible refine (floorValid_any A2 L c2 _ hfr.ints (by rw [HJ1.out]; omega)).mono ?_)
          rintro e w4 ⟨rfl, hb4⟩
          rw [H4.out]
          have hfr4 := (hfr.below hb4).mono hb2.size hb4.size
          have hB4 := bt hB3 hb4
          go_wp2_with fail
          refine (clip_any _ _ _ _ HG1.out (by omega)).mono ?_
          rintro e w' ⟨rfl, rfl⟩
          go_wp2
          go_ret2
          exact ⟨A2, L.length, rfl, Nat.le_refl _, by have := HG1.out; omega, hfr4, hB4⟩
        · have h4' : floorOk L = false := by simpa using h4
          have hok : joinOk xs ys = false := by rw [hL] at h4'; unfold joinOk; rw [h4']; simp
          have HN := hide (show join xs ys = [] by simp [join, hok])
          clear h4
          have h4 := h4'
          clear h4'
          have H4 := hide h4
          rw [HN.out, hok]
          have HL := hide hL
          clear hcx hcy h1 h2 h3 h4 hok hj1 hL
          go_enter Try.func55, Try.ntmps55
          go_upto_region 1 with fail
          go_cut [26] (fun s wx => s = .bool false ∧ Below w.heap.size w wx)
          case first =>
            go_region_held3 (fun w' => w'.cell? ⟨b, off + (xs.length - 1), none⟩ = some (.int .i64 (at0 xs (xs.length - 1))) ∧ w'.cell? ⟨b', off', none⟩ = some (.int .i64 (at0 ys 0)) ∧ Below w.heap.size w w') (exact HS.out _ (by assumption))
            ((first | (go_at_call 63; (with_reducible refine (HV.out _ (by assumption)).mono ?_); rintro e w1 ⟨rfl, hb1⟩) | (go_at_call 63; (with_reducible refine (HV'.out _ (by assumption)).mono ?_); rintro e w2 ⟨rfl, hb2⟩)))
            all_goals (go_wp2_with fail; go_meet; exact ⟨rfl, by assumption⟩)
          obtain ⟨rfl, hb2⟩ := hcut
          clear s1
          go_wp2_with fail
          (with_reducible refine (concat_new _ _ _ _ _ _ _ xs (ys.drop 1) hlx.out hld.out (H.out.next hb2) (H'd.out.next hb2) (by omega) (by omega)).mono ?_)
          rintro e w3 ⟨v, rfl, hown, hb3⟩
          obtain ⟨A2, c2, rfl, g1, g2⟩ := own_form hown
          have hown3 : w3.ownsRow wc.heap.size 3 1 (.slice A2 L.length c2) L.length (L.map (Value.int .i64)) := by
            have e0 : xs.length + (ys.length - 1) = L.length := HJ1.out.symm
            rw [e0, ← HL.out] at hown
            exact hown
          rw [← HJ1.out]
          unfold maxLen at g2
          have hfr := Fresh.of_own hown3
          have HG1 := hide (show L.length ≤ c2 by rw [HJ1.out]; exact g1)
          have hB3 := bt hb2 hb3
          clear hown hown3 g1
          go_wp2_with fail
          (with_reducible refine (floorValid_any A2 L c2 _ hfr.ints (by rw [HJ1.out]; omega)).mono ?_)
          rintro e w4 ⟨rfl, hb4⟩
          rw [H4.out]
          have hfr4 := (hfr.below hb4).mono hb2.size hb4.size
          have hB4 := bt hB3 hb4
          go_wp2
          go_ret2
          exact RetList.nil hB4
      · have hne : (at0 xs (xs.length - 1) != at0 ys 0) = true := by simpa using h3
        have hne' : (at0 xs (xs.length - 1) == at0 ys 0) = false := by simpa using h3
        have hok : joinOk xs ys = false := by simp [joinOk, hne']
        have HN := hide (show join xs ys = [] by simp [join, hok])
        rw [HN.out, hok]
        clear hcx hcy h1 h2 h3 hok
        go_enter Try.func55, Try.ntmps55
        go_wp2_with fail
        go_region_held3 (fun w' => w'.cell? ⟨b, off + (xs.length - 1), none⟩ = some (.int .i64 (at0 xs (xs.length - 1))) ∧ w'.cell? ⟨b', off', none⟩ = some (.int .i64 (at0 ys 0)) ∧ Below w.heap.size w w') (exact HS.out _ (by assumption))
          ((first | (go_at_call 63; (with_reducible refine (HV.out _ (by assumption)).mono ?_); rintro e w1 ⟨rfl, hb1⟩) | (go_at_call 63; (with_reducible refine (HV'.out _ (by assumption)).mono ?_); rintro e w2 ⟨rfl, hb2⟩)))
        all_goals
          go_wp2
          go_ret2
          exact RetList.nil (by assumption)
    · have h2' : floorOk ys = false := by simpa using h2
      rw [h2'] at hV'
      have HV' := hide hV'
      have hok : joinOk xs ys = false := by simp [joinOk, h2']
      have HN := hide (show join xs ys = [] by simp [join, hok])
      rw [HN.out, hok]
      clear h1 h2 h2' hV' hok
      go_enter Try.func55, Try.ntmps55
      go_wp2_with fail
      refine wp_region_any (by kernel_rfl) ?_
      try (change wpAny _ _ _ _ _ _ _ (World.drew _))
      refine wpAny_take (i := 0) (v := ?_) rfl (by kernel_rfl) (by kernel_rfl) (by kernel_rfl) (fun _ _ _ h => h) (Or.inl ⟨by kernel_rfl, ?_⟩) ?_
      rotate_left
      · intro w
        go_simp
        try with_reducible rfl
      try simp only [List.getElem_toArray, List.getElem_cons_succ, List.getElem_cons_zero]
      refine wpAny_ready (rs := [1]) (by kernel_rfl) (by simp) ?_
      refine AllReady.cons rfl (fun K hK => ?_) AllReady.nil
      go_simp
      go_wp2_with (go_at_call 63; (with_reducible refine (HV.out _ (by assumption)).mono ?_); rintro e w1 ⟨rfl, hb1⟩)
      try (refine hK _ _ ?_; clear hK K)
      refine wpAny_take (i := 2) (v := ?_) rfl (by kernel_rfl) (by kernel_rfl) (by kernel_rfl) (fun _ _ _ h => h) (Or.inl ⟨by kernel_rfl, ?_⟩) ?_
      rotate_left
      · intro w
        go_simp
        try with_reducible rfl
      try simp only [List.getElem_toArray, List.getElem_cons_succ, List.getElem_cons_zero]
      refine wpAny_take (i := 3) (v := ?_) rfl (by kernel_rfl) (by kernel_rfl) (by kernel_rfl) (fun _ _ _ h => h) (Or.inl ⟨by kernel_rfl, ?_⟩) ?_
      rotate_left
      · intro w
        go_simp
        try with_reducible rfl
      try simp only [List.getElem_toArray, List.getElem_cons_succ, List.getElem_cons_zero]
      refine wpAny_take (i := 4) (v := ?_) rfl (by kernel_rfl) (by kernel_rfl) (by kernel_rfl) (fun _ _ _ h => h) (Or.inl ⟨by kernel_rfl, ?_⟩) ?_
      rotate_left
      · intro w
        go_simp
        try with_reducible rfl
      try simp only [List.getElem_toArray, List.getElem_cons_succ, List.getElem_cons_zero]
      refine wpAny_ready (rs := [5]) (by kernel_rfl) (by simp) ?_
      refine AllReady.cons rfl (fun K hK => ?_) AllReady.nil
      go_simp
      go_wp2_with (go_at_call 63; (with_reducible refine (HV'.out _ (by assumption)).mono ?_); rintro e w2 ⟨rfl, hb2⟩)
      try (refine hK _ _ ?_; clear hK K)
      refine wpAny_take (i := 6) (v := ?_) rfl (by kernel_rfl) (by kernel_rfl) (by kernel_rfl) (fun _ _ _ h => h) (Or.inl ⟨by kernel_rfl, ?_⟩) ?_
      rotate_left
      · intro w
        go_simp
        try with_reducible rfl
      try simp only [List.getElem_toArray, List.getElem_cons_succ, List.getElem_cons_zero]
      refine wpAny_take (i := 7) (v := ?_) rfl (by kernel_rfl) (by kernel_rfl) (by kernel_rfl) (fun _ _ _ h => h) (Or.inl ⟨by kernel_rfl, ?_⟩) ?_
      rotate_left
      · intro w
        go_simp
        try with_reducible rfl
      try simp only [List.getElem_toArray, List.getElem_cons_succ, List.getElem_cons_zero]
      refine wpAny_take (i := 8) (v := ?_) rfl (by kernel_rfl) (by kernel_rfl) (by kernel_rfl) (fun _ _ _ h => h) (Or.inl ⟨by kernel_rfl, ?_⟩) ?_
      rotate_left
      · intro w
        go_simp
        try with_reducible rfl
      try simp only [List.getElem_toArray, List.getElem_cons_succ, List.getElem_cons_zero]
      refine wpAny_take (i := 9) (v := undef) rfl (by kernel_rfl) (by kernel_rfl) (by kernel_rfl) (fun _ _ _ h => h) (Or.inr ⟨by kernel_rfl, rfl⟩) ?_
      try simp only [List.getElem_toArray, List.getElem_cons_succ, List.getElem_cons_zero]
      refine wpAny_take (i := 10) (v := undef) rfl (by kernel_rfl) (by kernel_rfl) (by kernel_rfl) (fun _ _ _ h => h) (Or.inr ⟨by kernel_rfl, rfl⟩) ?_
      try simp only [List.getElem_toArray, List.getElem_cons_succ, List.getElem_cons_zero]
      refine wpAny_take (i := 11) (v := undef) rfl (by kernel_rfl) (by kernel_rfl) (by kernel_rfl) (fun _ _ _ h => h) (Or.inr ⟨by kernel_rfl, rfl⟩) ?_
      try simp only [List.getElem_toArray, List.getElem_cons_succ, List.getElem_cons_zero]
      refine wpAny_take (i := 12) (v := undef) rfl (by kernel_rfl) (by kernel_rfl) (by kernel_rfl) (fun _ _ _ h => h) (Or.inr ⟨by kernel_rfl, rfl⟩) ?_
      try simp only [List.getElem_toArray, List.getElem_cons_succ, List.getElem_cons_zero]
      refine wpAny_take (i := 13) (v := undef) rfl (by kernel_rfl) (by kernel_rfl) (by kernel_rfl) (fun _ _ _ h => h) (Or.inr ⟨by kernel_rfl, rfl⟩) ?_
      try simp only [List.getElem_toArray, List.getElem_cons_succ, List.getElem_cons_zero]
      refine wpAny_take (i := 14) (v := undef) rfl (by kernel_rfl) (by kernel_rfl) (by kernel_rfl) (fun _ _ _ h => h) (Or.inr ⟨by kernel_rfl, rfl⟩) ?_
      try simp only [List.getElem_toArray, List.getElem_cons_succ, List.getElem_cons_zero]
      refine wpAny_take (i := 15) (v := undef) rfl (by kernel_rfl) (by kernel_rfl) (by kernel_rfl) (fun _ _ _ h => h) (Or.inr ⟨by kernel_rfl, rfl⟩) ?_
      try simp only [List.getElem_toArray, List.getElem_cons_succ, List.getElem_cons_zero]
      refine wpAny_take (i := 16) (v := undef) rfl (by kernel_rfl) (by kernel_rfl) (by kernel_rfl) (fun _ _ _ h => h) (Or.inr ⟨by kernel_rfl, rfl⟩) ?_
      try simp only [List.getElem_toArray, List.getElem_cons_succ, List.getElem_cons_zero]
      refine wpAny_take (i := 17) (v := undef) rfl (by kernel_rfl) (by kernel_rfl) (by kernel_rfl) (fun _ _ _ h => h) (Or.inr ⟨by kernel_rfl, rfl⟩) ?_
      try simp only [List.getElem_toArray, List.getElem_cons_succ, List.getElem_cons_zero]
      refine wpAny_take (i := 18) (v := undef) rfl (by kernel_rfl) (by kernel_rfl) (by kernel_rfl) (fun _ _ _ h => h) (Or.inr ⟨by kernel_rfl, rfl⟩) ?_
      try simp only [List.getElem_toArray, List.getElem_cons_succ, List.getElem_cons_zero]
      refine wpAny_take (i := 19) (v := ?_) rfl (by kernel_rfl) (by kernel_rfl) (by kernel_rfl) (fun _ _ _ h => h) (Or.inl ⟨by kernel_rfl, ?_⟩) ?_
      rotate_left
      · intro w
        go_simp
        try with_reducible rfl
      try simp only [List.getElem_toArray, List.getElem_cons_succ, List.getElem_cons_zero]
      refine wpAny_done (by kernel_rfl) ?_ _
      go_simp
      go_wp2
      go_ret2
      exact RetList.nil hb2
  · have h1' : floorOk xs = false := by simpa using h1
    rw [h1'] at hV
    have HV := hide hV
    have hok : joinOk xs ys = false := by simp [joinOk, h1']
    have HN := hide (show join xs ys = [] by simp [join, hok])
    rw [HN.out, hok]
    clear h1 h1' hV hV' hok
    go_enter Try.func55, Try.ntmps55
    go_wp2_with fail
    refine wp_region_any (by kernel_rfl) ?_
    try (change wpAny _ _ _ _ _ _ _ (World.drew _))
    refine wpAny_take (i := 0) (v := ?_) rfl (by kernel_rfl) (by kernel_rfl) (by kernel_rfl) (fun _ _ _ h => h) (Or.inl ⟨by kernel_rfl, ?_⟩) ?_
    rotate_left
    · intro w
      go_simp
      try with_reducible rfl
    try simp only [List.getElem_toArray, List.getElem_cons_succ, List.getElem_cons_zero]
    refine wpAny_ready (rs := [1]) (by kernel_rfl) (by simp) ?_
    refine AllReady.cons rfl (fun K hK => ?_) AllReady.nil
    go_simp
    go_wp2_with (go_at_call 63; (with_reducible refine (HV.out _ (by assumption)).mono ?_); rintro e w1 ⟨rfl, hb1⟩)
    try (refine hK _ _ ?_; clear hK K)
    refine wpAny_take (i := 2) (v := ?_) rfl (by kernel_rfl) (by kernel_rfl) (by kernel_rfl) (fun _ _ _ h => h) (Or.inl ⟨by kernel_rfl, ?_⟩) ?_
    rotate_left
    · intro w
      go_simp
      try with_reducible rfl
    try simp only [List.getElem_toArray, List.getElem_cons_succ, List.getElem_cons_zero]
    refine wpAny_take (i := 3) (v := ?_) rfl (by kernel_rfl) (by kernel_rfl) (by kernel_rfl) (fun _ _ _ h => h) (Or.inl ⟨by kernel_rfl, ?_⟩) ?_
    rotate_left
    · intro w
      go_simp
      try with_reducible rfl
    try simp only [List.getElem_toArray, List.getElem_cons_succ, List.getElem_cons_zero]
    refine wpAny_take (i := 4) (v := undef) rfl (by kernel_rfl) (by kernel_rfl) (by kernel_rfl) (fun _ _ _ h => h) (Or.inr ⟨by kernel_rfl, rfl⟩) ?_
    try simp only [List.getElem_toArray, List.getElem_cons_succ, List.getElem_cons_zero]
    refine wpAny_take (i := 5) (v := undef) rfl (by kernel_rfl) (by kernel_rfl) (by kernel_rfl) (fun _ _ _ h => h) (Or.inr ⟨by kernel_rfl, rfl⟩) ?_
    try simp only [List.getElem_toArray, List.getElem_cons_succ, List.getElem_cons_zero]
    refine wpAny_take (i := 6) (v := undef) rfl (by kernel_rfl) (by kernel_rfl) (by kernel_rfl) (fun _ _ _ h => h) (Or.inr ⟨by kernel_rfl, rfl⟩) ?_
    try simp only [List.getElem_toArray, List.getElem_cons_succ, List.getElem_cons_zero]
    refine wpAny_take (i := 7) (v := ?_) rfl (by kernel_rfl) (by kernel_rfl) (by kernel_rfl) (fun _ _ _ h => h) (Or.inl ⟨by kernel_rfl, ?_⟩) ?_
    rotate_left
    · intro w
      go_simp
      try with_reducible rfl
    try simp only [List.getElem_toArray, List.getElem_cons_succ, List.getElem_cons_zero]
    refine wpAny_take (i := 8) (v := ?_) rfl (by kernel_rfl) (by kernel_rfl) (by kernel_rfl) (fun _ _ _ h => h) (Or.inl ⟨by kernel_rfl, ?_⟩) ?_
    rotate_left
    · intro w
      go_simp
      try with_reducible rfl
    try simp only [List.getElem_toArray, List.getElem_cons_succ, List.getElem_cons_zero]
    refine wpAny_take (i := 9) (v := undef) rfl (by kernel_rfl) (by kernel_rfl) (by kernel_rfl) (fun _ _ _ h => h) (Or.inr ⟨by kernel_rfl, rfl⟩) ?_
    try simp only [List.getElem_toArray, List.getElem_cons_succ, List.getElem_cons_zero]
    refine wpAny_take (i := 10) (v := undef) rfl (by kernel_rfl) (by kernel_rfl) (by kernel_rfl) (fun _ _ _ h => h) (Or.inr ⟨by kernel_rfl, rfl⟩) ?_
    try simp only [List.getElem_toArray, List.getElem_cons_succ, List.getElem_cons_zero]
    refine wpAny_take (i := 11) (v := undef) rfl (by kernel_rfl) (by kernel_rfl) (by kernel_rfl) (fun _ _ _ h => h) (Or.inr ⟨by kernel_rfl, rfl⟩) ?_
    try simp only [List.getElem_toArray, List.getElem_cons_succ, List.getElem_cons_zero]
    refine wpAny_take (i := 12) (v := undef) rfl (by kernel_rfl) (by kernel_rfl) (by kernel_rfl) (fun _ _ _ h => h) (Or.inr ⟨by kernel_rfl, rfl⟩) ?_
    try simp only [List.getElem_toArray, List.getElem_cons_succ, List.getElem_cons_zero]
    refine wpAny_take (i := 13) (v := undef) rfl (by kernel_rfl) (by kernel_rfl) (by kernel_rfl) (fun _ _ _ h => h) (Or.inr ⟨by kernel_rfl, rfl⟩) ?_
    try simp only [List.getElem_toArray, List.getElem_cons_succ, List.getElem_cons_zero]
    refine wpAny_take (i := 14) (v := undef) rfl (by kernel_rfl) (by kernel_rfl) (by kernel_rfl) (fun _ _ _ h => h) (Or.inr ⟨by kernel_rfl, rfl⟩) ?_
    try simp only [List.getElem_toArray, List.getElem_cons_succ, List.getElem_cons_zero]
    refine wpAny_take (i := 15) (v := undef) rfl (by kernel_rfl) (by kernel_rfl) (by kernel_rfl) (fun _ _ _ h => h) (Or.inr ⟨by kernel_rfl, rfl⟩) ?_
    try simp only [List.getElem_toArray, List.getElem_cons_succ, List.getElem_cons_zero]
    refine wpAny_take (i := 16) (v := undef) rfl (by kernel_rfl) (by kernel_rfl) (by kernel_rfl) (fun _ _ _ h => h) (Or.inr ⟨by kernel_rfl, rfl⟩) ?_
    try simp only [List.getElem_toArray, List.getElem_cons_succ, List.getElem_cons_zero]
    refine wpAny_take (i := 17) (v := undef) rfl (by kernel_rfl) (by kernel_rfl) (by kernel_rfl) (fun _ _ _ h => h) (Or.inr ⟨by kernel_rfl, rfl⟩) ?_
    try simp only [List.getElem_toArray, List.getElem_cons_succ, List.getElem_cons_zero]
    refine wpAny_take (i := 18) (v := undef) rfl (by kernel_rfl) (by kernel_rfl) (by kernel_rfl) (fun _ _ _ h => h) (Or.inr ⟨by kernel_rfl, rfl⟩) ?_
    try simp only [List.getElem_toArray, List.getElem_cons_succ, List.getElem_cons_zero]
    refine wpAny_take (i := 19) (v := ?_) rfl (by kernel_rfl) (by kernel_rfl) (by kernel_rfl) (fun _ _ _ h => h) (Or.inl ⟨by kernel_rfl, ?_⟩) ?_
    rotate_left
    · intro w
      go_simp
      try with_reducible rfl
    try simp only [List.getElem_toArray, List.getElem_cons_succ, List.getElem_cons_zero]
    refine wpAny_done (by kernel_rfl) ?_ _
    go_simp
    go_wp2
    go_ret2
    exact RetList.nil hb1
end Go.Proofs.Ytoelajocacpmgaa
