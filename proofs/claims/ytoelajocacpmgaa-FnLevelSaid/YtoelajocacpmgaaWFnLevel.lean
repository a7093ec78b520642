/-
  WALK: the law FnLevel.
-/
import Derived.Test.YtoelajocacpmgaaLawLevelP
import Derived.Test.YtoelajocacpmgaaDrawsFloor
import Derived.Maps.AppendAt
namespace Go.Proofs.Ytoelajocacpmgaa
set_option linter.unusedVariables false
set_option linter.unusedSimpArgs false
open Go.RowKit

theorem own_empty' (w : World) (e : TypeId) (size : Nat) : (w.alloc (.cells #[] e)).ownsRow w.heap.size e size (.slice (some ⟨w.heap.size, 0, none⟩) 0 0) 0 [] :=
  World.ownsRow_made w #[] 0 (Nat.le_refl _) (Nat.zero_le _) (by simp)
theorem own_empty2 (w : World) (e : TypeId) (size : Nat) : ((w.alloc (.cells #[] e)).alloc (.cells #[] e)).ownsRow w.heap.size e size (.slice (some ⟨w.heap.size + 1, 0, none⟩) 0 0) 0 [] := by
  have := World.ownsRow_made (base := w.heap.size) (e := e) (size := size) (w.alloc (.cells #[] e)) #[] 0 (by simp) (Nat.zero_le _) (by simp)
  rwa [World.size_alloc] at this
theorem own_ne {v v' u : Value} {H : Nat} (h : v'.ownBlock = v.ownBlock ∨ v'.ownBlock = some H) (hne : v.ownBlock ≠ u.ownBlock) (hlt : ∀ g, u.ownBlock = some g → g ≠ H) : v'.ownBlock ≠ u.ownBlock := by
  rcases h with e | e
  · rw [e]; exact hne
  · rw [e]; exact fun x => hlt H x.symm rfl
theorem own_ne' {v v' u : Value} {H : Nat} (h : v'.ownBlock = v.ownBlock ∨ v'.ownBlock = some H) (hne : u.ownBlock ≠ v.ownBlock) (hlt : ∀ g, u.ownBlock = some g → g ≠ H) : u.ownBlock ≠ v'.ownBlock :=
  (own_ne h (fun e => hne e.symm) hlt).symm

set_option maxRecDepth 100000 in
set_option maxHeartbeats 4000000 in
theorem walk_FnLevel (w0 : World) (A0 : Option Addr) (len0 cap0 : Nat) (bs0 : List Int) (i0 : IsList .u8 w0 A0 len0 cap0 bs0) :
    Calls Try.prog 9 #[.slice A0 len0 cap0] w0 fun e w' => e = .returned (.bool true) ∧ Below w0.heap.size w0 w' := by
  have hB0 := hide (IsList.byts i0)
  obtain ⟨rfl, hbc0, hbm0, -⟩ := i0
  unfold maxLen at hbm0
  by_cases big0 : (1048576 : Int) < (bs0.length : Int)
  · go_enter Try.func9, Try.ntmps9
    go_wp2
    go_ret
    exact ⟨rfl, Below.refl _ _⟩
  · skip
    have T := Below.refl w0.heap.size w0
    go_enter Try.func9, Try.ntmps9
    go_wp2_with fail
    (with_reducible refine (drawPayLevel_any A0 bs0 cap0 w0 hB0.out hbc0 hbm0).mono ?_)
    rintro e w1 ⟨D0, cD0, f, rfl, hcD0, hdD0, hbd, d0, hb1⟩
    have sz1 := hb1.size
    replace T := bt T hb1
    have hfl : f.length ≤ 17 := hbd.1
    have hn : f.length ≤ 1048576 := by omega
    have HBD := hide hbd
    clear hbd
    obtain ⟨i0, hi, hz0, hz1, hz2⟩ := info_parts infoInt
    by_cases hf : floorOk f = true
    · have HF := hide hf
      obtain ⟨⟨x1, x2⟩, y1, y2, y3⟩ := level_law hf
      have hl2 := floorOk_len hf
      have hd0 : decide (level f < 0) = false := by simp; omega
      have Y1 := hide y1
      have Y2 := hide (show (hangs f (alike f (level f) (f.length - 1))).length = 0 by rw [y2]; rfl)
      have Y3 := hide y3
      clear y1 y2 y3 hf
      go_wp2_with fail
      (with_reducible refine (payLevel_any _ f _ _ (d0.ints.mono (by omega)) hn).mono ?_)
      rintro e w2 ⟨rfl, hb2⟩
      have sz2 := hb2.size
      replace d0 := d0.below (hb2.mono (by omega))
      replace T := bt T hb2
      go_wp2_with fail
      (with_reducible refine (specPayLevel_any _ f _ _ (d0.ints.mono (by omega)) hn).mono ?_)
      rintro e w3 ⟨rfl, hb3⟩
      have sz3 := hb3.size
      replace d0 := d0.below (hb3.mono (by omega))
      replace T := bt T hb3
      go_wp2_with fail
      go_loopw [6, 7, 8] (fun o1 o2 i wr => ∃ k : Nat, k ≤ f.length - 1 ∧ i = .int .i64 ((k : Int) + 1) ∧ wr.ownsRow w3.heap.size 3 1 o1 k ((alike f (level f) k).map (Value.int .i64)) ∧ wr.ownsRow w3.heap.size 3 1 o2 k ((alike f (level f - 1) k).map (Value.int .i64)) ∧ Hid (o1.ownBlock ≠ o2.ownBlock) ∧ Hid (Below w3.heap.size w3 wr))
        (fun _ _ i _ => f.length + 1 - (intOf i).toNat)
      case atStart => exact ⟨0, Nat.zero_le _, by simp, (own_empty' w3 3 1).alloc _, own_empty2 w3 3 1, (by show some _ ≠ some _; intro e; injection e with e; simp at e), ((Below.refl _ _).alloc (Nat.le_refl _) _).alloc (by simp) _⟩
      case round =>
        obtain ⟨k, hk, rfl, hown1, hown2, hne, hbel⟩ := hrel
        have O1 := hide hown1
        have O2 := hide hown2
        clear hown1 hown2
        by_cases hlt : k < f.length - 1
        · have hlt' : (k : Int) + 1 < (f.length : Int) := by omega
          have hsz := hbel.out.size
          go_wp2_with (first
            | (at_builtin; refine wpList_append_own_at _ rfl _ _ 23 rfl w3.heap.size 3 i0 (.int .i64 0) 1 8 Try.underlying23 hi hz0 hz1 hz2 rfl (by decide) _ _ _ rfl (O1.out.alloc (.cells #[.int .i64 (level f)] 3)) ⟨wr.heap.size, 0, none⟩ 1 1 [.int .i64 (level f)] rfl rfl (cell_one_new _ _ _) (by simp [Value.oneCell']) (by unfold maxLen; omega) (by omega) (by simp; omega) ?_; intro v1 u1 p1 p2 _ p4; have q1 := hide p1; have q2 := hide ((O2.out.alloc (.cells #[.int .i64 (level f)] 3)).kept p2 (.inr (fun e => hne.out e.symm))); have qs := p2.size; rw [World.size_alloc] at qs; have q3 := hide (show v1.ownBlock ≠ _ from own_ne p4 hne.out (fun g e => by have := (O2.out.lt g e).2; simp; omega)); have q4 := hide ((hbel.out.alloc hsz (.cells #[.int .i64 (level f)] 3)).grown p2 (by simp; omega) (fun g e => (O1.out.lt g e).1)); clear p1 p2 p4)
            | (at_builtin; refine wpList_append_own_at _ rfl _ _ 23 rfl w3.heap.size 3 i0 (.int .i64 0) 1 8 Try.underlying23 hi hz0 hz1 hz2 rfl (by decide) _ _ _ rfl (q2.out.alloc (.cells #[.int .i64 (level f - 1)] 3)) ⟨u1.heap.size, 0, none⟩ 1 1 [.int .i64 (level f - 1)] rfl rfl (cell_one_new _ _ _) (by simp [Value.oneCell']) (by unfold maxLen; omega) (by omega) (by simp; omega) ?_; intro v2 u2 r1 r2 _ r4; have t1 := hide ((q1.out.alloc (.cells #[.int .i64 (level f - 1)] 3)).kept r2 (.inr q3.out)); have t3 := hide (own_ne' r4 q3.out (fun g e => by have := (q1.out.lt g e).2; simp; omega)); have t2 := hide r1; have t4 := hide ((q4.out.alloc q4.out.size (.cells #[.int .i64 (level f - 1)] 3)).grown r2 (by have := q4.out.size; simp; omega) (fun g e => (q2.out.lt g e).1)); clear r1 r2 r4))
          go_roundw
          case rel => exact ⟨k + 1, by omega, by go_num, by have := t1.out; rw [alike, upto_succ]; simpa using this, by have := t2.out; rw [alike, upto_succ]; simpa using this, t3.out, t4.out⟩
          case measure => simp [intOf]; omega
        · have hlt' : ¬ (k : Int) + 1 < (f.length : Int) := by omega
          obtain rfl : k = f.length - 1 := by omega
          obtain ⟨E, hE⟩ : ∃ E, E = alike f (level f) (f.length - 1) := ⟨_, rfl⟩
          obtain ⟨F, hF⟩ : ∃ F, F = alike f (level f - 1) (f.length - 1) := ⟨_, rfl⟩
          have hEl : f.length - 1 = E.length := by rw [hE, upto_length]
          have hFl : f.length - 1 = F.length := by rw [hF, upto_length]
          have O1' := O1.out
          have O2' := O2.out
          have Y1' := hide Y1.out
          rw [← hE] at O1'
          rw [← hF] at O2'
          have Z1 := hide (show payOk f E = true by rw [hE]; exact Y1.out)
          have Z2 := hide (show (hangs f E).length = 0 by rw [hE]; exact Y2.out)
          have Z3 : 0 < (hangs f F).length := by rw [hF]; exact Y3.out
          rw [hEl] at O1'
          rw [hFl] at O2'
          obtain ⟨AE, cE, rfl, hcE, -⟩ := own_form O1'
          obtain ⟨AF, cF, rfl, hcF, -⟩ := own_form O2'
          have e0 := Fresh.of_own (xs := E) O1'
          have f0 := Fresh.of_own (xs := F) O2'
          have hE16 : E.length ≤ 16 := by omega
          have hF16 : F.length ≤ 16 := by omega
          have Z4 : (0 : Int) < ((hangs f F).length : Int) := by omega
          clear O1' O2' hE hF hEl hFl O1 O2
          have hb4 := hbel.out
          have sz4 := hb4.size
          replace d0 := d0.below (hb4.mono (by omega))
          replace T := bt T hb4
          go_wp2_with fail
          (with_reducible refine (payValid_any _ _ f E _ _ _ (d0.ints.mono (by omega)) (e0.ints.mono (by omega)) hn (by omega)).mono ?_)
          rintro e w5 ⟨rfl, hb5⟩
          have sz5 := hb5.size
          replace d0 := d0.below (hb5.mono (by omega))
          replace e0 := e0.below (hb5.mono (by omega))
          replace f0 := f0.below (hb5.mono (by omega))
          replace T := bt T hb5
          rw [Z1.out]
          go_wp2_with fail
          (with_reducible refine (payHangs_any _ _ f E _ _ _ (d0.ints.mono (by omega)) (e0.ints.mono (by omega)) hn (by omega)).mono ?_)
          rintro e w6 ⟨Bk, ck, rfl, hck, hdk, k, hb6⟩
          have sz6 := hb6.size
          replace d0 := d0.below (hb6.mono (by omega))
          replace e0 := e0.below (hb6.mono (by omega))
          replace f0 := f0.below (hb6.mono (by omega))
          replace T := bt T hb6
          rw [Z2.out]
          go_wp2_with fail
          (with_reducible refine (payHangs_any _ _ f F _ _ _ (d0.ints.mono (by omega)) (f0.ints.mono (by omega)) hn (by omega)).mono ?_)
          rintro e w7 ⟨Bl, cl, rfl, hcl, hdl, l, hb7⟩
          have sz7 := hb7.size
          replace d0 := d0.below (hb7.mono (by omega))
          replace e0 := e0.below (hb7.mono (by omega))
          replace f0 := f0.below (hb7.mono (by omega))
          replace k := k.below (hb7.mono (by omega))
          replace T := bt T hb7
          go_wp2
          go_ret
          exact ⟨rfl, T⟩
    · have hf' : floorOk f = false := by simpa using hf
      have HF := hide hf'
      clear hf hf'
      have HN := hide (show level f = -1 by simp [level, HF.out])
      go_wp2_with fail
      (with_reducible refine (payLevel_any _ f _ _ (d0.ints.mono (by omega)) hn).mono ?_)
      rintro e w2 ⟨rfl, hb2⟩
      have sz2 := hb2.size
      replace d0 := d0.below (hb2.mono (by omega))
      replace T := bt T hb2
      go_wp2_with fail
      (with_reducible refine (specPayLevel_any _ f _ _ (d0.ints.mono (by omega)) hn).mono ?_)
      rintro e w3 ⟨rfl, hb3⟩
      have sz3 := hb3.size
      replace d0 := d0.below (hb3.mono (by omega))
      replace T := bt T hb3
      rw [HN.out]
      go_wp2
      go_ret
      exact ⟨rfl, T⟩
end Go.Proofs.Ytoelajocacpmgaa
