/-
  WALKS: the draws of a floor and a pay-out.
-/
import Derived.Test.YtoelajocacpmgaaDrawTwo
namespace Go.Proofs.Ytoelajocacpmgaa
set_option linter.unusedVariables false
set_option linter.unusedSimpArgs false
open Go.RowKit

theorem Fresh.carry {w w' : World} {lo hi R : Nat} {A : Option Addr} {xs : List Int} (h : Fresh w lo hi A xs) (hg : w.grownBy w' (some R)) (hh : hi ≤ w.heap.size) (hR : R < lo) : Fresh w' lo hi A xs := fun hp => by
  obtain ⟨g, off, e, g1, g2, hc⟩ := h hp
  have hbl : w'.heap[g]? = w.heap[g]? := hg.block g (by omega) (fun e => by injection e with e; omega)
  exact ⟨g, off, e, g1, g2, fun j hj => ⟨(World.cell?_of_block (a := ⟨g, off + j, none⟩) hbl).trans (hc j hj).1, (World.frozen?_of_block (a := ⟨g, off + j, none⟩) hbl).trans (hc j hj).2⟩⟩
theorem Fresh.drop1 {w : World} {lo hi b off : Nat} {ys : List Int} (h : Fresh w lo hi (some ⟨b, off, none⟩) ys) (hy : 0 < ys.length) : Fresh w lo hi (some ⟨b, off + 1, none⟩) (ys.drop 1) := fun hp => by
  obtain ⟨b', off', e, h1, h2, hc⟩ := h hy
  cases e
  refine ⟨b, off + 1, rfl, h1, h2, fun j hj => ?_⟩
  have := hc (1 + j) (by simp at hj; omega)
  rw [Nat.add_assoc]
  rwa [show at0 (ys.drop 1) j = at0 ys (1 + j) by simp [at0, Nat.add_comm]]

/-- Two new lists of bounded numbers come back. -/
def DrawPair (w : World) (R m m' : Nat) (hi hi' : Int) (e : Ending) (w' : World) : Prop :=
  ∃ A c xs A' c' ys, e = .returned (.tuple #[.slice A xs.length c, .slice A' ys.length c']) ∧ (xs.length ≤ c ∧ c ≤ 9223372036854775807) ∧ (ys.length ≤ c' ∧ c' ≤ 9223372036854775807) ∧ Bded m hi xs ∧ Bded m' hi' ys ∧
    Fresh w' w.heap.size w'.heap.size A xs ∧ Fresh w' w.heap.size w'.heap.size A' ys ∧ w.grownBy w' (some R)

theorem pair_ret {w w1 w' : World} {R m m' c c' : Nat} {A A' : Option Addr} {hi hi' : Int} {xs ys : List Int} (hR : R < w.heap.size) (h1 : xs.length ≤ c ∧ c ≤ 9223372036854775807) (h2 : Bded m hi xs) (h3 : Fresh w1 w.heap.size w1.heap.size A xs) (g1 : w.grownBy w1 (some R)) (g2 : w1.grownBy w' (some R))
    (k1 : ys.length ≤ c' ∧ c' ≤ 9223372036854775807) (k2 : Bded m' hi' ys) (k3 : Fresh w' w1.heap.size w'.heap.size A' ys) {v1 v2 : Value} (e1 : v1 = .slice A xs.length c) (e2 : v2 = .slice A' ys.length c') : DrawPair w R m m' hi hi' (.returned (.tuple #[v1, v2])) w' :=
  ⟨A, c, xs, A', c', ys, by rw [e1, e2], h1, k1, h2, k2, (h3.carry g2 (Nat.le_refl _) hR).mono (Nat.le_refl _) g2.size, k3.mono g1.size (Nat.le_refl _), grown_two g1 g2⟩

set_option maxRecDepth 100000 in
set_option maxHeartbeats 4000000 in
theorem l91Pay_any (R : Nat) (A : Option Addr) (bs : List Int) (cap : Nat) (p : Int) (w : World) (hR : Rd w R A bs.length cap p) (hB : Byts w R A bs) (hp0 : 0 ≤ p) (hp : p ≤ 800000) (hl : bs.length ≤ 2000) :
    Calls Try.prog 59 #[.pointer (some ⟨R, 0, none⟩)] w (DrawPair w R 17 16 41 61) := by
  obtain ⟨i0, hi, hz0, hz1, hz2⟩ := info_parts infoInt
  have hRw := hR.lt
  have HR := hide hR
  have HB := hide (fun (W : World) (hg : w.grownBy W (some R)) => hB.grown hg hRw)
  have HB0 := hide hB
  clear hR hB
  go_enter Try.func59, Try.ntmps59
  go_wp2_with fail
  (with_reducible refine (l91Floor_any R A bs cap p 7 _ HR.out HB0.out hp0 (by omega) hl (by omega) (by omega)).mono ?_)
  rintro e w1 ⟨D, f, cf, q, rfl, h1, h2, h3, h4, hR1, hq0, hq1, hg1⟩
  have HR1 := hide hR1
  have H3 := hide h3
  have H4 := hide h4
  have G1 := hide hg1
  have hxl := h3.1
  have hRw1 : R < w1.heap.size := by have := hg1.size; omega
  clear hR1 h3 h4 hg1
  go_wp2_with fail
  go_loopw [5, 6] (fun o i wr => ∃ (k : Nat) (qq : Int) (xs : List Int), k ≤ f.length - 1 ∧ i = .int .i64 ((k : Int) + 1) ∧ Hid (xs.length = k ∧ ∀ j, j < k → 0 ≤ at0 xs j ∧ at0 xs j ≤ 60) ∧ wr.ownsRow w1.heap.size 3 1 o k (xs.map (Value.int .i64)) ∧
      Hid (Rd wr R A bs.length cap qq) ∧ p ≤ qq ∧ qq ≤ q + (k : Int) ∧ Hid (w1.grownBy wr (some R)))
    (fun _ i _ => (f.length + 1 - (intOf i).toNat))
  case atStart => exact ⟨0, q, [], Nat.zero_le _, by simp, ⟨rfl, fun j hj => absurd hj (by omega)⟩, World.ownsRow_made w1 #[] 0 (Nat.le_refl _) (Nat.zero_le _) rfl, HR1.out.alloc _, by omega, by omega, grown_alloc _ _ _⟩
  case round =>
    obtain ⟨k, qq, xs, hk, rfl, hxs, hown, hRd, hqq0, hqq1, hgr⟩ := hrel
    have HO := hide hown
    have GW := hide (grown_two G1.out hgr.out)
    clear hown
    by_cases hlt : k < f.length - 1
    · have hlt' : (k : Int) + 1 < (f.length : Int) := by omega
      have hbase : w1.heap.size ≤ wr.heap.size := hgr.out.size
      go_wp2_with fail
      (with_reducible refine (pick_any R A bs cap qq 16 _ hRd.out (HB.out _ GW.out) (by omega) (by omega) hl (by omega) (by omega)).mono ?_)
      rintro e w3 ⟨x, hx0', hx1', rfl, hR3, hg3⟩
      have HR3 := hide hR3
      have G3 := hide (grown_two hgr.out hg3)
      have O3 := hide (ownsRow_put _ _ HO.out hg3 hRw1)
      have hbase3 : w1.heap.size ≤ w3.heap.size := G3.out.size
      clear hR3 hg3
      go_wp2_with (at_builtin; refine wpList_append_own _ rfl _ _ 23 rfl w1.heap.size 3 i0 (.int .i64 0) 1 8 Try.underlying23 hi hz0 hz1 hz2 rfl (by decide) _ _ _ rfl (O3.out.alloc (.cells #[.int .i64 (6 + x)] 3)) ⟨w3.heap.size, 0, none⟩ 1 1 [.int .i64 (6 + x)] rfl rfl (cell_one_new _ _ _) (by simp [Value.oneCell']) (by unfold maxLen; omega) (by omega) (by simp; omega) ?_; intro v' w4 hown' hgrow _)
      have G4 := hide (grown_step (grown_step G3.out (grown_alloc w3 (.cells #[.int .i64 (6 + x)] 3) none) (fun g e => by cases e)) hgrow (fun g e => .inr (O3.out.lt g e).1))
      have HR4 := hide ((HR3.out.alloc (.cells #[.int .i64 (6 + x)] 3)).kept hgrow (fun e => by have := (O3.out.lt R e.symm).1; omega))
      have hxs' : Hid ((xs ++ [6 + x]).length = k + 1 ∧ ∀ j, j < k + 1 → 0 ≤ at0 (xs ++ [6 + x]) j ∧ at0 (xs ++ [6 + x]) j ≤ 60) := by
        obtain ⟨e1, e2⟩ := hxs.out
        refine ⟨by simp [e1], fun j hj => ?_⟩
        rw [at0_snoc (by omega)]
        split
        · omega
        · exact e2 j (by omega)
      have hmap : Hid (w4.ownsRow w1.heap.size 3 1 v' (k + 1) ((xs ++ [6 + x]).map (Value.int .i64))) := by
        refine hide ?_
        simpa [List.map_append] using hown'
      clear hown' hgrow
      go_roundw
      case rel => exact ⟨k + 1, qq + 1, xs ++ [6 + x], by omega, by go_num, hxs', hmap.out, HR4.out, by omega, by omega, G4.out⟩
      case measure => simp [intOf]; omega
    · have hlt' : ¬ (k : Int) + 1 < (f.length : Int) := by omega
      have hb : Hid (Bded 16 61 xs) := by
        obtain ⟨e1, e2⟩ := hxs.out
        exact ⟨by omega, fun j hj => by have := e2 j (by omega); omega⟩
      have HE := hide hxs.out.1
      obtain ⟨A2, c, rfl, hc1, hc2⟩ := own_form HO.out
      unfold maxLen at hc2
      clear hxs
      by_cases hk0 : k = 0
      · have hk0' : ¬ (0 : Int) < (k : Int) := by omega
        have hk0'' : ¬ 0 < k := by omega
        have hfr := Fresh.of_own (xs := xs) HO.out
        have HK0 := hide hk0
        clear hk0
        go_wp2
        go_ret2
        exact pair_ret hRw ⟨h1, h2⟩ H3.out H4.out G1.out hgr.out (ys := xs) (c' := c) ⟨by rw [HE.out]; exact hc1, by omega⟩ hb.out hfr rfl (by rw [HE.out]; try rfl)
      · have hk0' : (0 : Int) < (k : Int) := by omega
        have hk0'' : 0 < k := by omega
        go_wp2_with fail
        (with_reducible refine (pick_any R A bs cap qq 24 _ hRd.out (HB.out _ GW.out) (by omega) (by omega) hl (by omega) (by omega)).mono ?_)
        rintro e w4 ⟨x, hx0', hx1', rfl, hR4, hg4⟩
        have HR4 := hide hR4
        have G4 := hide (grown_two hgr.out hg4)
        have GW4 := hide (grown_two GW.out hg4)
        have O4 := hide (ownsRow_put _ _ HO.out hg4 hRw1)
        obtain ⟨g, c', hv, hgl, hgw⟩ := O4.out.form (by omega)
        have hA2 : A2 = some ⟨g, 0, none⟩ := by injection hv
        subst hA2
        clear hR4 hg4 hv
        by_cases c0 : x = 0
        · subst c0
          have HRa := hide (HR4.out.alloc (.cells #[.int .i64 (-1), .int .i64 61, .int .i64 60, .int .i64 0] 3))
          have Ga := hide (grown_step G4.out (grown_alloc w4 (.cells #[.int .i64 (-1), .int .i64 61, .int .i64 60, .int .i64 0] 3) none) (fun g e => by cases e))
          have GWa := hide (grown_step GW4.out (grown_alloc w4 (.cells #[.int .i64 (-1), .int .i64 61, .int .i64 60, .int .i64 0] 3) none) (fun g e => by cases e))
          have Oa := hide (O4.out.alloc (.cells #[.int .i64 (-1), .int .i64 61, .int .i64 60, .int .i64 0] 3))
          go_wp2_with fail
          (with_reducible refine (pick_any R A bs cap (qq + 1) 4 _ HRa.out (HB.out _ GWa.out) (by omega) (by omega) hl (by omega) (by omega)).mono ?_)
          rintro e w5 ⟨y, hy0, hy1, rfl, hR5, hg5⟩
          have G5 := hide (grown_two Ga.out hg5)
          have O6 := hide (ownsRow_put _ _ Oa.out hg5 hRw1)
          have hb5 : w5.heap[w4.heap.size]? = some (.cells #[.int .i64 (-1), .int .i64 61, .int .i64 60, .int .i64 0] 3 (0, 0)) := (hg5.block w4.heap.size (by simp) (fun e => by injection e with e; have := G4.out.size; omega)).trans (heap_alloc_new w4 _)
          have c50 : w5.cell? ⟨w4.heap.size, 0, none⟩ = some (.int .i64 (-1)) := cell_of_row w5 _ 0 _ _ _ hb5
          have c51 : w5.cell? ⟨w4.heap.size, 1, none⟩ = some (.int .i64 61) := cell_of_row w5 _ 1 _ _ _ hb5
          have c52 : w5.cell? ⟨w4.heap.size, 2, none⟩ = some (.int .i64 60) := cell_of_row w5 _ 2 _ _ _ hb5
          have c53 : w5.cell? ⟨w4.heap.size, 3, none⟩ = some (.int .i64 0) := cell_of_row w5 _ 3 _ _ _ hb5
          have hc0 := O6.out.cellAt 0 (by omega)
          have hf0 := O6.out.frozenAt 0
          have e0 : (xs.map (Value.int .i64))[0]? = some (.int .i64 (at0 xs 0)) := by simp [at0, show 0 < xs.length by have := HE.out; omega]
          rw [e0] at hc0
          clear hR5 hg5 hb5 e0
          have key : ∀ v : Int, -1 ≤ v → v ≤ 61 → DrawPair w R 17 16 41 61 (.returned (.tuple #[.slice D f.length cf, .slice (some ⟨g, 0, none⟩) k c])) (w5.setCell ⟨g, 0, none⟩ (.int .i64 v)) := by
            intro v hv0 hv1
            obtain ⟨s1, s2⟩ := O6.out.stored 0 (.int .i64 v)
            rw [← List.map_set] at s1
            have hfr := Fresh.of_own (xs := xs.set 0 v) s1
            exact pair_ret hRw ⟨h1, h2⟩ H3.out H4.out G1.out (grown_step G5.out s2 (fun g' e => by injection e with e; exact .inr (by omega))) (ys := xs.set 0 v) (c' := c) ⟨by rw [List.length_set, HE.out]; exact hc1, by omega⟩ (hb.out.set 0 hv0 hv1) hfr rfl (by rw [List.length_set, HE.out]; try rfl)
          have KEY := hide key
          clear key
          have hy : y = 0 ∨ y = 1 ∨ y = 2 ∨ y = 3 := by omega
          clear hy0 hy1
          rcases hy with rfl | rfl | rfl | rfl
          · go_wp2
            go_ret2
            exact KEY.out (-1) (by omega) (by omega)
          · go_wp2
            go_ret2
            exact KEY.out 61 (by omega) (by omega)
          · go_wp2
            go_ret2
            exact KEY.out 60 (by omega) (by omega)
          · go_wp2
            go_ret2
            exact KEY.out 0 (by omega) (by omega)
        · have hfr := Fresh.of_own (xs := xs) O4.out
          by_cases c1 : x = 1
          · subst c1
            have hk1 : (1 : Int) ≤ (k : Int) := by omega
            have hk2 : (1 : Int) ≤ (c : Int) := by omega
            have hk3 : (k : Int) ≤ (c : Int) := by omega
            have HD := hide (show (xs.drop 1).length = k - 1 by have := HE.out; simp; omega)
            by_cases hcc : c = 1
            · subst hcc
              have hkk : k = 1 := by omega
              subst hkk
              go_wp2
              go_ret2
              exact pair_ret hRw ⟨h1, h2⟩ H3.out H4.out G1.out G4.out (ys := xs.drop 1) (c' := 0) (A' := some ⟨g, 0, none⟩) ⟨by rw [HD.out]; omega, by omega⟩ (hb.out.drop 1) (fun hp => absurd hp (by rw [HD.out]; omega)) rfl (by rw [HD.out]; try rfl)
            · go_wp2
              go_ret2
              exact pair_ret hRw ⟨h1, h2⟩ H3.out H4.out G1.out G4.out (ys := xs.drop 1) (c' := c - 1) (A' := some ⟨g, 1, none⟩) ⟨by rw [HD.out]; omega, by omega⟩ (hb.out.drop 1) (by have := hfr.drop1 (by have := HE.out; omega); rwa [Nat.zero_add] at this) rfl (by rw [HD.out]; try rfl)
          · have d0 : (x == 0) = false := beq_eq_false_iff_ne.2 c0
            have d1 : (x == 1) = false := beq_eq_false_iff_ne.2 c1
            clear c0 c1
            go_wp2
            go_ret2
            exact pair_ret hRw ⟨h1, h2⟩ H3.out H4.out G1.out G4.out (ys := xs) (c' := c) ⟨by rw [HE.out]; exact hc1, by omega⟩ hb.out hfr rfl (by rw [HE.out]; try rfl)

/-- .. with a reader of its own. -/
def DrawPairs (w : World) (m m' : Nat) (hi hi' : Int) (e : Ending) (w' : World) : Prop :=
  ∃ A c xs A' c' ys, e = .returned (.tuple #[.slice A xs.length c, .slice A' ys.length c']) ∧ (xs.length ≤ c ∧ c ≤ 9223372036854775807) ∧ (ys.length ≤ c' ∧ c' ≤ 9223372036854775807) ∧ Bded m hi xs ∧ Bded m' hi' ys ∧
    Fresh w' w.heap.size w'.heap.size A xs ∧ Fresh w' w.heap.size w'.heap.size A' ys ∧ Below w.heap.size w w'

set_option maxHeartbeats 800000 in
theorem drawPayValid_any (A : Option Addr) (bs : List Int) (cap : Nat) (w : World) (hB : Byts w w.heap.size A bs) (hc : bs.length ≤ cap) (hn : cap ≤ 9223372036854775807) :
    Calls Try.prog 48 #[.slice A bs.length cap] w (DrawPairs w 17 16 41 61) := by
  obtain ⟨b2, hb2⟩ : ∃ b2, b2 = bs.take 2000 := ⟨_, rfl⟩
  have hl2 : b2.length ≤ 2000 := by rw [hb2]; simp; omega
  have hB2 : Byts w w.heap.size A b2 := by rw [hb2]; exact hB.take 2000
  have HO := fun W => l6Open_any A bs cap W hc hn
  rw [← hb2] at HO
  have hO := hide HO
  have HB2 := hide (hB2.below ((Below.refl _ w).alloc (Nat.le_refl _) (.cells #[.slice A b2.length cap, .int .i64 0] 62)))
  clear HO hb2 hB hB2
  go_enter Try.func48, Try.ntmps48
  go_wp2_with fail
  refine (hO.out _).mono ?_
  rintro e w' ⟨rfl, rfl⟩
  go_wp2_with fail
  (with_reducible refine (l91Pay_any w.heap.size A b2 cap 0 _ rd_new HB2.out (by omega) (by omega) hl2).mono ?_)
  rintro e w1 ⟨A', c, xs, A2, c2, ys, rfl, h1, h2, h3, h4, h5, h6, hg⟩
  go_wp2
  go_ret2
  exact ⟨A', c, xs, A2, c2, ys, rfl, h1, h2, h3, h4, h5.mono (by simp) (Nat.le_refl _), h6.mono (by simp) (Nat.le_refl _), below_rd hg⟩

set_option maxHeartbeats 800000 in
theorem drawPayHangs_any (A : Option Addr) (bs : List Int) (cap : Nat) (w : World) (hB : Byts w w.heap.size A bs) (hc : bs.length ≤ cap) (hn : cap ≤ 9223372036854775807) :
    Calls Try.prog 57 #[.slice A bs.length cap] w (DrawPairs w 17 16 41 61) := by
  obtain ⟨b2, hb2⟩ : ∃ b2, b2 = bs.take 2000 := ⟨_, rfl⟩
  have hl2 : b2.length ≤ 2000 := by rw [hb2]; simp; omega
  have hB2 : Byts w w.heap.size A b2 := by rw [hb2]; exact hB.take 2000
  have HO := fun W => l6Open_any A bs cap W hc hn
  rw [← hb2] at HO
  have hO := hide HO
  have HB2 := hide (hB2.below ((Below.refl _ w).alloc (Nat.le_refl _) (.cells #[.slice A b2.length cap, .int .i64 0] 62)))
  clear HO hb2 hB hB2
  go_enter Try.func57, Try.ntmps57
  go_wp2_with fail
  refine (hO.out _).mono ?_
  rintro e w' ⟨rfl, rfl⟩
  go_wp2_with fail
  (with_reducible refine (l91Pay_any w.heap.size A b2 cap 0 _ rd_new HB2.out (by omega) (by omega) hl2).mono ?_)
  rintro e w1 ⟨A', c, xs, A2, c2, ys, rfl, h1, h2, h3, h4, h5, h6, hg⟩
  go_wp2
  go_ret2
  exact ⟨A', c, xs, A2, c2, ys, rfl, h1, h2, h3, h4, h5.mono (by simp) (Nat.le_refl _), h6.mono (by simp) (Nat.le_refl _), below_rd hg⟩

set_option maxHeartbeats 800000 in
theorem drawPaySlack_any (A : Option Addr) (bs : List Int) (cap : Nat) (w : World) (hB : Byts w w.heap.size A bs) (hc : bs.length ≤ cap) (hn : cap ≤ 9223372036854775807) :
    Calls Try.prog 16 #[.slice A bs.length cap] w (DrawPairs w 17 16 41 61) := by
  obtain ⟨b2, hb2⟩ : ∃ b2, b2 = bs.take 2000 := ⟨_, rfl⟩
  have hl2 : b2.length ≤ 2000 := by rw [hb2]; simp; omega
  have hB2 : Byts w w.heap.size A b2 := by rw [hb2]; exact hB.take 2000
  have HO := fun W => l6Open_any A bs cap W hc hn
  rw [← hb2] at HO
  have hO := hide HO
  have HB2 := hide (hB2.below ((Below.refl _ w).alloc (Nat.le_refl _) (.cells #[.slice A b2.length cap, .int .i64 0] 62)))
  clear HO hb2 hB hB2
  go_enter Try.func16, Try.ntmps16
  go_wp2_with fail
  refine (hO.out _).mono ?_
  rintro e w' ⟨rfl, rfl⟩
  go_wp2_with fail
  (with_reducible refine (l91Pay_any w.heap.size A b2 cap 0 _ rd_new HB2.out (by omega) (by omega) hl2).mono ?_)
  rintro e w1 ⟨A', c, xs, A2, c2, ys, rfl, h1, h2, h3, h4, h5, h6, hg⟩
  go_wp2
  go_ret2
  exact ⟨A', c, xs, A2, c2, ys, rfl, h1, h2, h3, h4, h5.mono (by simp) (Nat.le_refl _), h6.mono (by simp) (Nat.le_refl _), below_rd hg⟩
end Go.Proofs.Ytoelajocacpmgaa
