/-
  WALK: the draw of a cable: some list of at most eleven sections.
-/
import Derived.Test.YtglknakgfnoeaaaDoorDrawG
import Derived.Test.YtglknakgfnoeaaaDoorPlain
import Derived.Test.YtglknakgfnoeaaaDoorSecApp
namespace Go.Proofs.YtglknakgfnoeaaaDoor
set_option linter.unusedVariables false
set_option linter.unusedSimpArgs false
open Go.RowKit
attribute [local go_sem] Oper.semAt_some

theorem map_at0 {fl : List Int} {j : Nat} (h : j < fl.length) : (fl.map (Value.int .i64))[j]? = some (Value.int .i64 (at0 fl j)) := by simp [at0, h]
theorem append_sec_g (w : World) (base : Nat) (v : Value) (n : Nat) (fl : List Int) (a b c : Int) (hown : w.ownsRow base 36 3 v n (fl.map (Value.int .i64))) (hb : base ≤ w.heap.size) (hn : n ≤ 1048576) :
    ∃ v' w', (Builtin.append_ #[23, 23] 23 #[v, .slice (some ⟨w.heap.size, 0, none⟩) 1 1]).run Tryd.prog (w.alloc (.cells #[.int .i64 a, .int .i64 b, .int .i64 c] 36)) = .ok v' w' ∧
      w'.ownsRow base 36 3 v' (n + 1) ((fl ++ [a, b, c]).map (Value.int .i64)) ∧ (w.alloc (.cells #[.int .i64 a, .int .i64 b, .int .i64 c] 36)).grownBy w' v.ownBlock := by
  obtain ⟨i0, hi, hz0, hz1, hz2⟩ := info_parts infoSec
  have ho := hown.alloc (.cells #[.int .i64 a, .int .i64 b, .int .i64 c] 36)
  obtain ⟨v1, u1, r1, p1, q1⟩ := run_append_flat (P := Tryd.prog) (w.alloc (.cells #[.int .i64 a, .int .i64 b, .int .i64 c] 36)) base 23 23 36 i0 _ 3 24 Tryd.underlying23 hi hz0 hz1 hz2 rfl (by decide) v n _ ho (w.heap.size + 1) (some ⟨w.heap.size, 0, none⟩) 1 1 [a, b, c] rfl (ints_three w a b c _) (by unfold maxLen; omega) (by omega) (by simp; omega)
  exact ⟨v1, u1, r1, by rw [List.map_append]; exact p1, q1⟩

/-- A new list of sections comes back; the reader's place has gone on; nothing else has turned. -/
def DrawSecs (w : World) (R : Nat) (A : Option Addr) (n cap : Nat) (p : Int) (e : Ending) (w' : World) : Prop :=
  ∃ A' fl k c p', e = .returned (.slice A' k c) ∧ fl.length = k * 3 ∧ k ≤ c ∧ c ≤ 9223372036854775807 ∧ k ≤ 11 ∧ Fresh w' w.heap.size w'.heap.size A' fl ∧ Rd w' R A n cap p' ∧ p ≤ p' ∧ p' ≤ p + 60 ∧ w.grownBy w' (some R)
theorem secs_put {w w5 : World} {R g k c n cap : Nat} {A : Option Addr} {p q : Int} {fl : List Int} {j : Nat} (O : w5.ownsRow w.heap.size 36 3 (.slice (some ⟨g, 0, none⟩) k c) k (fl.map (Value.int .i64))) (hR : Rd w5 R A n cap q) (hG : w.grownBy w5 (some R)) (hRw : R < w.heap.size)
    (hE : fl.length = k * 3) (hcap : k ≤ c ∧ c ≤ 9223372036854775807) (hk : k ≤ 11) (h0 : p ≤ q) (h1 : q ≤ p + 60) (v : Int) :
    DrawSecs w R A n cap p (.returned (.slice (some ⟨g, 0, none⟩) k c)) (w5.setCell ⟨g, j, none⟩ (.int .i64 v)) := by
  obtain ⟨s1, s2⟩ := O.stored j (.int .i64 v)
  have hgl : w.heap.size ≤ g := (O.lt g rfl).1
  rw [← List.map_set] at s1
  have hfr := Fresh.of_ownS (fl := fl.set j v) s1
  exact ⟨_, fl.set j v, k, c, q, rfl, by rw [List.length_set, hE], hcap.1, hcap.2, hk, hfr, hR.kept s2 (fun e => by injection e with e; omega), h0, h1, grown_step hG s2 (fun g' e => by injection e with e; exact .inr (by omega))⟩

set_option maxRecDepth 100000 in
set_option maxHeartbeats 4000000 in
theorem l91Cable_any (R : Nat) (A : Option Addr) (bs : List Int) (cap : Nat) (p m : Int) (w : World) (hR : Rd w R A bs.length cap p) (hB : Byts w R A bs) (hp0 : 0 ≤ p) (hp : p ≤ 900000) (hl : bs.length ≤ 2000) (hm : 1 ≤ m) (hm2 : m ≤ 10) :
    Calls Tryd.prog 8 #[.pointer (some ⟨R, 0, none⟩), .int .i64 m] w (DrawSecs w R A bs.length cap p) := by
  have hRw := hR.lt
  have HR0 := hide (hR.alloc (.cells #[] 36))
  have HB := hide (fun (W : World) (hg : w.grownBy W (some R)) => hB.grown hg hRw)
  have G0 := hide (grown_alloc w (.cells #[] 36) (some R))
  clear hR hB
  go_enter Tryd.func8, Tryd.ntmps8
  go_wp2_with fail
  (with_reducible refine (pick_any R A bs cap p m _ HR0.out (HB.out _ G0.out) hp0 (by omega) hl (by omega) (by omega)).mono ?_)
  rintro e w1 ⟨x0, hx0, hx1, rfl, hR1, hg1⟩
  obtain ⟨x0, rfl⟩ := Int.eq_ofNat_of_zero_le hx0
  have HR1 := hide hR1
  have G1 := hide (grown_step G0.out hg1 (fun g e => by injection e with e; exact .inl e.symm))
  have O1 := hide (ownsRow_put _ _ (own_empty w 36 3) hg1 hRw)
  clear hR1 hg1
  go_wp2_with fail
  go_loopw [5, 7] (fun o i wr => ∃ (k : Nat) (q : Int) (fl : List Int), k ≤ 1 + x0 ∧ i = .int .i64 (k : Int) ∧ Hid (fl.length = k * 3) ∧ wr.ownsRow w.heap.size 36 3 o k (fl.map (Value.int .i64)) ∧
      Hid (Rd wr R A bs.length cap q) ∧ p ≤ q ∧ q ≤ p + 1 + 3 * (k : Int) ∧ Hid (w.grownBy wr (some R)))
    (fun _ i _ => 1 + x0 - (intOf i).toNat)
  case atStart => exact ⟨0, p + 1, [], Nat.zero_le _, rfl, rfl, O1.out, HR1.out, by omega, by omega, G1.out⟩
  case round =>
    obtain ⟨k, q, fl, hk, rfl, HE, hown, hRd, hq0, hq1, hgr⟩ := hrel
    have HO := hide hown
    clear hown
    by_cases hlt : k < 1 + x0
    · have hlt' : (k : Int) < 1 + (x0 : Int) := by omega
      have hbase : w.heap.size ≤ wr.heap.size := hgr.out.size
      go_wp2_with fail
      (with_reducible refine (pick_any R A bs cap q 9 _ hRd.out (HB.out _ hgr.out) (by omega) (by omega) hl (by omega) (by omega)).mono ?_)
      rintro e wa ⟨xa, ha0, ha1, rfl, hRa, hga⟩
      have HRa := hide hRa
      have Ga := hide (grown_step hgr.out hga (fun g e => by injection e with e; exact .inl e.symm))
      have Oa := hide (ownsRow_put _ _ HO.out hga hRw)
      clear hRa hga
      go_wp2_with fail
      (with_reducible refine (pick_any R A bs cap (q + 1) 3 _ HRa.out (HB.out _ Ga.out) (by omega) (by omega) hl (by omega) (by omega)).mono ?_)
      rintro e wb ⟨xb, hb0, hb1, rfl, hRb, hgb⟩
      have HRb := hide hRb
      have Gb := hide (grown_step Ga.out hgb (fun g e => by injection e with e; exact .inl e.symm))
      have Ob := hide (ownsRow_put _ _ Oa.out hgb hRw)
      clear hRb hgb
      go_wp2_with fail
      (with_reducible refine (pick_any R A bs cap (q + 1 + 1) 4 _ HRb.out (HB.out _ Gb.out) (by omega) (by omega) hl (by omega) (by omega)).mono ?_)
      rintro e wc ⟨xc, hc0, hc1, rfl, hRc, hgc⟩
      have HRc := hide hRc
      have Gc := hide (grown_step Gb.out hgc (fun g e => by injection e with e; exact .inl e.symm))
      have Oc := hide (ownsRow_put _ _ Ob.out hgc hRw)
      clear hRc hgc
      obtain ⟨v', wd, hr, ho', hg'⟩ := append_sec_g wc w.heap.size _ k fl (1 + xa) xb (1 + xc) Oc.out Gc.out.size (by omega)
      have HR := hide hr
      have Gd := hide (grown_step (grown_step Gc.out (grown_alloc wc (.cells #[.int .i64 (1 + xa), .int .i64 xb, .int .i64 (1 + xc)] 36) none) (fun g e => by cases e)) hg' (fun g e => .inr (Oc.out.lt g e).1))
      have HRd := hide ((HRc.out.alloc (.cells #[.int .i64 (1 + xa), .int .i64 xb, .int .i64 (1 + xc)] 36)).kept hg' (fun e => by have := (Oc.out.lt R e.symm).1; omega))
      have Od := hide ho'
      have HE' := hide (show (fl ++ [1 + xa, xb, 1 + xc]).length = (k + 1) * 3 by rw [List.length_append, HE.out]; simp; omega)
      clear hr ho' hg'
      go_wp2_with (at_builtin; refine Lib.wpList_append_run _ rfl _ _ _ _ rfl _ _ rfl rfl _ _ HR.out ?_)
      go_roundw
      case rel => exact ⟨k + 1, q + 1 + 1 + 1, fl ++ [1 + xa, xb, 1 + xc], by omega, by go_num, HE'.out, Od.out, HRd.out, by omega, by omega, Gd.out⟩
      case measure => simp [intOf]; omega
    · have hlt' : ¬ (k : Int) < 1 + (x0 : Int) := by omega
      have hkk : k = 1 + x0 := by omega
      have hk11 : k ≤ 11 := by omega
      have hk1 : 1 ≤ k := by omega
      clear hkk
      go_wp2_with fail
      (with_reducible refine (pick_any R A bs cap q 40 _ hRd.out (HB.out _ hgr.out) (by omega) (by omega) hl (by omega) (by omega)).mono ?_)
      rintro e w4 ⟨x, hx0', hx1', rfl, hR4, hg4⟩
      have HR4 := hide hR4
      have G4 := hide (grown_step hgr.out hg4 (fun g e => by injection e with e; exact .inl e.symm))
      have O4 := ownsRow_put _ _ HO.out hg4 hRw
      obtain ⟨g, c, rfl, hgl, hgw⟩ := O4.form (by omega)
      have O5 := hide O4
      have hcap : k ≤ c ∧ c ≤ 9223372036854775807 := by
        obtain ⟨A2, c2, e, k1, k2⟩ := own_formS O4
        cases e
        unfold maxLen at k2
        exact ⟨k1, by omega⟩
      clear hR4 hg4 O4
      by_cases n0 : x = 0
      · subst n0
        have HRa := hide (HR4.out.alloc (.cells #[.int .i64 0, .int .i64 51, .int .i64 50] 3))
        have Ga := hide (grown_step G4.out (grown_alloc w4 (.cells #[.int .i64 0, .int .i64 51, .int .i64 50] 3) none) (fun g e => by cases e))
        have Oa := hide (O5.out.alloc (.cells #[.int .i64 0, .int .i64 51, .int .i64 50] 3))
        go_wp2_with fail
        (with_reducible refine (pick_any R A bs cap (q + 1) 3 _ HRa.out (HB.out _ Ga.out) (by omega) (by omega) hl (by omega) (by omega)).mono ?_)
        rintro e w5 ⟨y, hy0, hy1, rfl, hR5, hg5⟩
        have G5 := hide (grown_step Ga.out hg5 (fun g e => by injection e with e; exact .inl e.symm))
        have O6 := hide (ownsRow_put _ _ Oa.out hg5 hRw)
        have hb5 : w5.heap[w4.heap.size]? = some (.cells #[.int .i64 0, .int .i64 51, .int .i64 50] 3 (0, 0)) := (hg5.block w4.heap.size (by simp) (fun e => by injection e with e; have := G4.out.size; omega)).trans (heap_alloc_new w4 _)
        have c50 : w5.cell? ⟨w4.heap.size, 0, none⟩ = some (.int .i64 0) := cell_of_row w5 _ 0 _ _ _ hb5
        have c51 : w5.cell? ⟨w4.heap.size, 1, none⟩ = some (.int .i64 51) := cell_of_row w5 _ 1 _ _ _ hb5
        have c52 : w5.cell? ⟨w4.heap.size, 2, none⟩ = some (.int .i64 50) := cell_of_row w5 _ 2 _ _ _ hb5
        have hcj := O6.out.cellAt 0 (by omega)
        have hfj := O6.out.frozenAt 0
        rw [map_at0 (show 0 < fl.length by have := HE.out; omega)] at hcj
        have HR5 := hide hR5
        have hk0 : (0 : Int) < (k : Int) := by omega
        have hk0' : 0 < k := by omega
        clear hR5 hg5 hb5
        have KEY := hide (fun (v : Int) => secs_put (j := 0) O6.out HR5.out G5.out hRw HE.out hcap hk11 (show p ≤ q + 1 + 1 by omega) (show q + 1 + 1 ≤ p + 60 by omega) v)
        have hy : y = 0 ∨ y = 1 ∨ y = 2 := by omega
        clear hy0 hy1
        rcases hy with rfl | rfl | rfl
        · go_wp2
          go_ret
          exact KEY.out 0
        · go_wp2
          go_ret
          exact KEY.out 51
        · go_wp2
          go_ret
          exact KEY.out 50
      · by_cases n1 : x = 1
        · subst n1
          clear n0
          have HRa := hide (HR4.out.alloc (.cells #[.int .i64 (-1), .int .i64 4] 3))
          have Ga := hide (grown_step G4.out (grown_alloc w4 (.cells #[.int .i64 (-1), .int .i64 4] 3) none) (fun g e => by cases e))
          have Oa := hide (O5.out.alloc (.cells #[.int .i64 (-1), .int .i64 4] 3))
          go_wp2_with fail
          (with_reducible refine (pick_any R A bs cap (q + 1) 2 _ HRa.out (HB.out _ Ga.out) (by omega) (by omega) hl (by omega) (by omega)).mono ?_)
          rintro e w5 ⟨y, hy0, hy1, rfl, hR5, hg5⟩
          have G5 := hide (grown_step Ga.out hg5 (fun g e => by injection e with e; exact .inl e.symm))
          have O6 := hide (ownsRow_put _ _ Oa.out hg5 hRw)
          have hb5 : w5.heap[w4.heap.size]? = some (.cells #[.int .i64 (-1), .int .i64 4] 3 (0, 0)) := (hg5.block w4.heap.size (by simp) (fun e => by injection e with e; have := G4.out.size; omega)).trans (heap_alloc_new w4 _)
          have c50 : w5.cell? ⟨w4.heap.size, 0, none⟩ = some (.int .i64 (-1)) := cell_of_row w5 _ 0 _ _ _ hb5
          have c51 : w5.cell? ⟨w4.heap.size, 1, none⟩ = some (.int .i64 4) := cell_of_row w5 _ 1 _ _ _ hb5
          have hcj := O6.out.cellAt 1 (by omega)
          have hfj := O6.out.frozenAt 1
          rw [map_at0 (show 1 < fl.length by have := HE.out; omega)] at hcj
          have HR5 := hide hR5
          have hk0 : (0 : Int) < (k : Int) := by omega
          have hk0' : 0 < k := by omega
          clear hR5 hg5 hb5
          have KEY := hide (fun (v : Int) => secs_put (j := 1) O6.out HR5.out G5.out hRw HE.out hcap hk11 (show p ≤ q + 1 + 1 by omega) (show q + 1 + 1 ≤ p + 60 by omega) v)
          have hy : y = 0 ∨ y = 1 := by omega
          clear hy0 hy1
          rcases hy with rfl | rfl
          · go_wp2
            go_ret
            exact KEY.out (-1)
          · go_wp2
            go_ret
            exact KEY.out 4
        · by_cases n2 : x = 2
          · subst n2
            clear n0 n1
            have HRa := hide (HR4.out.alloc (.cells #[.int .i64 0, .int .i64 21, .int .i64 20] 3))
            have Ga := hide (grown_step G4.out (grown_alloc w4 (.cells #[.int .i64 0, .int .i64 21, .int .i64 20] 3) none) (fun g e => by cases e))
            have Oa := hide (O5.out.alloc (.cells #[.int .i64 0, .int .i64 21, .int .i64 20] 3))
            go_wp2_with fail
            (with_reducible refine (pick_any R A bs cap (q + 1) 3 _ HRa.out (HB.out _ Ga.out) (by omega) (by omega) hl (by omega) (by omega)).mono ?_)
            rintro e w5 ⟨y, hy0, hy1, rfl, hR5, hg5⟩
            have G5 := hide (grown_step Ga.out hg5 (fun g e => by injection e with e; exact .inl e.symm))
            have O6 := hide (ownsRow_put _ _ Oa.out hg5 hRw)
            have hb5 : w5.heap[w4.heap.size]? = some (.cells #[.int .i64 0, .int .i64 21, .int .i64 20] 3 (0, 0)) := (hg5.block w4.heap.size (by simp) (fun e => by injection e with e; have := G4.out.size; omega)).trans (heap_alloc_new w4 _)
            have c50 : w5.cell? ⟨w4.heap.size, 0, none⟩ = some (.int .i64 0) := cell_of_row w5 _ 0 _ _ _ hb5
            have c51 : w5.cell? ⟨w4.heap.size, 1, none⟩ = some (.int .i64 21) := cell_of_row w5 _ 1 _ _ _ hb5
            have c52 : w5.cell? ⟨w4.heap.size, 2, none⟩ = some (.int .i64 20) := cell_of_row w5 _ 2 _ _ _ hb5
            have hcj := O6.out.cellAt 2 (by omega)
            have hfj := O6.out.frozenAt 2
            rw [map_at0 (show 2 < fl.length by have := HE.out; omega)] at hcj
            have HR5 := hide hR5
            have hk0 : (0 : Int) < (k : Int) := by omega
            have hk0' : 0 < k := by omega
            clear hR5 hg5 hb5
            have KEY := hide (fun (v : Int) => secs_put (j := 2) O6.out HR5.out G5.out hRw HE.out hcap hk11 (show p ≤ q + 1 + 1 by omega) (show q + 1 + 1 ≤ p + 60 by omega) v)
            have hy : y = 0 ∨ y = 1 ∨ y = 2 := by omega
            clear hy0 hy1
            rcases hy with rfl | rfl | rfl
            · go_wp2
              go_ret
              exact KEY.out 0
            · go_wp2
              go_ret
              exact KEY.out 21
            · go_wp2
              go_ret
              exact KEY.out 20
          · by_cases n3 : x = 3
            · subst n3
              clear n0 n1 n2
              go_wp2
              go_ret
              exact ⟨_, [], 0, 0, q + 1, rfl, rfl, Nat.le_refl _, by omega, by omega, Fresh.nil _ _ _ _, HR4.out.alloc _, by omega, by omega, grown_step G4.out (grown_alloc w4 _ none) (fun g e => by cases e)⟩
            · have d0 : (x == 0) = false := beq_eq_false_iff_ne.2 n0
              have d1 : (x == 1) = false := beq_eq_false_iff_ne.2 n1
              have d2 : (x == 2) = false := beq_eq_false_iff_ne.2 n2
              have d3 : (x == 3) = false := beq_eq_false_iff_ne.2 n3
              clear n0 n1 n2 n3
              have hfr := Fresh.of_ownS (fl := fl) O5.out
              go_wp2
              go_ret
              exact ⟨_, fl, k, c, q + 1, rfl, HE.out, hcap.1, hcap.2, hk11, hfr, HR4.out, by omega, by omega, G4.out⟩

/-- Some new list of sections comes back; what there was lies as it lay. -/
def DrawCab (w : World) (e : Ending) (w' : World) : Prop :=
  ∃ A' c fl k, e = .returned (.slice A' k c) ∧ fl.length = k * 3 ∧ k ≤ c ∧ c ≤ 9223372036854775807 ∧ k ≤ 11 ∧ Fresh w' w.heap.size w'.heap.size A' fl ∧ Below w.heap.size w w'
theorem rd_newS {w : World} {A : Option Addr} {n cap : Nat} {p : Int} : Rd (w.alloc (.cells #[.slice A n cap, .int .i64 p] 44)) w.heap.size A n cap p := heap_alloc_new w _
theorem below_rdS {w w' : World} {o : Obj} (h : (w.alloc o).grownBy w' (some w.heap.size)) : Below w.heap.size w w' := ((Below.refl _ w).alloc (Nat.le_refl _) _).grown h (by simp) (fun g e => by injection e with e; omega)
end Go.Proofs.YtglknakgfnoeaaaDoor
