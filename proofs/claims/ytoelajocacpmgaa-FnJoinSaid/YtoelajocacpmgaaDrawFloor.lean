/-
  WALK: the draw of a floor: some list of at most seventeen numbers from -1 to 41.
-/
import Derived.Test.YtoelajocacpmgaaDraw
import Derived.Test.YtoelajocacpmgaaSpecNeeds
namespace Go.Proofs.Ytoelajocacpmgaa
set_option linter.unusedVariables false
set_option linter.unusedSimpArgs false
open Go.RowKit

/-- A list of at most m numbers from -1 to hi. -/
def Bded (m : Nat) (hi : Int) (xs : List Int) : Prop := xs.length ≤ m ∧ ∀ k, k < xs.length → -1 ≤ at0 xs k ∧ at0 xs k ≤ hi
theorem Bded.nil (m : Nat) (hi : Int) : Bded m hi [] := ⟨Nat.zero_le _, fun k hk => absurd hk (by simp)⟩
theorem Bded.take {m : Nat} {hi : Int} {xs : List Int} (h : Bded m hi xs) (n : Nat) : Bded m hi (xs.take n) := by
  refine ⟨by have := h.1; simp; omega, fun k hk => ?_⟩
  have hk' : k < n ∧ k < xs.length := by simp at hk; omega
  have := h.2 k hk'.2
  simpa [at0, hk'.1] using this
theorem Bded.drop {m : Nat} {hi : Int} {xs : List Int} (h : Bded m hi xs) (n : Nat) : Bded m hi (xs.drop n) := by
  refine ⟨by have := h.1; simp; omega, fun k hk => ?_⟩
  have := h.2 (n + k) (by simp at hk; omega)
  simpa [at0] using this
theorem at0_set {xs : List Int} {j k : Nat} {v : Int} (hk : k < xs.length) : at0 (xs.set j v) k = if j = k then v else at0 xs k := by
  simp only [at0, List.getElem?_set]
  by_cases h : j = k
  · subst h; simp [hk]
  · simp [h]
theorem Bded.set {m : Nat} {hi : Int} {xs : List Int} (h : Bded m hi xs) (j : Nat) {v : Int} (h0 : -1 ≤ v) (h1 : v ≤ hi) : Bded m hi (xs.set j v) := by
  refine ⟨by simpa using h.1, fun k hk => ?_⟩
  have hk' : k < xs.length := by simpa using hk
  rw [at0_set hk']
  split
  · exact ⟨h0, h1⟩
  · exact h.2 k hk'
theorem at0_snoc {xs : List Int} {v : Int} {k : Nat} (h : k < xs.length + 1) : at0 (xs ++ [v]) k = if k = xs.length then v else at0 xs k := by
  simp only [at0]
  by_cases hk : k = xs.length
  · subst hk; simp
  · rw [List.getElem?_append_left (by omega), if_neg hk]

theorem Byts.grown {w w' : World} {R : Nat} {A : Option Addr} {bs : List Int} (h : Byts w R A bs) (hg : w.grownBy w' (some R)) (hR : R < w.heap.size) : Byts w' R A bs := ⟨h.1, fun hp => by
  obtain ⟨b, off, e, hlt, hc⟩ := h.2 hp
  exact ⟨b, off, e, hlt, fun j hj => (World.cell?_of_block (a := ⟨b, off + j, none⟩) (hg.block b (by omega) (fun e => by injection e with e; omega))).trans (hc j hj)⟩⟩
theorem grown_step {w a b : World} {R : Nat} {row : Option Nat} (h1 : w.grownBy a (some R)) (h2 : a.grownBy b row) (hr : ∀ g, row = some g → g = R ∨ w.heap.size ≤ g) : w.grownBy b (some R) :=
  ⟨h2.os.trans h1.os, h2.tape.trans h1.tape, h2.output.trans h1.output, Nat.le_trans h1.size h2.size, fun k hk hne => (h2.block k (Nat.lt_of_lt_of_le hk h1.size) (fun e => by
    rcases hr k e.symm with h | h
    · exact hne (by rw [h])
    · omega)).trans (h1.block k hk hne)⟩
theorem grown_two {w a b : World} {row : Option Nat} (h1 : w.grownBy a row) (h2 : a.grownBy b row) : w.grownBy b row :=
  ⟨h2.os.trans h1.os, h2.tape.trans h1.tape, h2.output.trans h1.output, Nat.le_trans h1.size h2.size, fun k hk hne => (h2.block k (Nat.lt_of_lt_of_le hk h1.size) hne).trans (h1.block k hk hne)⟩
theorem grown_alloc (w : World) (o : Obj) (row : Option Nat) : w.grownBy (w.alloc o) row := ⟨rfl, rfl, rfl, by simp, fun k hk _ => Below.heap_alloc w o k hk⟩
theorem ownsRow_put (w w' : World) {R : Nat} {e : TypeId} {base size n : Nat} {v : Value} {xs : List Value} (h : w.ownsRow base e size v n xs) (hg : w.grownBy w' (some R)) (hR : R < base) : w'.ownsRow base e size v n xs :=
  h.kept hg (.inr (fun e => by have := (h.lt R e).1; omega))

theorem Fresh.take {w : World} {lo hi : Nat} {A : Option Addr} {xs : List Int} (h : Fresh w lo hi A xs) (k : Nat) : Fresh w lo hi A (xs.take k) := fun hp => by
  obtain ⟨b, off, e, h1, h2, hc⟩ := h (by simp at hp; omega)
  refine ⟨b, off, e, h1, h2, fun j hj => ?_⟩
  have hj' : j < min k xs.length := by simpa using hj
  have := hc j (by omega)
  rwa [show at0 (xs.take k) j = at0 xs j by simp [at0, show j < k by omega]]
theorem clamp_bd (z : Int) : 0 ≤ (if 0 < (if z < 40 then z else 40) then (if z < 40 then z else 40) else 0) ∧ (if 0 < (if z < 40 then z else 40) then (if z < 40 then z else 40) else 0) ≤ 40 := by
  split <;> split <;> omega
/-- A new list of bounded numbers comes back; the reader's place has gone on; nothing else has turned. -/
def DrawInts (w : World) (R : Nat) (A : Option Addr) (n cap : Nat) (p : Int) (m : Nat) (hi : Int) (e : Ending) (w' : World) : Prop :=
  ∃ A' xs c p', e = .returned (.slice A' xs.length c) ∧ xs.length ≤ c ∧ c ≤ 9223372036854775807 ∧ Bded m hi xs ∧ Fresh w' w.heap.size w'.heap.size A' xs ∧ Rd w' R A n cap p' ∧ p ≤ p' ∧ p' ≤ p + 60 ∧ w.grownBy w' (some R)

set_option maxRecDepth 100000 in
set_option maxHeartbeats 4000000 in
theorem l91Floor_any (R : Nat) (A : Option Addr) (bs : List Int) (cap : Nat) (p m : Int) (w : World) (hR : Rd w R A bs.length cap p) (hB : Byts w R A bs) (hp0 : 0 ≤ p) (hp : p ≤ 900000) (hl : bs.length ≤ 2000) (hm : 2 ≤ m) (hm2 : m ≤ 16) :
    Calls Try.prog 69 #[.pointer (some ⟨R, 0, none⟩), .int .i64 m] w (DrawInts w R A bs.length cap p 17 41) := by
  obtain ⟨i0, hi, hz0, hz1, hz2⟩ := info_parts infoInt
  have hRw := hR.lt
  have HR0 := hide (hR.alloc (.cells #[] 3))
  have HB := hide (fun (W : World) (hg : w.grownBy W (some R)) => hB.grown hg hRw)
  have G0 := hide (grown_alloc w (.cells #[] 3) (some R))
  clear hR hB
  go_enter Try.func69, Try.ntmps69
  go_wp2_with fail
  (with_reducible refine (pick_any R A bs cap p (m - 1) _ HR0.out (HB.out _ G0.out) hp0 (by omega) hl (by omega) (by omega)).mono ?_)
  rintro e w1 ⟨x0, hx0, hx1, rfl, hR1, hg1⟩
  obtain ⟨x0, rfl⟩ := Int.eq_ofNat_of_zero_le hx0
  have HR1 := hide hR1
  have G1 := hide (grown_step G0.out hg1 (fun g e => by injection e with e; exact .inl e.symm))
  have O1 := hide (ownsRow_put _ _ (World.ownsRow_made (size := 1) (e := 3) w #[] 0 (Nat.le_refl _) (Nat.zero_le _) rfl) hg1 hRw)
  clear hR1 hg1
  go_wp2_with fail
  (with_reducible refine (pick_any R A bs cap (p + 1) 30 _ HR1.out (HB.out _ G1.out) (by omega) (by omega) hl (by omega) (by omega)).mono ?_)
  rintro e w2 ⟨d0, hd0, hd1, rfl, hR2, hg2⟩
  have HR2 := hide hR2
  have G2 := hide (grown_step G1.out hg2 (fun g e => by injection e with e; exact .inl e.symm))
  have O2 := hide (ownsRow_put _ _ O1.out hg2 hRw)
  clear hR2 hg2
  go_wp2_with fail
  go_loopw [5, 7, 8] (fun o d i wr => ∃ (k : Nat) (dz q : Int) (xs : List Int), k ≤ 2 + x0 ∧ i = .int .i64 (k : Int) ∧ d = .int .i64 dz ∧ 0 ≤ dz ∧ dz ≤ 40 ∧ Hid (xs.length = k ∧ ∀ j, j < k → 0 ≤ at0 xs j ∧ at0 xs j ≤ 40) ∧ wr.ownsRow w.heap.size 3 1 o k (xs.map (Value.int .i64)) ∧
      Hid (Rd wr R A bs.length cap q) ∧ p ≤ q ∧ q ≤ p + 2 + (k : Int) ∧ Hid (w.grownBy wr (some R)))
    (fun _ _ i _ => 2 + x0 - (intOf i).toNat)
  case atStart => exact ⟨0, d0, p + 1 + 1, [], Nat.zero_le _, rfl, rfl, hd0, by omega, ⟨rfl, fun j hj => absurd hj (by omega)⟩, O2.out, HR2.out, by omega, by omega, G2.out⟩
  case round =>
    obtain ⟨k, dz, q, xs, hk, rfl, rfl, hz0', hz1', hxs, hown, hRd, hq0, hq1, hgr⟩ := hrel
    have HO := hide hown
    clear hown
    by_cases hlt : k < 2 + x0
    · have hlt' : (k : Int) < 2 + (x0 : Int) := by omega
      have hbase : w.heap.size ≤ wr.heap.size := hgr.out.size
      go_wp2_with (at_builtin; refine wpList_append_own _ rfl _ _ 23 rfl w.heap.size 3 i0 (.int .i64 0) 1 8 Try.underlying23 hi hz0 hz1 hz2 rfl (by decide) _ _ _ rfl (HO.out.alloc (.cells #[.int .i64 dz] 3)) ⟨wr.heap.size, 0, none⟩ 1 1 [.int .i64 dz] rfl rfl (cell_one_new _ _ _) (by simp [Value.oneCell']) (by unfold maxLen; omega) (by omega) (by simp; omega) ?_; intro v' w3 hown' hgrow _)
      have G3 := hide (grown_step (grown_step hgr.out (grown_alloc wr (.cells #[.int .i64 dz] 3) none) (fun g e => by cases e)) hgrow (fun g e => .inr (HO.out.lt g e).1))
      have HR3 := hide ((hRd.out.alloc (.cells #[.int .i64 dz] 3)).kept hgrow (fun e => by have := (HO.out.lt R e.symm).1; omega))
      have O3 := hide hown'
      clear hown' hgrow
      (with_reducible refine (pick_any R A bs cap q 17 _ HR3.out (HB.out _ G3.out) (by omega) (by omega) hl (by omega) (by omega)).mono ?_)
      rintro e w4 ⟨x, hx0', hx1', rfl, hR4, hg4⟩
      have HR4 := hide hR4
      have G4 := hide (grown_step G3.out hg4 (fun g e => by injection e with e; exact .inl e.symm))
      have O4 := hide (ownsRow_put _ _ O3.out hg4 hRw)
      clear hR4 hg4
      have hxs' : Hid ((xs ++ [dz]).length = k + 1 ∧ ∀ j, j < k + 1 → 0 ≤ at0 (xs ++ [dz]) j ∧ at0 (xs ++ [dz]) j ≤ 40) := by
        obtain ⟨e1, e2⟩ := hxs.out
        refine ⟨by simp [e1], fun j hj => ?_⟩
        rw [at0_snoc (by omega)]
        split
        · exact ⟨hz0', hz1'⟩
        · exact e2 j (by omega)
      have hmap : Hid (w4.ownsRow w.heap.size 3 1 v' (k + 1) ((xs ++ [dz]).map (Value.int .i64))) := by
        refine hide ?_
        have := O4.out
        simpa [List.map_append] using this
      have hcl := clamp_bd (dz + x - 8)
      go_wp2
      go_roundw
      case rel => exact ⟨k + 1, _, q + 1, xs ++ [dz], by omega, by go_num, rfl, hcl.1, hcl.2, hxs', hmap.out, HR4.out, by omega, by omega, G4.out⟩
      case measure => simp [intOf]; omega
    · have hlt' : ¬ (k : Int) < 2 + (x0 : Int) := by omega
      have hkk : k = 2 + x0 := by omega
      have hb : Hid (Bded 17 41 xs) := by
        obtain ⟨e1, e2⟩ := hxs.out
        exact ⟨by omega, fun j hj => by have := e2 j (by omega); omega⟩
      have HE := hide hxs.out.1
      clear hxs hkk
      go_wp2_with fail
      (with_reducible refine (pick_any R A bs cap q 40 _ hRd.out (HB.out _ hgr.out) (by omega) (by omega) hl (by omega) (by omega)).mono ?_)
      rintro e w4 ⟨x, hx0', hx1', rfl, hR4, hg4⟩
      have HR4 := hide hR4
      have G4 := hide (grown_step hgr.out hg4 (fun g e => by injection e with e; exact .inl e.symm))
      have O4 := ownsRow_put _ _ HO.out hg4 hRw
      obtain ⟨g, c, rfl, hgl, hgw⟩ := O4.form (by omega)
      have O5 := hide O4
      have hc0 := O4.cellAt 0 (by omega)
      have hf0 := O4.frozenAt 0
      have hcap : k ≤ c ∧ c ≤ 9223372036854775807 := by
        obtain ⟨A2, c2, e, k1, k2⟩ := own_form O4
        cases e
        unfold maxLen at k2
        exact ⟨k1, by omega⟩
      clear hR4 hg4 O4
      by_cases c0 : x = 0
      · subst c0
        have HRa := hide (HR4.out.alloc (.cells #[.int .i64 (-1), .int .i64 41] 3))
        have Ga := hide (grown_step G4.out (grown_alloc w4 (.cells #[.int .i64 (-1), .int .i64 41] 3) none) (fun g e => by cases e))
        have Oa := hide (O5.out.alloc (.cells #[.int .i64 (-1), .int .i64 41] 3))
        clear hc0 hf0
        go_wp2_with fail
        (with_reducible refine (pick_any R A bs cap (q + 1) 2 _ HRa.out (HB.out _ Ga.out) (by omega) (by omega) hl (by omega) (by omega)).mono ?_)
        rintro e w5 ⟨y, hy0, hy1, rfl, hR5, hg5⟩
        have G5 := hide (grown_step Ga.out hg5 (fun g e => by injection e with e; exact .inl e.symm))
        have O6 := hide (ownsRow_put _ _ Oa.out hg5 hRw)
        have hb5 : w5.heap[w4.heap.size]? = some (.cells #[.int .i64 (-1), .int .i64 41] 3 (0, 0)) := (hg5.block w4.heap.size (by simp) (fun e => by injection e with e; have := G4.out.size; omega)).trans (heap_alloc_new w4 _)
        have c50 : w5.cell? ⟨w4.heap.size, 0, none⟩ = some (.int .i64 (-1)) := cell_of_row w5 _ 0 _ _ _ hb5
        have c51 : w5.cell? ⟨w4.heap.size, 1, none⟩ = some (.int .i64 41) := cell_of_row w5 _ 1 _ _ _ hb5
        have hc0 := O6.out.cellAt 0 (by omega)
        have hf0 := O6.out.frozenAt 0
        have e0 : (xs.map (Value.int .i64))[0]? = some (.int .i64 (at0 xs 0)) := by simp [at0, show 0 < xs.length by have := HE.out; omega]
        rw [e0] at hc0
        have HR5 := hide hR5
        have hk0 : (0 : Int) < (k : Int) := by omega
        have hk0' : 0 < k := by omega
        clear hR5 hg5 hb5 e0
        have key : ∀ v : Int, -1 ≤ v → v ≤ 41 → DrawInts w R A bs.length cap p 17 41 (.returned (.slice (some ⟨g, 0, none⟩) k c)) (w5.setCell ⟨g, 0, none⟩ (.int .i64 v)) := by
          intro v hv0 hv1
          obtain ⟨s1, s2⟩ := O6.out.stored 0 (.int .i64 v)
          rw [← List.map_set] at s1
          have hfr := Fresh.of_own (xs := xs.set 0 v) s1
          exact ⟨_, xs.set 0 v, c, q + 1 + 1, by rw [List.length_set, HE.out], by rw [List.length_set, HE.out]; exact hcap.1, hcap.2, hb.out.set 0 hv0 hv1, hfr, HR5.out.kept s2 (fun e => by injection e with e; omega), by omega, by omega, grown_step G5.out s2 (fun g' e => by injection e with e; exact .inr (by omega))⟩
        have KEY := hide key
        clear key
        have hy : y = 0 ∨ y = 1 := by omega
        clear hy0 hy1
        rcases hy with rfl | rfl
        · go_wp2
          go_ret
          exact KEY.out (-1) (by omega) (by omega)
        · go_wp2
          go_ret
          exact KEY.out 41 (by omega) (by omega)
      · by_cases c1 : x = 1
        · subst c1
          clear hc0 hf0
          have hk1 : (1 : Int) ≤ (c : Int) := by omega
          have HT := hide (show (xs.take 1).length = 1 by have := HE.out; simp; omega)
          have hfr := (Fresh.of_own (xs := xs) O5.out).take 1
          go_wp2
          go_ret
          exact ⟨_, xs.take 1, c, q + 1, by rw [HT.out]; try rfl, by rw [HT.out]; omega, hcap.2, hb.out.take 1, hfr, HR4.out, by omega, by omega, G4.out⟩
        · by_cases c2 : x = 2
          · subst c2
            clear hc0 hf0 c0 c1
            go_wp2
            go_ret
            exact ⟨_, [], 0, q + 1, rfl, Nat.le_refl _, by omega, Bded.nil _ _, Fresh.nil _ _ _ _, HR4.out.alloc _, by omega, by omega, grown_step G4.out (grown_alloc w4 _ none) (fun g e => by cases e)⟩
          · have d0 : (x == 0) = false := beq_eq_false_iff_ne.2 c0
            have d1 : (x == 1) = false := beq_eq_false_iff_ne.2 c1
            have d2 : (x == 2) = false := beq_eq_false_iff_ne.2 c2
            clear hc0 hf0 c0 c1 c2
            have hfr := Fresh.of_own (xs := xs) O5.out
            go_wp2
            go_ret
            exact ⟨_, xs, c, q + 1, by rw [HE.out]; try rfl, by rw [HE.out]; exact hcap.1, hcap.2, hb.out, hfr, HR4.out, by omega, by omega, G4.out⟩
end Go.Proofs.Ytoelajocacpmgaa
