/-
  WALKS: the copying, comparing, marking and holding of lists of sections by which the exact laws ask.
-/
import Derived.Test.YtlhmpecoboeoaaaSecI
import Derived.Test.YtlhmpecoboeoaaaMarkBase
import Derived.Deep.RegionHeld3
import Derived.Test.YtlhmpecoboeoaaaProg
import Derived.Deep.QuietTactic
import Derived.BigQuiet
namespace Go.Proofs.Ytlhmpecoboeoaaa
set_option linter.unusedVariables false
set_option linter.unusedSimpArgs false
open Go.RowKit

theorem szSectionS_any (A : Option Addr) (n cap : Nat) (left : Int) (w : World) (hn : n ≤ 9223372036854775807) (h0 : 0 ≤ left) (h1 : left ≤ 1048576) :
    Calls Try.prog 17 #[.slice A n cap, .int .i64 left] w fun e w' => e = .returned (.int .i64 (if left < (n : Int) then -1 else left - (n : Int))) ∧ w = w' := by
  by_cases h : left < (n : Int)
  · rw [if_pos h]
    have h' : left - (n : Int) < 0 := by omega
    go_enter Try.func17, Try.ntmps17
    go_wp2
    go_ret
    exact ⟨rfl, rfl⟩
  · rw [if_neg h]
    have h' : ¬ left - (n : Int) < 0 := by omega
    go_enter Try.func17, Try.ntmps17
    go_wp2
    go_ret
    exact ⟨rfl, rfl⟩

theorem toSection_any (a b c : Int) (w : World) :
    Calls Try.prog 53 #[.agg #[.int .i64 a, .int .i64 b, .int .i64 c]] w fun e w' => e = .returned (.agg #[.int .i64 a, .int .i64 b, .int .i64 c]) ∧ Below w.heap.size w w' := by
  go_enter Try.func53, Try.ntmps53
  go_wp2
  exact bodyPost_ret (v := .agg #[.int .i64 a, .int .i64 b, .int .i64 c]) (by simp [results, Try.results53, go_sem]) rfl ⟨rfl, (((Below.refl _ w).alloc (Nat.le_refl _) _).alloc (by simp) _).alloc (by simp; omega) _⟩

theorem eqSection_same (a b c : Int) (w : World) :
    Calls Try.prog 55 #[.agg #[.int .i64 a, .int .i64 b, .int .i64 c], .agg #[.int .i64 a, .int .i64 b, .int .i64 c]] w fun e w' => e = .returned (.bool true) ∧ Below w.heap.size w w' := by
  go_enter Try.func55, Try.ntmps55
  go_wp2
  go_ret
  exact ⟨rfl, ((Below.refl _ w).alloc (Nat.le_refl _) _).alloc (by simp) _⟩

theorem set3_heap {W : World} {B i : Nat} {cs : Array Value} {t : TypeId} {a b c : Value} (h : W.heap[B]? = some (.cells cs t (0, 0))) :
    (((W.setCell ⟨B, i, none⟩ a).setCell ⟨B, i + 1, none⟩ b).setCell ⟨B, i + 2, none⟩ c).heap[B]? = some (.cells (((cs.setIfInBounds i a).setIfInBounds (i + 1) b).setIfInBounds (i + 2) c) t (0, 0)) := by
  simp [World.setCell, Array.getElem?_modify, h]
theorem set3_get {cs : Array Value} {i j : Nat} {a b c : Value} (hj : j < cs.size) : (((cs.setIfInBounds i a).setIfInBounds (i + 1) b).setIfInBounds (i + 2) c)[j]? = if j = i then some a else if j = i + 1 then some b else if j = i + 2 then some c else cs[j]? := by
  simp only [Array.getElem?_setIfInBounds, Array.size_setIfInBounds]
  by_cases h1 : j = i
  · subst h1; simp [hj]
  · by_cases h2 : j = i + 1
    · subst h2; simp [hj]
    · by_cases h3 : j = i + 2
      · subst h3; simp [hj]
      · rw [if_neg (by omega), if_neg (by omega), if_neg (by omega), if_neg h1, if_neg h2, if_neg h3]

theorem make_secs (n : Nat) (hc : n ≤ 4194304) (W : World) : ∃ cur : Array Value, cur.size = n * 3 ∧ (Instr.makeSlice 25 (.int .i64 (n : Int)) (.int .i64 (n : Int))).run Try.prog W =
    .ok (.slice (some ⟨W.heap.size, 0, none⟩) n n) (W.alloc (.cells cur 52)) := by
  obtain ⟨i0, hi, hz0, hz1, hz2⟩ := info_parts infoSec
  have hb : (i0.bytes : Int) * (n : Int) ≤ 281474976710656 := by rw [hz2]; omega
  have hr := run_make (P := Try.prog) W 25 52 i0 (.agg #[.int .i64 0, .int .i64 0, .int .i64 0]) Try.underlying25 hi hz0 .i64 .i64 n n (by omega) (by omega) hb (by omega)
  simp only [Int.toNat_natCast] at hr
  rw [hz1] at hr
  exact ⟨_, by simp [madeCells], hr⟩

set_option maxHeartbeats 800000 in
theorem toSectionS_any (A : Option Addr) (fl : List Int) (n cap : Nat) (w : World) (hl : fl.length = n * 3) (h : Ints w w.heap.size A fl) (hn : n ≤ 1048576) :
    Calls Try.prog 19 #[.slice A n cap] w fun e w' => ∃ A' cap', e = .returned (.slice A' n cap') ∧ n ≤ cap' ∧ cap' ≤ 9223372036854775807 ∧ Fresh w' w.heap.size w'.heap.size A' fl ∧ Below w.heap.size w w' := by
  have H := hide h
  have HL := hide hl
  obtain ⟨cur0, hcur0, hmk⟩ := make_secs n (by omega) w
  have HC0 := hide hcur0
  clear h hl hcur0
  go_enter Try.func19, Try.ntmps19
  go_wp2
  clear hmk
  go_loopw [4] (fun i wr => ∃ (k : Nat) (cur : Array Value), k ≤ n ∧ i = .int .i64 (k : Int) ∧ Hid (wr.heap[w.heap.size]? = some (.cells cur 52 (0, 0))) ∧ Hid (cur.size = n * 3) ∧ Hid (∀ j, j < k * 3 → cur[j]? = some (.int .i64 (at0 fl j))) ∧ Hid (Below w.heap.size w wr))
    (fun i _ => n - (intOf i).toNat)
  case atStart =>
    exact ⟨0, cur0, Nat.zero_le _, rfl, heap_alloc_new w _, HC0.out, fun j hj => absurd hj (by omega), (Below.refl _ w).alloc (Nat.le_refl _) _⟩
  case round =>
    obtain ⟨k, cur, hk, rfl, hblk, hsz, hcur, hbel⟩ := hrel
    by_cases hlt : k < n
    · obtain ⟨b, off, rfl, hb, hc⟩ := H.out (by have := HL.out; omega)
      have hfl := HL.out
      have c0 : wr.cell? ⟨b, off + k * 3, none⟩ = some (.int .i64 (at0 fl (k * 3))) := (hbel.out.cell (p := ⟨b, off + k * 3, none⟩) hb).trans (hc (k * 3) (by omega))
      have c1 : wr.cell? ⟨b, off + k * 3 + 1, none⟩ = some (.int .i64 (at0 fl (k * 3 + 1))) := (hbel.out.cell (p := ⟨b, off + k * 3 + 1, none⟩) hb).trans (by have := hc (k * 3 + 1) (by omega); rwa [← Nat.add_assoc] at this)
      have c2 : wr.cell? ⟨b, off + k * 3 + 2, none⟩ = some (.int .i64 (at0 fl (k * 3 + 2))) := (hbel.out.cell (p := ⟨b, off + k * 3 + 2, none⟩) hb).trans (by have := hc (k * 3 + 2) (by omega); rwa [← Nat.add_assoc] at this)
      clear hc hfl
      go_wp2_with fail
      (with_reducible refine (toSection_any _ _ _ _).mono ?_)
      rintro e w1 ⟨rfl, hb1⟩
      have hgt : w.heap.size < wr.heap.size := by
        have := hblk.out
        rcases Nat.lt_or_ge w.heap.size wr.heap.size with h | h
        · exact h
        · rw [Array.getElem?_eq_none h] at this; cases this
      have hblk1 : w1.heap[w.heap.size]? = some (.cells cur 52 (0, 0)) := (hb1.block w.heap.size hgt).trans hblk.out
      have d : ∀ j, j < n * 3 → ∃ u, w1.cell? ⟨w.heap.size, j, none⟩ = some u := fun j hj => ⟨_, (cell_of_row w1 w.heap.size j cur 52 (0, 0) hblk1).trans (Array.getElem?_eq_getElem (by rw [hsz.out]; exact hj))⟩
      obtain ⟨u0, d0⟩ := d (k * 3) (by omega)
      obtain ⟨u1, d1⟩ := d (k * 3 + 1) (by omega)
      obtain ⟨u2, d2⟩ := d (k * 3 + 2) (by omega)
      have f : ∀ j, w1.frozen? ⟨w.heap.size, j, none⟩ = false := fun j => by simp [World.frozen?, hblk1]
      have f0 := f (k * 3)
      have f1 := f (k * 3 + 1)
      have f2 := f (k * 3 + 2)
      have HB1 := hide hblk1
      clear d f hblk1
      go_wp2
      go_roundw
      case rel =>
        refine ⟨k + 1, _, by omega, by go_num, set3_heap HB1.out, ?_, ?_, ?_⟩
        · show (((cur.setIfInBounds _ _).setIfInBounds _ _).setIfInBounds _ _).size = _
          simp [hsz.out]
        · intro j hj
          rw [set3_get (by rw [hsz.out]; omega)]
          by_cases h1 : j = k * 3
          · rw [if_pos h1, h1]
          · by_cases h2 : j = k * 3 + 1
            · rw [if_neg h1, if_pos h2, h2]
            · by_cases h3 : j = k * 3 + 2
              · rw [if_neg h1, if_neg h2, if_pos h3, h3]
              · rw [if_neg h1, if_neg h2, if_neg h3]
                exact hcur.out j (by omega)
        · exact (((bt hbel.out hb1).setCell (p := ⟨w.heap.size, _, none⟩) (Nat.le_refl _) _).setCell (p := ⟨w.heap.size, _, none⟩) (Nat.le_refl _) _).setCell (p := ⟨w.heap.size, _, none⟩) (Nat.le_refl _) _
      case measure => simp [intOf]; omega
    · have hkk : k = n := by omega
      subst hkk
      go_wp2
      go_ret
      have hgt : w.heap.size < wr.heap.size := by
        have := hblk.out
        rcases Nat.lt_or_ge w.heap.size wr.heap.size with h | h
        · exact h
        · rw [Array.getElem?_eq_none h] at this; cases this
      refine ⟨_, _, rfl, Nat.le_refl _, by omega, fun hp => ⟨w.heap.size, 0, rfl, Nat.le_refl _, hgt, fun j hj => ⟨?_, ?_⟩⟩, hbel.out⟩
      · rw [Nat.zero_add]
        exact (cell_of_row wr w.heap.size j cur 52 (0, 0) hblk.out).trans (hcur.out j (by have := HL.out; omega))
      · have := hblk.out
        simp [World.frozen?, this]

set_option maxHeartbeats 1600000 in
theorem eqSectionS_same (A A' : Option Addr) (fl : List Int) (n c c' : Nat) (w : World) (hl : fl.length = n * 3) (h : Ints w w.heap.size A fl) (h' : Ints w w.heap.size A' fl) (hn : n ≤ 4194304) :
    Calls Try.prog 21 #[.slice A n c, .slice A' n c'] w fun e w' => e = .returned (.bool true) ∧ Below w.heap.size w w' := by
  have H := hide h
  have H' := hide h'
  have HL := hide hl
  clear h h' hl
  go_enter Try.func21, Try.ntmps21
  go_wp2
  go_loopw [5] (fun i wr => ∃ k : Nat, k ≤ n ∧ i = .int .i64 (k : Int) ∧ Hid (Below w.heap.size w wr)) (fun i _ => n - (intOf i).toNat)
  case atStart => exact ⟨0, Nat.zero_le _, rfl, Below.refl _ _⟩
  case round =>
    obtain ⟨k, hk, rfl, hbel⟩ := hrel
    by_cases hlt : k < n
    · obtain ⟨b, off, rfl, hb, hc⟩ := H.out (by have := HL.out; omega)
      obtain ⟨b', off', rfl, hb', hc'⟩ := H'.out (by have := HL.out; omega)
      have HS := hide (show ∀ W, Below w.heap.size w W → (W.cell? ⟨b, off + k * 3, none⟩ = some (.int .i64 (at0 fl (k * 3))) ∧ W.cell? ⟨b, off + k * 3 + 1, none⟩ = some (.int .i64 (at0 fl (k * 3 + 1))) ∧ W.cell? ⟨b, off + k * 3 + 2, none⟩ = some (.int .i64 (at0 fl (k * 3 + 2)))) ∧
          (W.cell? ⟨b', off' + k * 3, none⟩ = some (.int .i64 (at0 fl (k * 3))) ∧ W.cell? ⟨b', off' + k * 3 + 1, none⟩ = some (.int .i64 (at0 fl (k * 3 + 1))) ∧ W.cell? ⟨b', off' + k * 3 + 2, none⟩ = some (.int .i64 (at0 fl (k * 3 + 2)))) ∧ Below w.heap.size w W from fun W hW => by
        have hfl := HL.out
        refine ⟨⟨?_, ?_, ?_⟩, ⟨?_, ?_, ?_⟩, hW⟩
        · exact (hW.cell (p := ⟨b, off + k * 3, none⟩) hb).trans (hc (k * 3) (by omega))
        · exact (hW.cell (p := ⟨b, off + k * 3 + 1, none⟩) hb).trans (by have := hc (k * 3 + 1) (by omega); rwa [← Nat.add_assoc] at this)
        · exact (hW.cell (p := ⟨b, off + k * 3 + 2, none⟩) hb).trans (by have := hc (k * 3 + 2) (by omega); rwa [← Nat.add_assoc] at this)
        · exact (hW.cell (p := ⟨b', off' + k * 3, none⟩) hb').trans (hc' (k * 3) (by omega))
        · exact (hW.cell (p := ⟨b', off' + k * 3 + 1, none⟩) hb').trans (by have := hc' (k * 3 + 1) (by omega); rwa [← Nat.add_assoc] at this)
        · exact (hW.cell (p := ⟨b', off' + k * 3 + 2, none⟩) hb').trans (by have := hc' (k * 3 + 2) (by omega); rwa [← Nat.add_assoc] at this))
      obtain ⟨⟨c0, c1, c2⟩, ⟨d0, d1, d2⟩, -⟩ := HS.out _ hbel.out
      have hq0 : Below w.heap.size w wr := hbel.out
      have hqd : Below w.heap.size w wr.drew := hbel.out.drew
      have hlti : (k : Int) < (n : Int) := by omega
      have h0i : (0 : Int) ≤ (k : Int) := by omega
      clear hc hc'
      go_wp2_with fail
      go_region_held3 (fun W => (W.cell? ⟨b, off + k * 3, none⟩ = some (.int .i64 (at0 fl (k * 3))) ∧ W.cell? ⟨b, off + k * 3 + 1, none⟩ = some (.int .i64 (at0 fl (k * 3 + 1))) ∧ W.cell? ⟨b, off + k * 3 + 2, none⟩ = some (.int .i64 (at0 fl (k * 3 + 2)))) ∧
          (W.cell? ⟨b', off' + k * 3, none⟩ = some (.int .i64 (at0 fl (k * 3))) ∧ W.cell? ⟨b', off' + k * 3 + 1, none⟩ = some (.int .i64 (at0 fl (k * 3 + 1))) ∧ W.cell? ⟨b', off' + k * 3 + 2, none⟩ = some (.int .i64 (at0 fl (k * 3 + 2)))) ∧ Below w.heap.size w W) (exact HS.out _ (by assumption))
        ((go_at_call 55; refine (eqSection_same _ _ _ _).mono ?_; rintro e w1 ⟨rfl, hb1⟩; have hbw := bt (show Below w.heap.size w _ by assumption) hb1))
      all_goals
        go_wp2
        go_roundw
        case rel => exact ⟨k + 1, by omega, by go_num, by show Below _ _ _; assumption⟩
        case measure => simp [intOf]; omega
    · go_wp2
      go_ret
      exact ⟨rfl, hbel.out⟩
end Go.Proofs.Ytlhmpecoboeoaaa
