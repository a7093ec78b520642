/-
  WALKS: two points of a floor, and the length between them: the program's.
-/
import Derived.Test.YtoelajocacpmgaaValid
import Derived.Test.YtoelajocacpmgaaMiles
namespace Go.Proofs.Ytoelajocacpmgaa
set_option linter.unusedVariables false
set_option linter.unusedSimpArgs false
open Go.RowKit Go.Shelf
attribute [local go_sem] Oper.semAt_some

/-- Two points of a floor, in order. -/
def ptsOk (xs : List Int) (f t : Int) : Bool := floorOk xs && (inB f 0 t && decide (t < (xs.length : Int)))
theorem ptsOk_iff {xs : List Int} {f t : Int} : ptsOk xs f t = true ↔ floorOk xs = true ∧ 0 ≤ f ∧ f ≤ t ∧ t < (xs.length : Int) := by
  simp only [ptsOk, Bool.and_eq_true, inB_iff, decide_eq_true_eq]
  constructor
  · rintro ⟨a, ⟨b, c⟩, d⟩; exact ⟨a, b, c, d⟩
  · rintro ⟨a, b, c, d⟩; exact ⟨a, ⟨b, c⟩, d⟩
theorem floorOk_deep {xs : List Int} (h : floorOk xs = true) : Deep xs := fun k hk => floorOk_get h hk

theorem pointsIn_any (A : Option Addr) (xs : List Int) (cap : Nat) (f t : Int) (w : World) (h : Ints w w.heap.size A xs) (hn : xs.length ≤ 1048576) :
    Calls Try.prog 66 #[.slice A xs.length cap, .int .i64 f, .int .i64 t] w fun e w' => e = .returned (.bool (ptsOk xs f t)) ∧ Below w.heap.size w w' := by
  have H := hide h
  clear h
  by_cases h1 : floorOk xs = true
  · by_cases h2 : inB f 0 t = true
    · by_cases h3 : t < (xs.length : Int)
      · have HF := hide (show true = ptsOk xs f t by simp [ptsOk, h1, h2, h3])
        go_enter Try.func66, Try.ntmps66
        go_wp2_with (first | (go_at_call 63; refine (floorValid_any _ _ _ _ H.out hn).mono ?_; rintro e w1 ⟨rfl, hb1⟩) | (go_at_call 79; refine (within_any _ _ _ _).mono ?_; rintro e w' ⟨rfl, rfl⟩))
        go_ret
        exact ⟨ret_bool HF.out, hb1⟩
      · have HF := hide (show false = ptsOk xs f t by simp [ptsOk, h1, h2, h3])
        have h3' : decide (t < (xs.length : Int)) = false := by simpa using h3
        go_enter Try.func66, Try.ntmps66
        go_wp2_with (first | (go_at_call 63; refine (floorValid_any _ _ _ _ H.out hn).mono ?_; rintro e w1 ⟨rfl, hb1⟩) | (go_at_call 79; refine (within_any _ _ _ _).mono ?_; rintro e w' ⟨rfl, rfl⟩))
        go_ret
        exact ⟨ret_bool HF.out, hb1⟩
    · have h2' : inB f 0 t = false := by simpa using h2
      have HF := hide (show false = ptsOk xs f t by simp [ptsOk, h2'])
      clear h2
      go_enter Try.func66, Try.ntmps66
      go_wp2_with (first | (go_at_call 63; refine (floorValid_any _ _ _ _ H.out hn).mono ?_; rintro e w1 ⟨rfl, hb1⟩) | (go_at_call 79; refine (within_any _ _ _ _).mono ?_; rintro e w' ⟨rfl, rfl⟩))
      go_ret
      exact ⟨ret_bool HF.out, hb1⟩
  · have h1' : floorOk xs = false := by simpa using h1
    have HF := hide (show false = ptsOk xs f t by simp [ptsOk, h1'])
    clear h1
    go_enter Try.func66, Try.ntmps66
    go_wp2_with (go_at_call 63; refine (floorValid_any _ _ _ _ H.out hn).mono ?_; rintro e w1 ⟨rfl, hb1⟩)
    go_ret
    exact ⟨ret_bool HF.out, hb1⟩

/-- What some miles need together. -/
def sumM {xs : List Int} (l : List (Mile xs)) : Int := (l.map fun x => needF xs x.1).sum
theorem sumM_snoc {xs : List Int} (l : List (Mile xs)) (x : Mile xs) : sumM (l ++ [x]) = sumM l + needF xs x.1 := by simp [sumM]
theorem sumM_bd {xs : List Int} (hd : Deep xs) (l : List (Mile xs)) : 0 ≤ sumM l ∧ sumM l ≤ 50 * l.length := by
  induction l with
  | nil => simp [sumM]
  | cons x l ih =>
    have := needF_bd hd x.2
    have e : sumM (x :: l) = needF xs x.1 + sumM l := by simp [sumM]
    rw [e]
    simp only [List.length_cons, Int.natCast_succ]
    omega
theorem sumM_milesTo (xs : List Int) (k : Nat) (h : k ≤ xs.length - 1) : sumM (milesTo xs k) = sumN (needF xs) k := by
  induction k with
  | zero => rfl
  | succ k ih => rw [milesTo_succ (by omega), sumM_snoc, ih (by omega)]; rfl

/-- What all miles between two points need, or -1. -/
def floorLen (xs : List Int) (f t : Int) : Int := if ptsOk xs f t = true then sumN (fun i => needF xs (f.toNat + i)) (t.toNat - f.toNat) else -1

set_option maxRecDepth 100000 in
set_option maxHeartbeats 2000000 in
theorem floorLength_any (A : Option Addr) (xs : List Int) (cap : Nat) (f t : Int) (w : World) (h : Ints w w.heap.size A xs) (hn : xs.length ≤ 1048576) (hcap : xs.length ≤ cap) (hcm : cap ≤ 9223372036854775807) :
    Calls Try.prog 23 #[.slice A xs.length cap, .int .i64 f, .int .i64 t] w fun e w' => e = .returned (.int .i64 (floorLen xs f t)) ∧ Below w.heap.size w w' := by
  by_cases hp : ptsOk xs f t = true
  · obtain ⟨hf, h0, h1, h2⟩ := ptsOk_iff.1 hp
    obtain ⟨f, rfl⟩ := Int.eq_ofNat_of_zero_le h0
    obtain ⟨t, rfl⟩ := Int.eq_ofNat_of_zero_le (show 0 ≤ t by omega)
    obtain ⟨hl1, hl2⟩ := floorOk_len hf
    have HF := hide (show sumN (fun i => needF xs (f + i)) (t - f) = floorLen xs f t by simp [floorLen, hp])
    have HD := hide (floorOk_deep hf)
    obtain ⟨b, off, rfl, hb, hc⟩ := h (by omega)
    have H := hide h
    clear h hc hf
    have e1 : (f : Int) ≤ (t : Int) + 1 := by omega
    have e2 : (t : Int) + 1 ≤ (cap : Int) := by omega
    have e3 : ¬ cap = f := by omega
    refine (callsIn_wide (n := 6)).1 ?_
    refine callsIn_of_wp_marks Try.func23 rfl trivial ?_ rfl
    simp only [Try.ntmps23, List.size_toArray, List.length_cons, List.length_nil, Nat.reduceAdd, Nat.reduceSub, Array.replicate_succ, Array.replicate_zero, List.push_toArray, List.append_toArray, List.nil_append, List.cons_append]
    gi_wp2_with (first
      | (refine ⟨trivial, ?_⟩; gi_at_call 66; refine (callsIn_wide.2 (pointsIn_any _ xs cap f t _ H.out hn)).mono ?_; rintro e w1 ⟨rfl, hb1⟩)
      | (refine ⟨trivial, ?_⟩; gi_at_call 61; refine (callsIn_wide.2 (miles_any _ _ _ _)).mono ?_; rintro e w' ⟨rfl, rfl⟩))
    obtain ⟨pt, hpt⟩ : ∃ pt, pt = (xs.drop f).take (t + 1 - f) := ⟨_, rfl⟩
    have hpl : t + 1 - f = pt.length := by rw [hpt]; simp; omega
    have hpa : ∀ i, i < pt.length → at0 pt i = at0 xs (f + i) := fun i hi => by
      rw [hpt]; simp [at0, show i < t + 1 - f by omega]
    have hpn : ∀ i, i < pt.length - 1 → needF pt i = needF xs (f + i) := fun i hi => by
      unfold needF; rw [hpa i (by omega), hpa (i + 1) (by omega)]; rfl
    have hpd : Deep pt := fun i hi => by rw [hpa i hi]; exact HD.out _ (by omega)
    have hpi : Ints w1 w1.heap.size (some ⟨b, off + f, none⟩) pt := fun _ => by
      obtain ⟨b', off', e, hb', hc'⟩ := (H.out.next hb1) (by omega)
      cases e
      refine ⟨b, off + f, rfl, hb', fun j hj => ?_⟩
      rw [Nat.add_assoc, hc' (f + j) (by omega), hpa j hj]
    rw [hpl]
    have hq1 : 1 ≤ pt.length := by omega
    have hq2 : pt.length ≤ 16 := by omega
    have HPL := hide hpl
    have HPN := hide hpn
    have HPD := hide hpd
    clear hpt hpl hpa hpn hpd
    have bS := Boxed.new w1 3 (.int .i64 0)
    have bN := Boxed.new (w1.alloc (.cells #[.int .i64 0] 3)) 23 (.slice (some ⟨b, off + f, none⟩) pt.length (cap - f))
    rw [World.size_alloc] at bN
    have hB0 : Below w1.heap.size w1 ((w1.alloc (.cells #[.int .i64 0] 3)).alloc (.cells #[.slice (some ⟨b, off + f, none⟩) pt.length (cap - f)] 23)) := ((Below.refl _ w1).alloc (Nat.le_refl _) _).alloc (by simp) _
    refine wpIn_rangeFunc_ownG rfl (by omega) (gf := 82) (lb := #[.pointer (some ⟨w1.heap.size + 1, 0, none⟩)]) rfl trivial (enters_of Try.func82 (by kernel_rfl) rfl)
      (miles_stops 5 (by omega) (w1.heap.size + 1) w1.heap.size _ _ pt hq1 hq2 HPD.out _ bN (by simp; omega) (hpi.below hB0)) KpM.trans (kpM_b (by simp; omega) (by simp)) (Below.refl _ _) (fun _ => rfl)
      (fun pre W => Boxed W w1.heap.size 3 (.int .i64 (sumM pre)) ∧ Below w1.heap.size w1 W)
      (fun _ _ _ => False)
      (OwnFrom.and (Own.from (boxed_own _ _ _) _) (ownFrom_below (Nat.le_refl _) (by simp; omega)))
      (fun _ _ _ _ _ hs _ _ => hs)
      ⟨bS.alloc _, hB0⟩
      (fun x => { tmps := #[.slice (some ⟨b, off, none⟩) xs.length cap, .int .i64 (f : Int), .int .i64 (t : Int), undef, undef, undef, .int .i64 0, .pointer (some ⟨w1.heap.size, 0, none⟩), undef, .int .i64 (needF pt x.1), .slice (some ⟨b, off, none⟩) xs.length cap, .int .i64 (f : Int), .int .i64 (t : Int), .bool true, .bool false,
        .slice (some ⟨b, off, none⟩) xs.length cap, .int .i64 (f : Int), .int .i64 (t : Int), .int .i64 ((t : Int) + 1), .slice (some ⟨b, off + f, none⟩) pt.length (cap - f), .func (.func 82) #[] #[.pointer (some ⟨w1.heap.size + 1, 0, none⟩)], .int .i64 (x.1 : Int), .int .i64 (needF pt x.1), undef, undef, undef, undef], defers := [] })
      ?assign ?body ?done ?stop
    case assign =>
      intro l x W K hK
      gi_wp2
      exact hK
    case body =>
      rintro l pre x W ⟨hS, hB⟩ hlt
      have hc := hS.cell
      have hfz := hS.frozen
      obtain ⟨s1, s2⟩ := sumM_bd HPD.out pre
      obtain ⟨n1, n2⟩ := needF_bd HPD.out x.2
      have hlt' : (pre.length : Int) ≤ 16 := by omega
      gi_wp2
      exact ⟨(KeepsOthers.setCell _ _ _).from _, ⟨(Below.refl _ W).setCell (p := ⟨w1.heap.size, 0, none⟩) (Nat.le_refl _) _, Below.heap_setCell _ _ _ _ (by simp)⟩, by rw [sumM_snoc]; exact hS.set _, hB.setCell (p := ⟨w1.heap.size, 0, none⟩) (Nat.le_refl _) _⟩
    case done =>
      rintro D ys W hD rfl ⟨hS, hB⟩ hK
      have hc := hS.cell
      gi_wp2
      refine ⟨by simp, .inl ⟨_, _, rfl, run_takeDeferred hK, ?_⟩⟩
      refine ⟨_, results_tmp rfl _ _ _, ?_, bt hb1 (hB.trans (belowK_b (w := w1) (Nat.le_refl _) W D _ _ (by simp at hD; omega) hK rfl rfl))⟩
      have := HF.out
      rw [← this, sumM_milesTo _ _ (Nat.le_refl _), ← HPL.out]
      rw [show t - f = t + 1 - f - 1 by omega]
      exact ret_int (sumN_congr (fun j hj => HPN.out j (by have := HPL.out; omega)))
    case stop =>
      rintro D c pre W _ _ h _
      exact h.elim
  · have hp' : ptsOk xs f t = false := by simpa using hp
    have HF := hide (show -1 = floorLen xs f t by simp [floorLen, hp'])
    have H := hide h
    clear h hp
    go_enter Try.func23, Try.ntmps23
    go_wp2_with (go_at_call 66; refine (pointsIn_any _ xs cap f t _ H.out hn).mono ?_; rintro e w1 ⟨rfl, hb1⟩)
    go_ret
    exact ⟨ret_int HF.out, hb1⟩
end Go.Proofs.Ytoelajocacpmgaa
