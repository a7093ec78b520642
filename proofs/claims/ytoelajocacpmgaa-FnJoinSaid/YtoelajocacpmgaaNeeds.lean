/-
  WALKS: what each mile of a floor needs, as a list: the program's.
-/
import Derived.Test.YtoelajocacpmgaaValid
import Derived.Test.YtoelajocacpmgaaInts
import Derived.Test.YtoelajocacpmgaaLength
namespace Go.Proofs.Ytoelajocacpmgaa
set_option linter.unusedVariables false
set_option linter.unusedSimpArgs false
open Go.RowKit Go.Shelf
attribute [local go_sem] Oper.semAt_some

theorem clip_any (A : Option Addr) (n cap : Nat) (w : World) (h : n ≤ cap) (hc : cap ≤ 9223372036854775807) :
    Calls Try.prog 74 #[.slice A n cap] w fun e w' => e = .returned (.slice A n n) ∧ w = w' := by
  go_enter Try.func74, Try.ntmps74
  go_wp2
  go_ret
  exact ⟨rfl, rfl⟩

def needL {xs : List Int} (l : List (Mile xs)) : List Int := l.map fun x => needF xs x.1
theorem needL_snoc {xs : List Int} (l : List (Mile xs)) (x : Mile xs) : needL (l ++ [x]) = needL l ++ [needF xs x.1] := by simp [needL]
theorem needL_milesTo (xs : List Int) (k : Nat) (h : k ≤ xs.length - 1) : needL (milesTo xs k) = upto (needF xs) k := by
  induction k with
  | zero => rfl
  | succ k ih => rw [milesTo_succ (by omega), needL_snoc, ih (by omega), upto_succ]

set_option maxRecDepth 100000 in
set_option maxHeartbeats 2000000 in
theorem needs_any (A : Option Addr) (xs : List Int) (cap : Nat) (w : World) (h : Ints w w.heap.size A xs) (hf : floorOk xs = true) :
    Calls Try.prog 73 #[.slice A xs.length cap] w (RetFresh w (needs xs)) := by
  obtain ⟨hl1, hl2⟩ := floorOk_len hf
  have HD := hide (floorOk_deep hf)
  have H := hide h
  obtain ⟨i0, hi, hz0, hz1, hz2⟩ := info_parts infoInt
  have hmk : ∀ W : World, (Instr.makeSlice 23 (.int .i64 0) (.int .i64 (xs.length : Int))).run Try.prog W = .ok (.slice (some ⟨W.heap.size, 0, none⟩) 0 xs.length) (W.alloc (.cells (zeros xs.length) 3)) := make_ints 0 xs.length (Nat.zero_le _) (by omega)
  clear h hf
  refine (callsIn_wide (n := 6)).1 ?_
  refine callsIn_of_wp_marks Try.func73 rfl trivial ?_ rfl
  simp only [Try.ntmps73, List.size_toArray, List.length_cons, List.length_nil, Nat.reduceAdd, Nat.reduceSub, Array.replicate_succ, Array.replicate_zero, List.push_toArray, List.append_toArray, List.nil_append, List.cons_append]
  gi_wp2_with (refine ⟨trivial, ?_⟩; gi_at_call 61; refine (callsIn_wide.2 (miles_any _ _ _ _)).mono ?_; rintro e w' ⟨rfl, rfl⟩)
  clear hmk
  have bO := (Boxed.new (w.alloc (.cells (zeros xs.length) 3)) 23 (.slice (some ⟨w.heap.size, 0, none⟩) 0 xs.length)).alloc (.cells #[.slice A xs.length cap] 23)
  have bN := Boxed.new ((w.alloc (.cells (zeros xs.length) 3)).alloc (.cells #[.slice (some ⟨w.heap.size, 0, none⟩) 0 xs.length] 23)) 23 (.slice A xs.length cap)
  have hr0 : (((w.alloc (.cells (zeros xs.length) 3)).alloc (.cells #[.slice (some ⟨w.heap.size, 0, none⟩) 0 xs.length] 23)).alloc (.cells #[.slice A xs.length cap] 23)).ownsRow w.heap.size 3 1 (.slice (some ⟨w.heap.size, 0, none⟩) 0 xs.length) 0 [] :=
    ((World.ownsRow_made w (zeros xs.length) xs.length (Nat.le_refl _) (by unfold maxLen; omega) (by rw [zeros_size, Nat.mul_one])).alloc _).alloc _
  rw [World.size_alloc] at bO
  rw [World.size_alloc, World.size_alloc] at bN
  have hB0 : Below w.heap.size w (((w.alloc (.cells (zeros xs.length) 3)).alloc (.cells #[.slice (some ⟨w.heap.size, 0, none⟩) 0 xs.length] 23)).alloc (.cells #[.slice A xs.length cap] 23)) := by go_grown
  refine wpIn_rangeFunc_ownG rfl (by omega) (gf := 82) (lb := #[.pointer (some ⟨w.heap.size + 1 + 1, 0, none⟩)]) rfl trivial (enters_of Try.func82 (by kernel_rfl) rfl)
    (miles_stops 5 (by omega) (w.heap.size + 1 + 1) w.heap.size _ _ xs (by omega) hl2 HD.out _ bN (by simp; omega) (H.out.below hB0)) KpM.trans (kpM_b (by simp; omega) (by simp)) (Below.refl _ _) (fun _ => rfl)
    (fun pre W => ((∃ v, Boxed W (w.heap.size + 1) 23 v ∧ W.ownsRow w.heap.size 3 1 v (needL pre).length ((needL pre).map (Value.int .i64)) ∧ True) ∧ Boxed W (w.heap.size + 1 + 1) 23 (.slice A xs.length cap)) ∧ Below w.heap.size w W)
    (fun _ _ _ => False)
    (OwnFrom.and (OwnFrom.and (Own.from (holdsRow_own w.heap.size (w.heap.size + 1) 23 3 1 (fun pre => (needL pre).length) (fun pre => (needL pre).map (Value.int .i64)) (fun _ _ => True)) _) (Own.from (boxed_own _ _ _) _)) (ownFrom_below (Nat.le_refl _) (by simp; omega)))
    (fun _ _ _ _ _ hs _ _ => hs)
    ⟨⟨⟨_, bO, hr0, trivial⟩, bN⟩, hB0⟩
    (fun x => { tmps := #[.slice A xs.length cap, undef, .slice none 0 0, .pointer (some ⟨w.heap.size + 1, 0, none⟩), undef, .int .i64 (needF xs x.1), .slice A xs.length cap, .int .i64 (xs.length : Int), .slice (some ⟨w.heap.size, 0, none⟩) 0 xs.length, .slice A xs.length cap,
      .func (.func 82) #[] #[.pointer (some ⟨w.heap.size + 1 + 1, 0, none⟩)], .int .i64 (x.1 : Int), .int .i64 (needF xs x.1), undef, undef, undef, undef, undef, undef], defers := [] })
    ?assign ?body ?done ?stop
  case assign =>
    intro l x W K hK
    gi_wp2
    exact hK
  case body =>
    rintro l pre x W ⟨⟨⟨v, hv, hrow, -⟩, hbx⟩, hB⟩ hlt
    have hc := hv.cell
    have hpl : (needL pre).length ≤ 16 := by simp [needL]; omega
    gi_wp2_with (gi_at_builtin; refine wpListIn_append_own _ rfl _ _ 23 rfl w.heap.size 3 i0 (.int .i64 0) 1 8 Try.underlying23 hi hz0 hz1 hz2 rfl (by decide) _ _ _ rfl (hrow.alloc _) ⟨W.heap.size, 0, none⟩ 1 1 [.int .i64 (needF xs x.1)] rfl rfl (cell_one_new _ _ _) (by simp [Value.oneCell']) (by unfold maxLen; omega) (by omega) (by have := hB.size; simp; omega) ?_; intro v' w1 hown' hgrow _; obtain ⟨g', cap', rfl⟩ := ownsRow_succ hown'; obtain ⟨hv1, hv2, hr2, hk2, hb2⟩ := hv.appended (by decide) hrow hB.size (Nat.le_succ _) hown' hgrow; have hc1 := hv1.cell; have hf1 := hv1.frozen)
    have hbx2 := ((hbx.alloc (.cells #[.int .i64 (needF xs x.1)] 3)).kept hgrow (hbx.not_row (by decide) hrow)).kept (grownBy_setCell' w1 (w.heap.size + 1) (.slice (some ⟨g', 0, none⟩) ((needL pre).length + 1) cap')) (by simp)
    exact ⟨hk2.from _, ⟨hb2, hbx2.trans hbx.symm⟩, ⟨⟨_, hv2, by rw [needL_snoc]; simpa using hr2, trivial⟩, hbx2⟩, hB.trans hb2⟩
  case done =>
    rintro D ys W hD rfl ⟨⟨⟨v, hv, hrow, -⟩, hbx⟩, hB⟩ hK
    have hc := hv.cell
    rw [needL_milesTo _ _ (Nat.le_refl _)] at hrow
    have hlen : (upto (needF xs) (xs.length - 1)).length = (xs.length - 2) + 1 := by rw [upto_length]; omega
    rw [hlen] at hrow
    obtain ⟨g, cp, rfl⟩ := ownsRow_succ hrow
    have hcp : xs.length - 2 + 1 ≤ cp ∧ cp ≤ 9223372036854775807 := by
      rcases hrow.2 with ⟨e, _⟩ | ⟨g', cap', cur, e, _, _, hle, hm, _⟩
      · cases e
      · cases e; unfold maxLen at hm; exact ⟨hle, hm⟩
    have HR := hide hrow
    have HL := hide hlen
    clear hrow hlen
    gi_wp2_with (refine ⟨trivial, ?_⟩; gi_at_call 74; refine (callsIn_wide.2 (clip_any _ _ _ _ hcp.1 hcp.2)).mono ?_; rintro e w' ⟨rfl, rfl⟩)
    refine ⟨by simp, .inl ⟨_, _, rfl, run_takeDeferred hK, ?_⟩⟩
    refine ⟨_, results_tmp rfl _ _ _, ?_⟩
    have hfin := ownsRow_putObj HR.out (.deferred none) hK rfl
    have hL := HL.out
    have hfr := Fresh.of_own (xs := needs xs) hfin
    refine ⟨some ⟨g, 0, none⟩, xs.length - 2 + 1, ?_, ?_, by omega, hfr, hB.trans (belowK_b (w := w) (Nat.le_refl _) W D _ _ (by simp at hD; omega) hK rfl rfl)⟩
    · rw [needs_length, show xs.length - 1 = xs.length - 2 + 1 by omega]; rfl
    · rw [needs_length]; omega
  case stop =>
    rintro D c pre W _ _ h _
    exact h.elim
end Go.Proofs.Ytoelajocacpmgaa
