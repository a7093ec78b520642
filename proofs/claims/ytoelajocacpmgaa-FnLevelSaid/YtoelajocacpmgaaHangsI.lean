/-
  WALKS: the miles that hang: the program's.
-/
import Derived.Test.YtoelajocacpmgaaHangs
namespace Go.Proofs.Ytoelajocacpmgaa
set_option linter.unusedVariables false
set_option linter.unusedSimpArgs false
open Go.RowKit Go.Shelf
attribute [local go_sem] Oper.semAt_some

/-- What some miles hang. -/
def hangL {f : List Int} (p : List Int) : List (Mile f) → List Int
  | [] => []
  | x :: l => if at0 p x.1 < needF f x.1 then (x.1 : Int) :: hangL p l else hangL p l
theorem hangL_snoc {f : List Int} (p : List Int) (l : List (Mile f)) (x : Mile f) : hangL p (l ++ [x]) = if at0 p x.1 < needF f x.1 then hangL p l ++ [(x.1 : Int)] else hangL p l := by
  induction l with
  | nil => by_cases h : at0 p x.1 < needF f x.1 <;> simp [hangL, h]
  | cons y l ih => by_cases h : at0 p x.1 < needF f x.1 <;> by_cases h' : at0 p y.1 < needF f y.1 <;> simp [hangL, h, h'] at ih ⊢ <;> exact ih
theorem hangL_le {f : List Int} (p : List Int) (l : List (Mile f)) : (hangL p l).length ≤ l.length := by
  induction l with
  | nil => simp [hangL]
  | cons y l ih => unfold hangL; split <;> simp <;> omega
theorem hangL_milesTo (f p : List Int) (k : Nat) (h : k ≤ f.length - 1) : hangL p (milesTo f k) = hangTo f p k := by
  induction k with
  | zero => rfl
  | succ k ih => rw [milesTo_succ (by omega), hangL_snoc, ih (by omega)]; rfl

set_option maxRecDepth 100000 in
set_option maxHeartbeats 16000000 in
theorem payHangs_any (A A' : Option Addr) (f p : List Int) (c c' : Nat) (w : World) (h : Ints w w.heap.size A f) (h' : Ints w w.heap.size A' p) (hn : f.length ≤ 1048576) (hn' : p.length ≤ 1048576) :
    Calls Try.prog 21 #[.slice A f.length c, .slice A' p.length c'] w (RetFresh w (hangs f p)) := by
  have H := hide h
  have H' := hide h'
  clear h h'
  obtain ⟨i0, hi, hz0, hz1, hz2⟩ := info_parts infoInt
  by_cases hp : payOk f p = true
  · have HP := hide hp
    have HF := hide (show hangs f p = hangTo f p p.length by simp [hangs, hp])
    obtain ⟨h1, ⟨h2a, h2b⟩, h3, h4⟩ := payOk_deep hp
    have HD := hide h1
    have H4 := hide h4
    have hq1 : 0 < p.length := by omega
    have hq2 : p.length ≤ 15 := by omega
    have HL := hide h3
    clear hp h1 h4 h3
    rw [HF.out]
    obtain ⟨b, off, rfl, hb, hc⟩ := H'.out hq1
    have HC := hide hc
    clear hc
    refine (callsIn_wide (n := 6)).1 ?_
    refine callsIn_of_wp_marks Try.func21 rfl trivial ?_ rfl
    simp only [Try.ntmps21, List.size_toArray, List.length_cons, List.length_nil, Nat.reduceAdd, Nat.reduceSub, Array.replicate_succ, Array.replicate_zero, List.push_toArray, List.append_toArray, List.nil_append, List.cons_append]
    have bP0 := Boxed.new w 23 (.slice (some ⟨b, off, none⟩) p.length c')
    have hA : Below w.heap.size w (w.alloc (.cells #[.slice (some ⟨b, off, none⟩) p.length c'] 23)) := (Below.refl _ w).alloc (Nat.le_refl _) _
    have hV : ∀ W, Below w.heap.size w W → Calls Try.prog 42 #[.slice A f.length c, .slice (some ⟨b, off, none⟩) p.length c'] W fun e w' => e = .returned (.bool true) ∧ Below W.heap.size W w' := fun W hb => by
      have := payValid_any A _ f p c c' W ((H.out.below hb).mono hb.size) ((H'.out.below hb).mono hb.size) hn hn'
      rw [HP.out] at this
      exact this
    have HV := hide hV
    clear hV
    gi_wp2_with fail
    have hsz : (w.alloc (.cells #[.slice (some ⟨b, off, none⟩) p.length c'] 23)).heap.size = w.heap.size + 1 := World.size_alloc _ _
    generalize w.alloc (.cells #[.slice (some ⟨b, off, none⟩) p.length c'] 23) = wp at *
    have bO0 := Boxed.new (wp.alloc (.cells #[] 3)) 23 (.slice (some ⟨w.heap.size + 1, 0, none⟩) 0 0)
    have hr0 : ((wp.alloc (.cells #[] 3)).alloc (.cells #[.slice (some ⟨w.heap.size + 1, 0, none⟩) 0 0] 23)).ownsRow (w.heap.size + 1) 3 1 (.slice (some ⟨w.heap.size + 1, 0, none⟩) 0 0) 0 [] := by
      rw [← hsz]; exact (World.ownsRow_made wp #[] 0 (Nat.le_refl _) (Nat.zero_le _) rfl).alloc _
    have hB1 : Below wp.heap.size wp ((wp.alloc (.cells #[] 3)).alloc (.cells #[.slice (some ⟨w.heap.size + 1, 0, none⟩) 0 0] 23)) := by go_grown
    rw [World.size_alloc, hsz] at bO0
    rw [hsz] at hB1
    have hsz2 : ((wp.alloc (.cells #[] 3)).alloc (.cells #[.slice (some ⟨w.heap.size + 1, 0, none⟩) 0 0] 23)).heap.size = w.heap.size + 3 := by rw [World.size_alloc, World.size_alloc, hsz]
    refine ⟨trivial, ?_⟩
    gi_at_call 42
    refine (callsIn_wide.2 (HV.out _ (hA.trans (hB1.mono (by omega))))).mono ?_
    rintro e w1 ⟨rfl, hb1⟩
    have hr1 := hr0.kept (grown_of_below hb1) (Classical.em _)
    have bO1 := bO0.kept (grown_of_below hb1) (by simp)
    have hbb1 := hb1.size
    rw [hsz2] at hb1 hbb1
    replace hB1 : Below (w.heap.size + 1) wp w1 := hB1.trans (hb1.mono (by omega))
    clear hr0 bO0 hsz2 hb1
    gi_wp2_with (refine ⟨trivial, ?_⟩; gi_at_call 61; refine (callsIn_wide.2 (miles_any _ _ _ _)).mono ?_; rintro e w' ⟨rfl, rfl⟩)
    have bO := bO1.alloc (.cells #[.slice A f.length c] 23)
    have bN := Boxed.new w1 23 (.slice A f.length c)
    have hr := hr1.alloc (.cells #[.slice A f.length c] 23)
    have hB0 : Below (w.heap.size + 1) wp (w1.alloc (.cells #[.slice A f.length c] 23)) := hB1.alloc (by omega) _
    clear hr1 bO1 hB1
    refine wpIn_rangeFunc_ownG rfl (by omega) (gf := 82) (lb := #[.pointer (some ⟨w1.heap.size, 0, none⟩)]) rfl trivial (enters_of Try.func82 (by kernel_rfl) rfl)
      (miles_stops 5 (by omega) w1.heap.size (w.heap.size + 1) _ _ f (by omega) h2b HD.out _ bN (by simp; omega) (((H.out.below (hA.trans (hB0.mono (by omega)))).mono (by omega)))) KpM.trans (kpM_b (by simp; omega) (by simp)) (Below.refl _ _) (fun _ => rfl)
      (fun pre W => ((∃ v, Boxed W (w.heap.size + 1 + 1) 23 v ∧ W.ownsRow (w.heap.size + 1) 3 1 v (hangL p pre).length ((hangL p pre).map (Value.int .i64)) ∧ True) ∧ Boxed W w1.heap.size 23 (.slice A f.length c)) ∧ Below (w.heap.size + 1) wp W)
      (fun _ _ _ => False)
      (OwnFrom.and (OwnFrom.and (Own.from (holdsRow_own (w.heap.size + 1) (w.heap.size + 1 + 1) 23 3 1 (fun pre => (hangL p pre).length) (fun pre => (hangL p pre).map (Value.int .i64)) (fun _ _ => True)) _) (Own.from (boxed_own _ _ _) _)) (ownFrom_below (by omega) (by simp; omega)))
      (fun _ _ _ _ _ hs _ _ => hs)
      ⟨⟨⟨_, bO, hr, trivial⟩, bN⟩, hB0⟩
      (fun x => { tmps := #[.slice A f.length c, .slice (some ⟨b, off, none⟩) p.length c', undef, .pointer (some ⟨w.heap.size, 0, none⟩), .slice none 0 0, .pointer (some ⟨w.heap.size + 1 + 1, 0, none⟩), .int .i64 (x.1 : Int), .int .i64 (needF f x.1), .slice (some ⟨w.heap.size + 1, 0, none⟩) 0 0, .slice A f.length c, .slice (some ⟨b, off, none⟩) p.length c', .bool true, .bool false, undef,
        .slice A f.length c, .func (.func 82) #[] #[.pointer (some ⟨w1.heap.size, 0, none⟩)], .int .i64 (x.1 : Int), .int .i64 (needF f x.1), undef, undef, undef, undef, undef, undef, undef, undef, undef, undef, undef], defers := [] })
      ?assign ?body ?done ?stop
    case assign =>
      intro l x W K hK
      gi_wp2
      exact hK
    case body =>
      rintro l pre x W ⟨⟨⟨v, hv, hrow, -⟩, hbx⟩, hB⟩ hlt
      have hc := hv.cell
      have hx := x.2
      have hxp : x.1 < p.length := by have := HL.out; omega
      have hP1 : Boxed W w.heap.size 23 (.slice (some ⟨b, off, none⟩) p.length c') := (hB.block _ (by omega)).trans bP0
      have hPc := hP1.cell
      have hpl : (hangL p pre).length ≤ 16 := by have := hangL_le p pre; omega
      obtain ⟨n1, n2⟩ := needF_bd HD.out (i := x.1) x.2
      obtain ⟨v1, v2⟩ := H4.out x.1 hxp
      have c1 : W.cell? ⟨b, off + x.1, none⟩ = some (.int .i64 (at0 p x.1)) := ((hA.trans (hB.mono (by omega))).cell (p := ⟨b, off + x.1, none⟩) hb).trans (HC.out x.1 hxp)
      have HS := hide (hangL_snoc p pre x)
      have q1 : (x.1 : Int) < (p.length : Int) := by omega
      have q2 : (0 : Int) ≤ (x.1 : Int) := by omega
      by_cases hh : at0 p x.1 < needF f x.1
      · have HT : Hid (hangL p (pre ++ [x]) = hangL p pre ++ [(x.1 : Int)]) := HS.out.trans (if_pos hh)
        gi_wp2_with (gi_at_builtin; refine wpListIn_append_own _ rfl _ _ 23 rfl (w.heap.size + 1) 3 i0 (.int .i64 0) 1 8 Try.underlying23 hi hz0 hz1 hz2 rfl (by decide) _ _ _ rfl (hrow.alloc _) ⟨W.heap.size, 0, none⟩ 1 1 [.int .i64 (x.1 : Int)] rfl rfl (cell_one_new _ _ _) (by simp [Value.oneCell']) (by unfold maxLen; omega) (by omega) (by have := hB.size; simp; omega) ?_; intro v' w2 hown' hgrow _; obtain ⟨g', cap', rfl⟩ := ownsRow_succ hown'; obtain ⟨hv1, hv2, hr2, hk2, hb2⟩ := hv.appended (by decide) hrow (by have := hB.size; omega) (Nat.le_succ _) hown' hgrow; have hc1 := hv1.cell; have hf1 := hv1.frozen)
        have hbx2 := ((hbx.alloc (.cells #[.int .i64 (x.1 : Int)] 3)).kept hgrow (hbx.not_row (by decide) hrow)).kept (grownBy_setCell' w2 (w.heap.size + 1 + 1) (.slice (some ⟨g', 0, none⟩) ((hangL p pre).length + 1) cap')) (by simp; omega)
        exact ⟨hk2.from _, ⟨hb2, hbx2.trans hbx.symm⟩, ⟨⟨_, hv2, by rw [HT.out]; simpa using hr2, trivial⟩, hbx2⟩, hB.trans hb2⟩
      · have HT : Hid (hangL p (pre ++ [x]) = hangL p pre) := HS.out.trans (if_neg hh)
        gi_wp2
        exact ⟨(KeepsOthers.refl _).from _, KpM.refl _ _ _, ⟨⟨_, hv, by rw [HT.out]; exact hrow⟩, hbx⟩, hB⟩
    case done =>
      rintro D ys W hD rfl ⟨⟨⟨v, hv, hrow, -⟩, hbx⟩, hB⟩ hK
      have hc := hv.cell
      rw [hangL_milesTo _ _ _ (Nat.le_refl _), ← HL.out, Nat.add_sub_cancel] at hrow
      obtain ⟨A2, c2, rfl, g1, g2⟩ := own_form hrow
      have HR := hide hrow
      clear hrow
      gi_wp2
      refine ⟨by simp, .inl ⟨_, _, rfl, run_takeDeferred hK, ?_⟩⟩
      refine ⟨_, results_tmp rfl _ _ _, ?_⟩
      have hfin := ownsRow_putObj HR.out (.deferred none) hK rfl
      have hfr := Fresh.of_own (xs := hangTo f p p.length) hfin
      unfold maxLen at g2
      exact RetFresh.of g1 (by omega) (hfr.mono (by omega) (Nat.le_refl _)) (hA.trans ((hB.mono (by omega)).trans (belowK_b (w := w) (Nat.le_refl _) W D _ _ (by simp at hD; omega) hK rfl rfl)))
    case stop =>
      rintro D c pre W _ _ h _
      exact h.elim
  · have hp' : payOk f p = false := by simpa using hp
    have HF := hide (show hangs f p = [] by simp [hangs, hp'])
    clear hp
    rw [HF.out]
    have hV : ∀ W, Below w.heap.size w W → Calls Try.prog 42 #[.slice A f.length c, .slice A' p.length c'] W fun e w' => e = .returned (.bool false) ∧ Below W.heap.size W w' := fun W hb => by
      have := payValid_any A A' f p c c' W ((H.out.below hb).mono hb.size) ((H'.out.below hb).mono hb.size) hn hn'
      rw [hp'] at this
      exact this
    have HV := hide hV
    clear hV
    go_enter Try.func21, Try.ntmps21
    have hA : Below w.heap.size w (((w.alloc (.cells #[.slice A' p.length c'] 23)).alloc (.cells #[] 3)).alloc (.cells #[.slice (some ⟨w.heap.size + 1, 0, none⟩) 0 0] 23)) := by go_grown
    have HA := hide hA
    have bO := Boxed.new ((w.alloc (.cells #[.slice A' p.length c'] 23)).alloc (.cells #[] 3)) 23 (.slice (some ⟨w.heap.size + 1, 0, none⟩) 0 0)
    rw [World.size_alloc, World.size_alloc] at bO
    clear hA
    go_wp2_with (go_at_call 42; refine (HV.out _ HA.out).mono ?_; rintro e w1 ⟨rfl, hb1⟩; have hc := (bO.kept (grown_of_below hb1) (by simp)).cell)
    go_ret
    exact ⟨_, 0, rfl, Nat.le_refl _, by omega, Fresh.nil _ _ _ _, bt HA.out hb1⟩
end Go.Proofs.Ytoelajocacpmgaa
