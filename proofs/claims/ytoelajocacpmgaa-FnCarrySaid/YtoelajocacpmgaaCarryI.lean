/-
  WALKS: what can be paid out: the program's.
-/
import Derived.Test.YtoelajocacpmgaaCarry
namespace Go.Proofs.Ytoelajocacpmgaa
set_option linter.unusedVariables false
set_option linter.unusedSimpArgs false
open Go.RowKit Go.Shelf
attribute [local go_sem] Oper.semAt_some

/-- What is left behind some miles, and what has been paid out for them. -/
def leftL {f : List Int} : Int → List (Mile f) → Int
  | a, [] => a
  | a, x :: l => leftL (a - least (needF f x.1) a) l
def carryL {f : List Int} : Int → List (Mile f) → List Int
  | a, [] => []
  | a, x :: l => least (needF f x.1) a :: carryL (a - least (needF f x.1) a) l
theorem leftL_snoc {f : List Int} (x : Mile f) : ∀ (l : List (Mile f)) (a : Int), leftL a (l ++ [x]) = leftL a l - least (needF f x.1) (leftL a l)
  | [], a => rfl
  | y :: l, a => leftL_snoc x l _
theorem carryL_snoc {f : List Int} (x : Mile f) : ∀ (l : List (Mile f)) (a : Int), carryL a (l ++ [x]) = carryL a l ++ [least (needF f x.1) (leftL a l)]
  | [], a => rfl
  | y :: l, a => congrArg (List.cons _) (carryL_snoc x l _)
theorem carryL_len {f : List Int} : ∀ (l : List (Mile f)) (a : Int), (carryL a l).length = l.length
  | [], a => rfl
  | y :: l, a => congrArg (· + 1) (carryL_len l _)
theorem leftL_bd {f : List Int} (hd : Deep f) : ∀ (l : List (Mile f)) (a : Int), 0 ≤ a → a ≤ 1000 → 0 ≤ leftL a l ∧ leftL a l ≤ 1000
  | [], a, h0, h1 => ⟨h0, h1⟩
  | y :: l, a, h0, h1 => by
    have := needF_bd hd (i := y.1) y.2
    refine leftL_bd hd l _ ?_ ?_ <;> unfold least <;> split <;> omega
theorem both_milesTo (f : List Int) (a : Int) (k : Nat) (h : k ≤ f.length - 1) : leftL a (milesTo f k) = leftF f a k ∧ carryL a (milesTo f k) = upto (carryF f a) k := by
  induction k with
  | zero => exact ⟨rfl, rfl⟩
  | succ k ih =>
    obtain ⟨i1, i2⟩ := ih (by omega)
    rw [milesTo_succ (by omega), leftL_snoc, carryL_snoc, i1, i2, upto_succ]
    exact ⟨rfl, rfl⟩

theorem carry_le (f : List Int) (a : Int) : (carry f a).length ≤ f.length := by
  unfold carry; split
  · rw [upto_length]; omega
  · exact Nat.zero_le _

set_option maxRecDepth 100000 in
set_option maxHeartbeats 16000000 in
theorem payCarry_any (A : Option Addr) (f : List Int) (c : Nat) (a : Int) (w : World) (h : Ints w w.heap.size A f) (hn : f.length ≤ 1048576) :
    Calls Try.prog 52 #[.slice A f.length c, .int .i64 a] w (RetList w (carry f a) (carryOk f a)) := by
  have H := hide h
  clear h
  obtain ⟨i0, hi, hz0, hz1, hz2⟩ := info_parts infoInt
  have bA0 := Boxed.new w 3 (.int .i64 a)
  have hA : Below w.heap.size w (w.alloc (.cells #[.int .i64 a] 3)) := (Below.refl _ w).alloc (Nat.le_refl _) _
  by_cases hf : floorOk f = true
  · by_cases ha : inB a 0 1000 = true
    · have hok : carryOk f a = true := by simp [carryOk, hf, ha]
      have HF := hide hf
      have HN := hide (show carry f a = upto (carryF f a) (f.length - 1) by simp [carry, hok])
      obtain ⟨hl1, hl2⟩ := floorOk_len hf
      have HD := hide (floorOk_deep hf)
      obtain ⟨a0, a1⟩ := inB_iff.1 ha
      have HB := hide (fun l => leftL_bd (floorOk_deep hf) l a a0 a1)
      rw [HN.out, hok]
      clear hf hok a0 a1
      have hmk : ∀ W : World, (Instr.makeSlice 23 (.int .i64 0) (.int .i64 ((f.length - 1 : Nat) : Int))).run Try.prog W = .ok (.slice (some ⟨W.heap.size, 0, none⟩) 0 (f.length - 1)) (W.alloc (.cells (zeros (f.length - 1)) 3)) := make_ints 0 (f.length - 1) (Nat.zero_le _) (by omega)
      have hs1 : IntKind.i64.wrap ((f.length : Int) - 1) = ((f.length - 1 : Nat) : Int) := by rw [IntWalk.i64_in _ ⟨by omega, by omega⟩]; omega
      refine (callsIn_wide (n := 6)).1 ?_
      refine callsIn_of_wp_marks Try.func52 rfl trivial ?_ rfl
      simp only [Try.ntmps52, List.size_toArray, List.length_cons, List.length_nil, Nat.reduceAdd, Nat.reduceSub, Array.replicate_succ, Array.replicate_zero, List.push_toArray, List.append_toArray, List.nil_append, List.cons_append]
      gi_wp2_with (first
        | (refine ⟨trivial, ?_⟩; gi_at_call 63; refine (callsIn_wide.2 (floorValid_any _ f _ _ (H.out.next hA) hn)).mono ?_; rintro e w1 ⟨rfl, hb1⟩; rw [HF.out]; have bA1 := bA0.kept (grown_of_below hb1) (by simp); have cA1 := bA1.cell)
        | (refine ⟨trivial, ?_⟩; gi_at_call 79; refine (callsIn_wide.2 (within_any _ _ _ _)).mono ?_; rintro e w' ⟨rfl, rfl⟩; rw [ha])
        | (refine ⟨trivial, ?_⟩; gi_at_call 61; refine (callsIn_wide.2 (miles_any _ _ _ _)).mono ?_; rintro e w' ⟨rfl, rfl⟩))
      have hB1 : Below w.heap.size w w1 := bt hA hb1
      have hsz1 := hb1.size
      rw [World.size_alloc] at hsz1
      clear hmk
      have bA := ((bA1.alloc (.cells (zeros (f.length - 1)) 3)).alloc (.cells #[.slice (some ⟨w1.heap.size, 0, none⟩) 0 (f.length - 1)] 23)).alloc (.cells #[.slice A f.length c] 23)
      have bO := (Boxed.new (w1.alloc (.cells (zeros (f.length - 1)) 3)) 23 (.slice (some ⟨w1.heap.size, 0, none⟩) 0 (f.length - 1))).alloc (.cells #[.slice A f.length c] 23)
      have bN := Boxed.new ((w1.alloc (.cells (zeros (f.length - 1)) 3)).alloc (.cells #[.slice (some ⟨w1.heap.size, 0, none⟩) 0 (f.length - 1)] 23)) 23 (.slice A f.length c)
      have hr0 : (((w1.alloc (.cells (zeros (f.length - 1)) 3)).alloc (.cells #[.slice (some ⟨w1.heap.size, 0, none⟩) 0 (f.length - 1)] 23)).alloc (.cells #[.slice A f.length c] 23)).ownsRow w1.heap.size 3 1 (.slice (some ⟨w1.heap.size, 0, none⟩) 0 (f.length - 1)) 0 [] :=
        ((World.ownsRow_made w1 (zeros (f.length - 1)) (f.length - 1) (Nat.le_refl _) (by unfold maxLen; omega) (by rw [zeros_size, Nat.mul_one])).alloc _).alloc _
      rw [World.size_alloc] at bO
      rw [World.size_alloc, World.size_alloc] at bN
      have hB0 : Below w.heap.size w (((w1.alloc (.cells (zeros (f.length - 1)) 3)).alloc (.cells #[.slice (some ⟨w1.heap.size, 0, none⟩) 0 (f.length - 1)] 23)).alloc (.cells #[.slice A f.length c] 23)) := ((hB1.alloc (by omega) _).alloc (by simp; omega) _).alloc (by simp; omega) _
      refine wpIn_rangeFunc_ownG rfl (by omega) (gf := 82) (lb := #[.pointer (some ⟨w1.heap.size + 1 + 1, 0, none⟩)]) rfl trivial (enters_of Try.func82 (by kernel_rfl) rfl)
        (miles_stops 5 (by omega) (w1.heap.size + 1 + 1) w.heap.size _ _ f (by omega) hl2 HD.out _ bN (by simp; omega) (H.out.below hB0)) KpM.trans (kpM_b (by simp; omega) (by simp)) (Below.refl _ _) (fun _ => rfl)
        (fun pre W => (((∃ v, Boxed W (w1.heap.size + 1) 23 v ∧ W.ownsRow w1.heap.size 3 1 v (carryL a pre).length ((carryL a pre).map (Value.int .i64)) ∧ True) ∧ Boxed W (w1.heap.size + 1 + 1) 23 (.slice A f.length c)) ∧ Boxed W w.heap.size 3 (.int .i64 (leftL a pre))) ∧ Below w.heap.size w W)
        (fun _ _ _ => False)
        (OwnFrom.and (OwnFrom.and (OwnFrom.and (Own.from (holdsRow_own w1.heap.size (w1.heap.size + 1) 23 3 1 (fun pre => (carryL a pre).length) (fun pre => (carryL a pre).map (Value.int .i64)) (fun _ _ => True)) _) (Own.from (boxed_own _ _ _) _)) (Own.from (boxed_own _ _ _) _)) (ownFrom_below (Nat.le_refl _) (by simp; omega)))
        (fun _ _ _ _ _ hs _ _ => hs)
        ⟨⟨⟨⟨_, bO, hr0, trivial⟩, bN⟩, bA⟩, hB0⟩
        (fun x => { tmps := #[.slice A f.length c, .int .i64 a, undef, .pointer (some ⟨w.heap.size, 0, none⟩), .slice none 0 0, .bool false, .pointer (some ⟨w1.heap.size + 1, 0, none⟩), undef, .int .i64 (needF f x.1), .slice A f.length c, .bool true, .bool false, .bool false, .int .i64 a, .bool true, .bool false, .bool false,
          .slice A f.length c, .int .i64 (f.length : Int), .int .i64 ((f.length - 1 : Nat) : Int), .slice (some ⟨w1.heap.size, 0, none⟩) 0 (f.length - 1), .slice A f.length c, .func (.func 82) #[] #[.pointer (some ⟨w1.heap.size + 1 + 1, 0, none⟩)], .int .i64 (x.1 : Int), .int .i64 (needF f x.1), undef, undef, undef, undef, undef, undef, undef, undef, undef, undef, undef, undef], defers := [] })
        ?assign ?body ?done ?stop
      case assign =>
        intro l x W K hK
        gi_wp2
        exact hK
      case body =>
        rintro l pre x W ⟨⟨⟨⟨v, hv, hrow, -⟩, hbx⟩, hba⟩, hB⟩ hlt
        have hc := hv.cell
        have hac := hba.cell
        have haf := hba.frozen
        have hpl : (carryL a pre).length ≤ 16 := by rw [carryL_len]; omega
        obtain ⟨n1, n2⟩ := needF_bd HD.out (i := x.1) x.2
        obtain ⟨b1, b2⟩ := HB.out pre
        have HS := hide (leftL_snoc x pre a)
        have HC := hide (carryL_snoc x pre a)
        have hsz1' : w.heap.size ≤ w1.heap.size := by omega
        by_cases hm : needF f x.1 ≤ leftL a pre
        · have HM := hide (least_l hm)
          gi_wp2_with (gi_at_builtin; refine wpListIn_append_own _ rfl _ _ 23 rfl w1.heap.size 3 i0 (.int .i64 0) 1 8 Try.underlying23 hi hz0 hz1 hz2 rfl (by decide) _ _ _ rfl (hrow.alloc _) ⟨W.heap.size, 0, none⟩ 1 1 [.int .i64 (needF f x.1)] rfl rfl (cell_one_new _ _ _) (by simp [Value.oneCell']) (by unfold maxLen; omega) (by omega) (by have := hbx.lt; simp; omega) ?_; intro v' w2 hown' hgrow _; obtain ⟨g', cap', rfl⟩ := ownsRow_succ hown'; obtain ⟨hv1, hv2, hr2, hk2, hb2⟩ := hv.appended (by decide) hrow (by have := hbx.lt; omega) (Nat.le_succ _) hown' hgrow; have hc1 := hv1.cell; have hf1 := hv1.frozen; have hba1 := (hba.alloc (.cells #[.int .i64 (needF f x.1)] 3)).kept hgrow (fun e => by have := (hrow.lt _ e.symm).1; omega); have hba2 := hba1.kept (grownBy_setCell' w2 (w1.heap.size + 1) (.slice (some ⟨g', 0, none⟩) ((carryL a pre).length + 1) cap')) (by simp; omega); have ha1 := hba1.cell; have ha2 := hba2.cell; have ha3 := hba2.frozen)
          have hbx2 := ((hbx.alloc (.cells #[.int .i64 (needF f x.1)] 3)).kept hgrow (hbx.not_row (by decide) hrow)).kept (grownBy_setCell' w2 (w1.heap.size + 1) (.slice (some ⟨g', 0, none⟩) ((carryL a pre).length + 1) cap')) (by simp)
          have hg' := (hr2.lt g' rfl).1
          have hba3 := hba2.set (.int .i64 (leftL a pre - needF f x.1))
          have hv3 := hv2.other (B' := w.heap.size) (by omega) (.int .i64 (leftL a pre - needF f x.1))
          have hbx3 := hbx2.other (B' := w.heap.size) (by omega) (.int .i64 (leftL a pre - needF f x.1))
          have hr3 := hr2.kept (grownBy_setCell' _ w.heap.size (.int .i64 (leftL a pre - needF f x.1))) (.inr (by simp [Value.ownBlock]; omega))
          have hB3 := (hb2.mono hsz1').setCell (p := ⟨w.heap.size, 0, none⟩) (Nat.le_refl _) (.int .i64 (leftL a pre - needF f x.1))
          have hk3 := hk2.trans (KeepsOthers.setCell _ ⟨w.heap.size, 0, none⟩ (.int .i64 (leftL a pre - needF f x.1)))
          have e1 : leftL a (pre ++ [x]) = leftL a pre - needF f x.1 := by rw [HS.out, HM.out]
          have e2 : carryL a (pre ++ [x]) = carryL a pre ++ [needF f x.1] := by rw [HC.out, HM.out]
          have hr4 : ((w2.setCell ⟨w1.heap.size + 1, 0, none⟩ (.slice (some ⟨g', 0, none⟩) ((carryL a pre).length + 1) cap')).setCell ⟨w.heap.size, 0, none⟩ (.int .i64 (leftL a pre - needF f x.1))).ownsRow w1.heap.size 3 1 (.slice (some ⟨g', 0, none⟩) ((carryL a pre).length + 1) cap') (carryL a (pre ++ [x])).length ((carryL a (pre ++ [x])).map (Value.int .i64)) := by rw [e2]; simpa using hr3
          try simp only [Int.sub_self] at hB3 hv3 hbx3 hba3 hk3 hr4 e1
          first
            | exact ⟨hk3.from _, ⟨hB3, hbx3.trans hbx.symm⟩, ⟨⟨⟨_, hv3, hr4, trivial⟩, hbx3⟩, by rw [e1]; exact hba3⟩, hB.trans hB3⟩
            | exact ⟨hk3.from _, ⟨hB3, hbx3.trans hbx.symm⟩, ⟨⟨⟨_, hv3, hr4⟩, hbx3⟩, by rw [e1]; exact hba3⟩, hB.trans hB3⟩
        · have HM := hide (least_r hm)
          gi_wp2_with (gi_at_builtin; refine wpListIn_append_own _ rfl _ _ 23 rfl w1.heap.size 3 i0 (.int .i64 0) 1 8 Try.underlying23 hi hz0 hz1 hz2 rfl (by decide) _ _ _ rfl (hrow.alloc _) ⟨W.heap.size, 0, none⟩ 1 1 [.int .i64 (leftL a pre)] rfl rfl (cell_one_new _ _ _) (by simp [Value.oneCell']) (by unfold maxLen; omega) (by omega) (by have := hbx.lt; simp; omega) ?_; intro v' w2 hown' hgrow _; obtain ⟨g', cap', rfl⟩ := ownsRow_succ hown'; obtain ⟨hv1, hv2, hr2, hk2, hb2⟩ := hv.appended (by decide) hrow (by have := hbx.lt; omega) (Nat.le_succ _) hown' hgrow; have hc1 := hv1.cell; have hf1 := hv1.frozen; have hba1 := (hba.alloc (.cells #[.int .i64 (leftL a pre)] 3)).kept hgrow (fun e => by have := (hrow.lt _ e.symm).1; omega); have hba2 := hba1.kept (grownBy_setCell' w2 (w1.heap.size + 1) (.slice (some ⟨g', 0, none⟩) ((carryL a pre).length + 1) cap')) (by simp; omega); have ha1 := hba1.cell; have ha2 := hba2.cell; have ha3 := hba2.frozen)
          have hbx2 := ((hbx.alloc (.cells #[.int .i64 (leftL a pre)] 3)).kept hgrow (hbx.not_row (by decide) hrow)).kept (grownBy_setCell' w2 (w1.heap.size + 1) (.slice (some ⟨g', 0, none⟩) ((carryL a pre).length + 1) cap')) (by simp)
          have hg' := (hr2.lt g' rfl).1
          have hba3 := hba2.set (.int .i64 (leftL a pre - leftL a pre))
          have hv3 := hv2.other (B' := w.heap.size) (by omega) (.int .i64 (leftL a pre - leftL a pre))
          have hbx3 := hbx2.other (B' := w.heap.size) (by omega) (.int .i64 (leftL a pre - leftL a pre))
          have hr3 := hr2.kept (grownBy_setCell' _ w.heap.size (.int .i64 (leftL a pre - leftL a pre))) (.inr (by simp [Value.ownBlock]; omega))
          have hB3 := (hb2.mono hsz1').setCell (p := ⟨w.heap.size, 0, none⟩) (Nat.le_refl _) (.int .i64 (leftL a pre - leftL a pre))
          have hk3 := hk2.trans (KeepsOthers.setCell _ ⟨w.heap.size, 0, none⟩ (.int .i64 (leftL a pre - leftL a pre)))
          have e1 : leftL a (pre ++ [x]) = leftL a pre - leftL a pre := by rw [HS.out, HM.out]
          have e2 : carryL a (pre ++ [x]) = carryL a pre ++ [leftL a pre] := by rw [HC.out, HM.out]
          have hr4 : ((w2.setCell ⟨w1.heap.size + 1, 0, none⟩ (.slice (some ⟨g', 0, none⟩) ((carryL a pre).length + 1) cap')).setCell ⟨w.heap.size, 0, none⟩ (.int .i64 (leftL a pre - leftL a pre))).ownsRow w1.heap.size 3 1 (.slice (some ⟨g', 0, none⟩) ((carryL a pre).length + 1) cap') (carryL a (pre ++ [x])).length ((carryL a (pre ++ [x])).map (Value.int .i64)) := by rw [e2]; simpa using hr3
          try simp only [Int.sub_self] at hB3 hv3 hbx3 hba3 hk3 hr4 e1
          first
            | exact ⟨hk3.from _, ⟨hB3, hbx3.trans hbx.symm⟩, ⟨⟨⟨_, hv3, hr4, trivial⟩, hbx3⟩, by rw [e1]; exact hba3⟩, hB.trans hB3⟩
            | exact ⟨hk3.from _, ⟨hB3, hbx3.trans hbx.symm⟩, ⟨⟨⟨_, hv3, hr4⟩, hbx3⟩, by rw [e1]; exact hba3⟩, hB.trans hB3⟩
      case done =>
        rintro D ys W hD rfl ⟨⟨⟨⟨v, hv, hrow, -⟩, hbx⟩, hba⟩, hB⟩ hK
        have hc := hv.cell
        rw [(both_milesTo f a _ (Nat.le_refl _)).2] at hrow
        obtain ⟨A2, c2, rfl, g1, g2⟩ := own_form hrow
        have HR := hide hrow
        clear hrow
        gi_wp2
        refine ⟨by simp, .inl ⟨_, _, rfl, run_takeDeferred hK, ?_⟩⟩
        refine ⟨_, results_tmp2 rfl _ _ _, ?_⟩
        have hfin := ownsRow_putObj HR.out (.deferred none) hK rfl
        have hfr := Fresh.of_own (xs := upto (carryF f a) (f.length - 1)) hfin
        unfold maxLen at g2
        exact ⟨A2, c2, rfl, g1, by omega, hfr.mono (by omega) (Nat.le_refl _), hB.trans (belowK_b (w := w) (Nat.le_refl _) W D _ _ (by simp at hD; omega) hK rfl rfl)⟩
      case stop =>
        rintro D c pre W _ _ h _
        exact h.elim
    · have ha' : inB a 0 1000 = false := by simpa using ha
      have hok : carryOk f a = false := by simp [carryOk, ha']
      have HN := hide (show carry f a = [] by simp [carry, hok])
      have HF := hide hf
      rw [HN.out, hok]
      clear hf ha hok
      go_enter Try.func52, Try.ntmps52
      go_wp2_with (first | (go_at_call 63; refine (floorValid_any _ f _ _ (H.out.next hA) hn).mono ?_; rintro e w1 ⟨rfl, hb1⟩; rw [HF.out]; have bA1 := bA0.kept (grown_of_below hb1) (by simp); have cA1 := bA1.cell) | (go_at_call 79; refine (within_any _ _ _ _).mono ?_; rintro e w' ⟨rfl, rfl⟩; rw [ha']))
      go_ret2
      exact RetList.nil (bt hA hb1)
  · have hf' : floorOk f = false := by simpa using hf
    have hok : carryOk f a = false := by simp [carryOk, hf']
    have HN := hide (show carry f a = [] by simp [carry, hok])
    have HF := hide hf'
    rw [HN.out, hok]
    clear hf hf' hok
    go_enter Try.func52, Try.ntmps52
    go_wp2_with (go_at_call 63; refine (floorValid_any _ f _ _ (H.out.next hA) hn).mono ?_; rintro e w1 ⟨rfl, hb1⟩; rw [HF.out])
    go_ret2
    exact RetList.nil (bt hA hb1)
end Go.Proofs.Ytoelajocacpmgaa
