/-
  WALKS: the slack of a pay-out: the program's.
-/
import Derived.Test.YtoelajocacpmgaaSlack
namespace Go.Proofs.Ytoelajocacpmgaa
set_option linter.unusedVariables false
set_option linter.unusedSimpArgs false
open Go.RowKit Go.Shelf
attribute [local go_sem] Oper.semAt_some

/-- What some miles add up to, by a number of each. -/
def sumG {xs : List Int} (g : Nat → Int) (l : List (Mile xs)) : Int := (l.map fun x => g x.1).sum
theorem sumG_snoc {xs : List Int} (g : Nat → Int) (l : List (Mile xs)) (x : Mile xs) : sumG g (l ++ [x]) = sumG g l + g x.1 := by simp [sumG]
theorem sumG_bd {xs : List Int} {g : Nat → Int} {hi : Nat} (hg : ∀ i, i + 1 < xs.length → 0 ≤ g i ∧ g i ≤ hi) (l : List (Mile xs)) : 0 ≤ sumG g l ∧ sumG g l ≤ hi * l.length := by
  induction l with
  | nil => simp [sumG]
  | cons x l ih =>
    have := hg x.1 x.2
    have e : sumG g (x :: l) = g x.1 + sumG g l := by simp [sumG]
    rw [e]
    simp only [List.length_cons, Int.natCast_succ, Int.mul_add, Int.mul_one]
    omega
theorem sumG_milesTo (xs : List Int) (g : Nat → Int) (k : Nat) (h : k ≤ xs.length - 1) : sumG g (milesTo xs k) = sumN g k := by
  induction k with
  | zero => rfl
  | succ k ih => rw [milesTo_succ (by omega), sumG_snoc, ih (by omega)]; rfl

theorem keeps_drew {W W' : World} (h : KeepsOthers W W') : KeepsOthers W W'.drew := ⟨h.size, h.same⟩
theorem boxed_drew {W : World} {B : Nat} {t : TypeId} {v : Value} (h : Boxed W B t v) : Boxed W.drew B t v := h

set_option maxRecDepth 100000 in
set_option maxHeartbeats 16000000 in
theorem paySlack_any (A A' : Option Addr) (f p : List Int) (c c' : Nat) (w : World) (h : Ints w w.heap.size A f) (h' : Ints w w.heap.size A' p) (hn : f.length ≤ 1048576) (hn' : p.length ≤ 1048576) :
    Calls Try.prog 17 #[.slice A f.length c, .slice A' p.length c'] w fun e w' => e = .returned (.int .i64 (slack f p)) ∧ Below w.heap.size w w' := by
  have H := hide h
  have H' := hide h'
  clear h h'
  by_cases hp : payOk f p = true
  · have HP := hide hp
    have HF := hide (show sumN (slackF f p) p.length = slack f p by simp [slack, hp])
    obtain ⟨h1, ⟨h2a, h2b⟩, h3, h4⟩ := payOk_deep hp
    have HD := hide h1
    have H4 := hide h4
    have HG := hide (fun i (hi : i + 1 < f.length) => slackF_bd hp (i := i) (by omega))
    have hq1 : 0 < p.length := by omega
    have hq2 : p.length ≤ 15 := by omega
    have HL := hide h3
    clear hp h1 h4 h3
    obtain ⟨b, off, rfl, hb, hc⟩ := H'.out hq1
    have HC := hide hc
    clear hc
    refine (callsIn_wide (n := 6)).1 ?_
    refine callsIn_of_wp_marks Try.func17 rfl trivial ?_ rfl
    simp only [Try.ntmps17, List.size_toArray, List.length_cons, List.length_nil, Nat.reduceAdd, Nat.reduceSub, Array.replicate_succ, Array.replicate_zero, List.push_toArray, List.append_toArray, List.nil_append, List.cons_append]
    have bP0 := Boxed.new w 23 (.slice (some ⟨b, off, none⟩) p.length c')
    have hA : Below w.heap.size w (w.alloc (.cells #[.slice (some ⟨b, off, none⟩) p.length c'] 23)) := (Below.refl _ w).alloc (Nat.le_refl _) _
    have hAsz : w.heap.size < (w.alloc (.cells #[.slice (some ⟨b, off, none⟩) p.length c'] 23)).heap.size := by simp
    gi_wp2_with (first
      | (refine ⟨trivial, ?_⟩; gi_at_call 42; refine (callsIn_wide.2 (payValid_any _ _ f p _ _ _ (H.out.next hA) (H'.out.next hA) hn hn')).mono ?_; rintro e w1 ⟨rfl, hb1⟩; rw [HP.out]; have bP := (hb1.block _ bP0.lt).trans bP0)
      | (refine ⟨trivial, ?_⟩; gi_at_call 61; refine (callsIn_wide.2 (miles_any _ _ _ _)).mono ?_; rintro e w' ⟨rfl, rfl⟩))
    have hB1 : Below w.heap.size w w1 := bt hA hb1
    have bS := Boxed.new w1 3 (.int .i64 0)
    have bN := Boxed.new (w1.alloc (.cells #[.int .i64 0] 3)) 23 (.slice A f.length c)
    rw [World.size_alloc] at bN
    have hB0 : Below w1.heap.size w1 ((w1.alloc (.cells #[.int .i64 0] 3)).alloc (.cells #[.slice A f.length c] 23)) := ((Below.refl _ w1).alloc (Nat.le_refl _) _).alloc (by simp) _
    have hsz1 := hb1.size
    rw [World.size_alloc] at hsz1
    refine wpIn_rangeFunc_ownG rfl (by omega) (gf := 82) (lb := #[.pointer (some ⟨w1.heap.size + 1, 0, none⟩)]) rfl trivial (enters_of Try.func82 (by kernel_rfl) rfl)
      (miles_stops 5 (by omega) (w1.heap.size + 1) w1.heap.size _ _ f (by omega) h2b HD.out _ bN (by simp; omega) ((H.out.next hB1).below hB0)) KpM.trans (kpM_b (by simp; omega) (by simp)) (Below.refl _ _) (fun _ => rfl)
      (fun pre W => Boxed W w1.heap.size 3 (.int .i64 (sumG (slackF f p) pre)) ∧ Below w1.heap.size w1 W)
      (fun _ _ _ => False)
      (OwnFrom.and (Own.from (boxed_own _ _ _) _) (ownFrom_below (Nat.le_refl _) (by simp; omega)))
      (fun _ _ _ _ _ hs _ _ => hs)
      ⟨bS.alloc _, hB0⟩
      (fun x => { tmps := #[.slice A f.length c, .slice (some ⟨b, off, none⟩) p.length c', undef, .pointer (some ⟨w.heap.size, 0, none⟩), .int .i64 0, .pointer (some ⟨w1.heap.size, 0, none⟩), .int .i64 (x.1 : Int), .int .i64 (needF f x.1), .slice A f.length c, .slice (some ⟨b, off, none⟩) p.length c', .bool true, .bool false,
        .slice A f.length c, .func (.func 82) #[] #[.pointer (some ⟨w1.heap.size + 1, 0, none⟩)], .int .i64 (x.1 : Int), .int .i64 (needF f x.1), undef, undef, undef, undef, undef, undef, undef, undef, undef, undef], defers := [] })
      ?assign ?body ?done ?stop
    case assign =>
      intro l x W K hK
      gi_wp2
      exact hK
    case body =>
      rintro l pre x W ⟨hS, hB⟩ hlt
      have hc := hS.cell
      have hfz := hS.frozen
      have hx := x.2
      have hxp : x.1 < p.length := by have := HL.out; omega
      have hP1 : Boxed W w.heap.size 23 (.slice (some ⟨b, off, none⟩) p.length c') := (hB.block _ (by omega)).trans bP
      have hPc := hP1.cell
      obtain ⟨s1, s2⟩ := sumG_bd HG.out pre
      have hlt' : (pre.length : Int) ≤ 16 := by omega
      obtain ⟨n1, n2⟩ := needF_bd HD.out (i := x.1) x.2
      obtain ⟨v1, v2⟩ := H4.out x.1 hxp
      have c1 : W.cell? ⟨b, off + x.1, none⟩ = some (.int .i64 (at0 p x.1)) := ((hB1.trans (hB.mono hB1.size)).cell (p := ⟨b, off + x.1, none⟩) hb).trans (HC.out x.1 hxp)
      have HS := hide (sumG_snoc (slackF f p) pre x)
      have q1 : (x.1 : Int) < (p.length : Int) := by omega
      have q2 : (0 : Int) ≤ (x.1 : Int) := by omega
      have hbd := HG.out x.1 x.2
      have s3 : sumG (slackF f p) pre ≤ 10000 := by have s4 : sumG (slackF f p) pre ≤ 60 * (pre.length : Int) := s2; omega
      have t1 : IntKind.i64.wrap (at0 p x.1 - needF f x.1) = at0 p x.1 - needF f x.1 := IntWalk.i64_in _ ⟨by omega, by omega⟩
      have t2 : IntKind.i64.wrap (sumG (slackF f p) pre + slackF f p x.1) = sumG (slackF f p) pre + slackF f p x.1 := IntWalk.i64_in _ ⟨by omega, by omega⟩
      rw [← HS.out] at t2
      have t3 : IntKind.i64.wrap (sumG (slackF f p) pre + (if at0 p x.1 - needF f x.1 < 0 then 0 else at0 p x.1 - needF f x.1)) = sumG (slackF f p) (pre ++ [x]) := by rw [HS.out] at t2 ⊢; exact t2
      clear hbd s1 s2 s3 t2 HS
      gi_wp2
      gi_region
      all_goals gi_wp2
      all_goals
        refine ⟨(keeps_drew (KeepsOthers.setCell _ _ _)).from _, ⟨((Below.refl _ W).setCell (p := ⟨w1.heap.size, 0, none⟩) (Nat.le_refl _) _).drew, Below.heap_setCell _ _ _ _ (by simp)⟩, ?_, (hB.setCell (p := ⟨w1.heap.size, 0, none⟩) (Nat.le_refl _) _).drew⟩
        exact boxed_drew (hS.set _)
    case done =>
      rintro D ys W hD rfl ⟨hS, hB⟩ hK
      have hc := hS.cell
      gi_wp2
      refine ⟨by simp, .inl ⟨_, _, rfl, run_takeDeferred hK, ?_⟩⟩
      refine ⟨_, results_tmp rfl _ _ _, ?_, bt hB1 (hB.trans (belowK_b (w := w1) (Nat.le_refl _) W D _ _ (by simp at hD; omega) hK rfl rfl))⟩
      refine ret_int ?_
      rw [sumG_milesTo _ _ _ (Nat.le_refl _), show f.length - 1 = p.length by have := HL.out; omega]
      exact HF.out
    case stop =>
      rintro D c pre W _ _ h _
      exact h.elim
  · have hp' : payOk f p = false := by simpa using hp
    have HF := hide (show -1 = slack f p by simp [slack, hp'])
    clear hp
    go_enter Try.func17, Try.ntmps17
    have hA : Below w.heap.size w (w.alloc (.cells #[.slice A' p.length c'] 23)) := (Below.refl _ w).alloc (Nat.le_refl _) _
    have HV := hide (payValid_any _ _ f p c c' _ (H.out.next hA) (H'.out.next hA) hn hn')
    rw [hp'] at HV
    go_wp2_with (go_at_call 42; refine HV.out.mono ?_; rintro e w1 ⟨rfl, hb1⟩)
    go_ret
    exact ⟨ret_int HF.out, bt hA hb1⟩
end Go.Proofs.Ytoelajocacpmgaa
