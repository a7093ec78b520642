/-
  WALKS: for how many miles there is enough: the program's.
-/
import Derived.Test.YtoelajocacpmgaaReach
namespace Go.Proofs.Ytoelajocacpmgaa
set_option linter.unusedVariables false
set_option linter.unusedSimpArgs false
open Go.RowKit Go.Shelf
attribute [local go_sem] Oper.semAt_some

/-- The walk has stopped at a mile that hangs; none ahead of it does. -/
def Stopped {f : List Int} (p : List Int) (c : Code) (pre : List (Mile f)) : Prop := c = .exit 0 ∧ ∃ pre' x, pre = pre' ++ [x] ∧ hangL p pre' = [] ∧ at0 p x.1 < needF f x.1
theorem reach_stopped {f : List Int} {a : Int} (h : carryOk f a = true) {c : Code} {pre : List (Mile f)} (hs : Stopped (carry f a) c pre) {k : Nat} (hk : k ≤ f.length - 1) (e : pre = milesTo f k) : reach f a = (pre.length : Int) - 1 := by
  obtain ⟨-, pre', x, rfl, h1, h2⟩ := hs
  obtain _ | k := k
  · exact absurd (congrArg List.length e) (by simp [milesTo])
  · rw [milesTo_succ (by omega)] at e
    obtain ⟨rfl, e2⟩ := List.append_inj' e rfl
    have e3 : x.1 = k := congrArg Subtype.val (List.cons.inj e2).1
    rw [e3] at h2
    rw [hangL_milesTo _ _ _ (by omega)] at h1
    rw [reach_at h (by omega) h1 h2]
    simp [milesTo_length f k (by omega)]

set_option maxRecDepth 100000 in
set_option maxHeartbeats 16000000 in
theorem payReach_any (A : Option Addr) (f : List Int) (c : Nat) (a : Int) (w : World) (h : Ints w w.heap.size A f) (hn : f.length ≤ 1048576) :
    Calls Try.prog 46 #[.slice A f.length c, .int .i64 a] w fun e w' => e = .returned (.int .i64 (reach f a)) ∧ Below w.heap.size w w' := by
  have H := hide h
  clear h
  have hcl := carry_le f a
  by_cases hok : carryOk f a = true
  · have HK := hide hok
    obtain ⟨h1, h2⟩ := carryOk_iff.1 hok
    obtain ⟨hl1, hl2⟩ := floorOk_len h1
    have HD := hide (floorOk_deep h1)
    have HC := hide (carry_eq hok)
    have hlen : (carry f a).length = f.length - 1 := by rw [carry_eq hok, upto_length]
    clear hok h1 h2
    refine (callsIn_wide (n := 6)).1 ?_
    refine callsIn_of_wp_marks Try.func46 rfl trivial ?_ rfl
    simp only [Try.ntmps46, List.size_toArray, List.length_cons, List.length_nil, Nat.reduceAdd, Nat.reduceSub, Array.replicate_succ, Array.replicate_zero, List.push_toArray, List.append_toArray, List.nil_append, List.cons_append]
    gi_wp2_with (first
      | (refine ⟨trivial, ?_⟩; gi_at_call 52; refine (callsIn_wide.2 (payCarry_any _ f _ a _ H.out hn)).mono ?_; rintro e w1 ⟨A2, c2, rfl, h1, h2, hfr, hb1⟩; rw [HK.out])
      | (refine ⟨trivial, ?_⟩; gi_at_call 61; refine (callsIn_wide.2 (miles_any _ _ _ _)).mono ?_; rintro e w' ⟨rfl, rfl⟩))
    have bP := ((Boxed.new w1 23 (.slice A2 (f.length - 1) c2)).alloc (.cells #[.int .i64 0] 3)).alloc (.cells #[.slice A f.length c] 23)
    have bM := (Boxed.new (w1.alloc (.cells #[.slice A2 (f.length - 1) c2] 23)) 3 (.int .i64 0)).alloc (.cells #[.slice A f.length c] 23)
    have bN := Boxed.new ((w1.alloc (.cells #[.slice A2 (f.length - 1) c2] 23)).alloc (.cells #[.int .i64 0] 3)) 23 (.slice A f.length c)
    rw [World.size_alloc] at bM
    rw [World.size_alloc, World.size_alloc] at bN
    have hB0 : Below w1.heap.size w1 (((w1.alloc (.cells #[.slice A2 (f.length - 1) c2] 23)).alloc (.cells #[.int .i64 0] 3)).alloc (.cells #[.slice A f.length c] 23)) := by go_grown
    obtain ⟨b, off, rfl, hlo, hhi, hcs⟩ := hfr (by omega)
    have HS := hide hcs
    have hI1 := (H.out.next hb1).below hB0
    clear hfr hcs
    refine wpIn_rangeFunc_ownG rfl (by omega) (gf := 82) (lb := #[.pointer (some ⟨w1.heap.size + 1 + 1, 0, none⟩)]) rfl trivial (enters_of Try.func82 (by kernel_rfl) rfl)
      (miles_stops 5 (by omega) (w1.heap.size + 1 + 1) w1.heap.size _ _ f (by omega) hl2 HD.out _ bN (by simp; omega) hI1) KpM.trans (kpM_b (by simp; omega) (by simp)) (Below.refl _ _) (fun _ => rfl)
      (fun pre W => ((hangL (carry f a) pre = [] ∧ Boxed W (w1.heap.size + 1) 3 (.int .i64 (pre.length : Int))) ∧ Boxed W w1.heap.size 23 (.slice (some ⟨b, off, none⟩) (f.length - 1) c2)) ∧ Below w1.heap.size w1 W)
      (fun cd pre W => (Stopped (carry f a) cd pre ∧ Boxed W (w1.heap.size + 1) 3 (.int .i64 ((pre.length : Int) - 1))) ∧ Below w1.heap.size w1 W)
      (OwnFrom.and (OwnFrom.and (OwnFrom.and (fun _ _ _ _ h _ _ => h) (Own.from (boxed_own _ _ _) _)) (Own.from (boxed_own _ _ _) _)) (ownFrom_below (Nat.le_refl _) (by simp; omega)))
      (fun cd => OwnFrom.and (OwnFrom.and (fun _ _ _ _ h _ _ => h) (Own.from (boxed_own _ _ _) _)) (ownFrom_below (Nat.le_refl _) (by simp; omega)))
      ⟨⟨⟨rfl, bM⟩, bP⟩, hB0⟩
      (fun x => { tmps := #[.slice A f.length c, .int .i64 a, undef, undef, .int .i64 0, .pointer (some ⟨w1.heap.size, 0, none⟩), .bool true, .pointer (some ⟨w1.heap.size + 1, 0, none⟩), .int .i64 (x.1 : Int), .int .i64 (needF f x.1), .tuple #[.slice (some ⟨b, off, none⟩) (f.length - 1) c2, .bool true], .slice A f.length c, .int .i64 a, .tuple #[.slice (some ⟨b, off, none⟩) (f.length - 1) c2, .bool true],
        .slice (some ⟨b, off, none⟩) (f.length - 1) c2, .bool true, .bool true, .bool false, .slice A f.length c, .func (.func 82) #[] #[.pointer (some ⟨w1.heap.size + 1 + 1, 0, none⟩)], .int .i64 (x.1 : Int), .int .i64 (needF f x.1), undef, undef, undef, undef, undef, undef, undef, undef, undef], defers := [] })
      ?assign ?body ?done ?stop
    case assign =>
      intro l x W K hK
      gi_wp2
      exact hK
    case body =>
      rintro l pre x W ⟨⟨⟨h0, hm⟩, hp⟩, hB⟩ hlt
      have hmc := hm.cell
      have hmf := hm.frozen
      have hpc := hp.cell
      have hx := x.2
      have hpl : (pre.length : Int) ≤ 16 := by omega
      obtain ⟨n1, n2⟩ := needF_bd HD.out (i := x.1) x.2
      have c1 : W.cell? ⟨b, off + x.1, none⟩ = some (.int .i64 (at0 (carry f a) x.1)) := (hB.cell (p := ⟨b, off + x.1, none⟩) hhi).trans (HS.out x.1 (by omega)).1
      have HL := hide (hangL_snoc (carry f a) pre x)
      have q1 : (x.1 : Int) < ((f.length - 1 : Nat) : Int) := by omega
      have q2 : (0 : Int) ≤ (x.1 : Int) := by omega
      by_cases hh : at0 (carry f a) x.1 < needF f x.1
      · gi_wp2_with fail
        exact ⟨(KeepsOthers.refl _).from _, ⟨⟨rfl, pre, x, rfl, h0, hh⟩, by rw [show (((pre ++ [x]).length : Nat) : Int) - 1 = (pre.length : Int) by simp]; exact hm⟩, hB⟩
      · gi_wp2_with fail
        exact ⟨(KeepsOthers.setCell _ _ _).from _, ⟨(Below.refl _ W).setCell (p := ⟨w1.heap.size + 1, 0, none⟩) (Nat.le_succ _) _, Below.heap_setCell _ _ _ _ (by simp)⟩, ⟨⟨HL.out.trans ((if_neg (by omega)).trans h0), by rw [show (((pre ++ [x]).length : Nat) : Int) = (pre.length : Int) + 1 by simp]; exact hm.set _⟩, hp.other (by omega) _⟩, hB.setCell (p := ⟨w1.heap.size + 1, 0, none⟩) (Nat.le_succ _) _⟩
    case done =>
      rintro D ys W hD rfl ⟨⟨⟨h0, hm⟩, hp⟩, hB⟩ hK
      have hmc := hm.cell
      rw [hangL_milesTo _ _ _ (Nat.le_refl _)] at h0
      gi_wp2
      refine ⟨by simp, .inl ⟨_, _, rfl, run_takeDeferred hK, ?_⟩⟩
      refine ⟨_, results_tmp rfl _ _ _, ?_, bt hb1 (hB.trans (belowK_b (w := w1) (Nat.le_refl _) W D _ _ (by simp at hD; omega) hK rfl rfl))⟩
      refine ret_int ?_
      rw [reach_full HK.out h0]
      try rw [milesTo_length _ _ (Nat.le_refl _)]
    case stop =>
      rintro D cd pre W hD ⟨k, hk, hpre⟩ ⟨⟨hst, hm⟩, hB⟩ hK
      have hR := reach_stopped HK.out hst hk hpre
      obtain ⟨rfl, -⟩ := hst
      have hmc := hm.cell
      gi_wp2
      refine ⟨by simp, .inl ⟨_, _, rfl, run_takeDeferred hK, ?_⟩⟩
      refine ⟨_, results_tmp rfl _ _ _, ?_, bt hb1 (hB.trans (belowK_b (w := w1) (Nat.le_refl _) W D _ _ (by simp at hD; omega) hK rfl rfl))⟩
      rw [hpre] at hR
      exact ret_int hR.symm
  · have hok' : carryOk f a = false := by simpa using hok
    have HF := hide (show -1 = reach f a by simp [reach, hok'])
    clear hok
    go_enter Try.func46, Try.ntmps46
    go_wp2_with fail
    refine (payCarry_any _ f _ a _ H.out hn).mono ?_
    rintro e w1 ⟨A2, c2, rfl, h1, h2, hfr, hb1⟩
    rw [hok']
    go_wp2
    go_ret
    exact ⟨ret_int HF.out, bt hb1 ((Below.refl _ w1).alloc (Nat.le_refl _) _)⟩
end Go.Proofs.Ytoelajocacpmgaa
