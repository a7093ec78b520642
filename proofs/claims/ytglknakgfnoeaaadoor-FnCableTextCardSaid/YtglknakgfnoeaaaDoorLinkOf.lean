/-
  WALK: the links of a cable are made.
-/
import Derived.Test.YtglknakgfnoeaaaDoorLinks
namespace Go.Proofs.YtglknakgfnoeaaaDoor
set_option linter.unusedVariables false
set_option linter.unusedSimpArgs false
open Go.RowKit Go.Shelf
attribute [local go_sem] Oper.semAt_some

set_option maxRecDepth 100000 in
set_option maxHeartbeats 4000000 in
theorem linkOf_any (A : Option Addr) (fl : List Int) (N cap : Nat) (w : World) (hl : fl.length = N * 3) (h : Ints w w.heap.size A fl) (h1 : 1 ≤ N) (hN : N ≤ 8) :
    Calls Tryd.prog 11 #[.slice A N cap] w fun e w' => ∃ p, e = .returned (.pointer p) ∧ Links w' w'.heap.size fl (from' N N) p ∧ Below w.heap.size w w' := by
  have H := hide h
  have HL := hide hl
  clear h hl
  refine (callsIn_wide (n := 6)).1 ?_
  refine callsIn_of_wp_marks Tryd.func11 rfl trivial ?_ rfl
  simp only [Tryd.ntmps11, List.size_toArray, List.length_cons, List.length_nil, Nat.reduceAdd, Nat.reduceSub, Array.replicate_succ, Array.replicate_zero, List.push_toArray, List.append_toArray, List.nil_append, List.cons_append]
  gi_wp2_with (refine ⟨trivial, ?_⟩; gi_at_call 18; refine (callsIn_wide.2 (backward_any _ _ _ _)).mono ?_; rintro e w' ⟨rfl, rfl⟩)
  have bF := (Boxed.new w 33 (.pointer none)).alloc (.cells #[.slice A N cap] 23)
  have bN := Boxed.new (w.alloc (.cells #[.pointer none] 33)) 23 (.slice A N cap)
  rw [World.size_alloc] at bN
  have hB0 : Below w.heap.size w ((w.alloc (.cells #[.pointer none] 33)).alloc (.cells #[.slice A N cap] 23)) := ((Below.refl _ w).alloc (Nat.le_refl _) _).alloc (by simp) _
  have hI0 : Ints ((w.alloc (.cells #[.pointer none] 33)).alloc (.cells #[.slice A N cap] 23)) w.heap.size A fl := H.out.below hB0
  refine wpIn_rangeFunc_ownH rfl (by omega) (gf := 24) (lb := #[.pointer (some ⟨w.heap.size + 1, 0, none⟩)]) rfl trivial (enters_of Tryd.func24 (by kernel_rfl) rfl)
    (backward_stops 5 (by omega) (w.heap.size + 1) w.heap.size _ _ N fl HL.out h1 hN _ bN (by simp; omega) hI0) KpS.trans (kpS_b (by simp; omega) (by simp)) (Below.refl _ _) (fun _ => rfl)
    (fun pre W => ((∃ p, Boxed W w.heap.size 33 (.pointer p) ∧ Links W W.heap.size fl (pre.map fun x => x.1).reverse p) ∧ Boxed W (w.heap.size + 1) 23 (.slice A N cap)) ∧ Below w.heap.size w W)
    (fun _ _ _ => False)
    (OwnFrom.and (OwnFrom.and (Own.from (links_own 33 w.heap.size fl (fun pre : List (Sect N) => (pre.map fun x => x.1).reverse)) _) (Own.from (boxed_own _ _ _) _)) (ownFrom_below (Nat.le_refl _) (by simp; omega)))
    (fun _ _ _ _ _ hs _ _ => hs)
    ⟨⟨⟨none, bF, rfl⟩, bN⟩, hB0⟩
    (fun x a' W' => ∃ g, a' = { tmps := #[.slice A N cap, undef, .pointer none, .pointer (some ⟨w.heap.size, 0, none⟩), undef, .pointer (some ⟨g, 0, none⟩), .slice A N cap,
      .func (.func 24) #[] #[.pointer (some ⟨w.heap.size + 1, 0, none⟩)], .int .i64 (x.1 : Int), secV fl x.1, undef, undef, undef, undef, undef], defers := [] } ∧
      W'.heap[g]? = some (.cells #[.int .i64 (at0 fl (x.1 * 3)), .int .i64 (at0 fl (x.1 * 3 + 1)), .int .i64 (at0 fl (x.1 * 3 + 2))] 36 (0, 0)))
    ?ax ?assign ?body ?done ?stop
  case ax =>
    rintro x a' s X Y row ⟨g, he, hg⟩ hgr hrow
    refine ⟨g, he, (hgr.block g (Array.getElem?_eq_some_iff.1 hg).1 (fun e' => ?_)).trans hg⟩
    obtain ⟨_, o, ho, hc⟩ := hrow g e'.symm
    rw [hg] at ho; cases ho; cases hc
  case assign =>
    rintro l pre x W K ⟨⟨⟨p, hp, hL⟩, hbx⟩, hB⟩ hK
    have HK := hide hK
    clear hK
    gi_wp2
    exact HK.out _ _ ((KeepsOthers.alloc _ _).from _) ⟨(Below.refl _ _).alloc hB.size _, Below.heap_alloc _ _ _ hbx.lt⟩ ⟨⟨⟨p, hp.alloc _, hL.keep (by simp) (fun g cs hgl hcs => (Below.heap_alloc _ _ _ (Array.getElem?_eq_some_iff.1 hcs).1).trans hcs)⟩, hbx.alloc _⟩, hB.alloc hB.size _⟩ ⟨_, rfl, heap_alloc_new _ _⟩
  case body =>
    rintro l pre x a' W hl ⟨r, hr⟩ ⟨⟨⟨p, hp, hL⟩, hbx⟩, hB⟩ ⟨g, rfl, hg⟩ hlt
    have hc := hp.cell
    have hf := hp.frozen
    have g0 : W.cell? ⟨g, 0, none⟩ = some (.int .i64 (at0 fl (x.1 * 3))) := cell_of_row W g 0 _ _ _ hg
    have g1 : W.cell? ⟨g, 1, none⟩ = some (.int .i64 (at0 fl (x.1 * 3 + 1))) := cell_of_row W g 1 _ _ _ hg
    have g2 : W.cell? ⟨g, 2, none⟩ = some (.int .i64 (at0 fl (x.1 * 3 + 2))) := cell_of_row W g 2 _ _ _ hg
    have hBW := hB.size
    have hp' := hp.alloc (.cells #[.int .i64 (at0 fl (x.1 * 3)), .int .i64 (at0 fl (x.1 * 3 + 1)), .int .i64 (at0 fl (x.1 * 3 + 2)), .pointer p] 38)
    have hc' := hp'.cell
    have hf' := hp'.frozen
    have HP' := hide hp'
    have HPp := hide hp
    clear hp hp'
    gi_wp2
    have hBw : w.heap.size < W.heap.size := HPp.out.lt
    have hO : ((W.alloc (.cells #[.int .i64 (at0 fl (x.1 * 3)), .int .i64 (at0 fl (x.1 * 3 + 1)), .int .i64 (at0 fl (x.1 * 3 + 2)), .pointer p] 38)).setCell ⟨w.heap.size, 0, none⟩ (.pointer (some ⟨W.heap.size, 0, none⟩))).heap[W.heap.size]? = some (.cells #[.int .i64 (at0 fl (x.1 * 3)), .int .i64 (at0 fl (x.1 * 3 + 1)), .int .i64 (at0 fl (x.1 * 3 + 2)), .pointer p] 38 (0, 0)) :=
      (Below.heap_setCell _ ⟨w.heap.size, 0, none⟩ _ W.heap.size (by show W.heap.size ≠ w.heap.size; omega)).trans (heap_alloc_new W _)
    refine ⟨((KeepsOthers.alloc _ _).trans (KeepsOthers.setCell _ _ _)).from _, ⟨((Below.refl _ W).alloc (by omega) _).setCell (p := ⟨w.heap.size, 0, none⟩) (Nat.le_refl _) _, (Below.heap_setCell _ _ _ _ (by simp)).trans (Below.heap_alloc _ _ _ hbx.lt)⟩,
      ⟨⟨some ⟨W.heap.size, 0, none⟩, HP'.out.set _, ?_⟩, (hbx.alloc _).other (by omega) _⟩, (hB.alloc hB.size _).setCell (p := ⟨w.heap.size, 0, none⟩) (Nat.le_refl _) _⟩
    rw [List.map_append, List.reverse_append]
    refine ⟨W.heap.size, p, rfl, by simp [World.setCell], hO, hL.keep (by simp [World.setCell]) (fun g' cs hgl hcs => ?_)⟩
    refine (Below.heap_setCell _ ⟨w.heap.size, 0, none⟩ _ g' (fun e => ?_)).trans ((Below.heap_alloc _ _ _ hgl).trans hcs)
    have e' : g' = w.heap.size := e
    subst e'
    rw [show W.heap[w.heap.size]? = _ from HPp.out] at hcs
    injection hcs with h1'
    injection h1' with _ h2'
    exact absurd h2' (by decide)
  case done =>
    rintro D ys W hD rfl ⟨⟨⟨p, hp, hL⟩, hbx⟩, hB⟩ hK
    have hc := hp.cell
    rw [backTo_from N N (Nat.le_refl _)] at hL
    gi_wp2
    refine ⟨by simp, .inl ⟨_, _, rfl, run_takeDeferred hK, ?_⟩⟩
    refine ⟨_, results_tmp rfl _ _ _, p, rfl, hL.keep (by simp [World.putObj]) (fun g cs hgl hcs => ?_), hB.trans (belowK_b (w := w) (Nat.le_refl _) W D _ _ (by simp at hD; omega) hK rfl rfl)⟩
    rw [World.putObj_heap_other (fun e => by rw [e, hK] at hcs; cases hcs)]
    exact hcs
  case stop =>
    rintro D c pre W _ _ h _
    exact h.elim
end Go.Proofs.YtglknakgfnoeaaaDoor
