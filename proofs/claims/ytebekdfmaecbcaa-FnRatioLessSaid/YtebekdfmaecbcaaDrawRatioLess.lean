/-
  WALK: the draw of two ratios.
-/
import Derived.Test.YtebekdfmaecbcaaDraw
import Derived.RegionTactic
import Derived.Deep.DeepCutAuto
import Derived.Deep.CutBlock
namespace Go.Proofs.Ytebekdfmaecbcaa
set_option linter.unusedVariables false
set_option linter.unusedSimpArgs false
open Go.RowKit

def DrawRatios (w : World) (e : Ending) (w' : World) : Prop :=
  ∃ t l t' l' : Int, e = .returned (.tuple #[.agg #[.int .i64 t, .int .i64 l], .agg #[.int .i64 t', .int .i64 l']]) ∧ Below w.heap.size w w'

/-- What the draws of two ratios leave ahead of the return. -/
def CutR (w wx : World) : Prop :=
  (∃ t l t' l' : Int, wx.cell? ⟨w.heap.size + 1 + 1 + 1, 0, none⟩ = some (.int .i64 t) ∧ wx.cell? ⟨w.heap.size + 1 + 1 + 1, 1, none⟩ = some (.int .i64 l) ∧
    wx.cell? ⟨w.heap.size + 1 + 1 + 1 + 1, 0, none⟩ = some (.int .i64 t') ∧ wx.cell? ⟨w.heap.size + 1 + 1 + 1 + 1, 1, none⟩ = some (.int .i64 l')) ∧
  wx.cell? ⟨w.heap.size, 0, none⟩ = some (.int .i64 0) ∧ wx.cell? ⟨w.heap.size, 1, none⟩ = some (.int .i64 0) ∧
  wx.cell? ⟨w.heap.size + 1, 0, none⟩ = some (.int .i64 0) ∧ wx.cell? ⟨w.heap.size + 1, 1, none⟩ = some (.int .i64 0) ∧
  wx.frozen? ⟨w.heap.size, 0, none⟩ = false ∧ wx.frozen? ⟨w.heap.size, 1, none⟩ = false ∧ wx.frozen? ⟨w.heap.size + 1, 0, none⟩ = false ∧ wx.frozen? ⟨w.heap.size + 1, 1, none⟩ = false ∧
  Below w.heap.size w wx

theorem rd_here {w : World} {A : Option Addr} {n cap : Nat} {p : Int} : Rd (w.alloc (.cells #[.slice A n cap, .int .i64 p] 50)) w.heap.size A n cap p := heap_alloc_new w _

theorem rd_two {w : World} {o1 o2 : Obj} {A : Option Addr} {n cap : Nat} {p : Int} : Rd (((w.alloc o1).alloc o2).alloc (.cells #[.slice A n cap, .int .i64 p] 50)) (w.heap.size + 1 + 1) A n cap p := by
  have := heap_alloc_new ((w.alloc o1).alloc o2) (.cells #[.slice A n cap, .int .i64 p] 50)
  simp only [World.size_alloc] at this
  exact this

theorem rd_twoE {w : World} {o1 o2 : Obj} {A : Option Addr} {n cap : Nat} {p : Int} : RdE (((w.alloc o1).alloc o2).alloc (.cells #[.slice A n cap, .int .i64 p] 50)) (w.heap.size + 1 + 1) A n cap := ⟨p, rd_two⟩

set_option maxHeartbeats 4000000 in
theorem drawRatioLess_any (A : Option Addr) (bs : List Int) (cap : Nat) (w : World) (hB : Byts w w.heap.size A bs) (hc : bs.length ≤ cap) (hn : cap ≤ 9223372036854775807) :
    Calls Try.prog 16 #[.slice A bs.length cap] w (DrawRatios w) := by
  obtain ⟨b2, hb2⟩ : ∃ b2, b2 = bs.take 2000 := ⟨_, rfl⟩
  have hl2 : b2.length ≤ 2000 := by rw [hb2]; simp; omega
  have hB2 : Byts w w.heap.size A b2 := by rw [hb2]; exact hB.take 2000
  have HO := fun W => l6Open_any A bs cap W hc hn
  rw [← hb2] at HO
  have hO := hide HO
  have hBw : ∀ (W : World), Below w.heap.size w W → Byts W (w.heap.size + 1 + 1) A b2 := fun W h => (hB2.below h).mono (by omega)
  have HBw := hide hBw
  clear hBw HO hb2 hB hB2
  go_enter Try.func16, Try.ntmps16
  go_wp2_with fail
  refine (hO.out _).mono ?_
  rintro e w' ⟨rfl, rfl⟩
  go_wp2_with fail
  refine (pick_exact _ A b2 cap 0 20 _ rd_two (HBw.out _ (by go_grown)) (by omega) (by omega) hl2 (by omega) (by omega)).mono ?_
  rintro e w1 ⟨x0, n0, h0, h0', rfl, rfl⟩
  go_wp2_with fail
  refine (pick_exact _ A b2 cap 1 9 _ (by repeat (first | (with_reducible exact rd_two) | (with_reducible refine Rd.drewN ?_ _) | (with_reducible refine Rd.drew ?_) | (with_reducible refine Rd.alloc ?_ _) | (with_reducible refine RdE.set ?_ _) | (with_reducible exact rd_twoE) | (with_reducible refine RdE.drewN ?_ _) | (with_reducible refine RdE.drew ?_) | (with_reducible refine RdE.alloc ?_ _) | (with_reducible refine RdE.again ?_ _))) (HBw.out _ (by repeat (first | (with_reducible exact Below.refl _ _) | (with_reducible refine below_drewN ?_ _) | (with_reducible refine Below.drew ?_) | (with_reducible refine Below.setCell (p := ⟨w.heap.size + 1 + 1, 1, none⟩) ?_ (by simp; try omega) _) | (with_reducible refine Below.alloc ?_ (by simp; try omega) _)))) (by omega) (by omega) hl2 (by omega) (by omega)).mono ?_
  rintro e w1 ⟨x1, nx1, hx10, hx11, rfl, rfl⟩
  go_wp2_with fail
  refine (pick_exact _ A b2 cap 2 20 _ (by repeat (first | (with_reducible exact rd_two) | (with_reducible refine Rd.drewN ?_ _) | (with_reducible refine Rd.drew ?_) | (with_reducible refine Rd.alloc ?_ _) | (with_reducible refine RdE.set ?_ _) | (with_reducible exact rd_twoE) | (with_reducible refine RdE.drewN ?_ _) | (with_reducible refine RdE.drew ?_) | (with_reducible refine RdE.alloc ?_ _) | (with_reducible refine RdE.again ?_ _))) (HBw.out _ (by repeat (first | (with_reducible exact Below.refl _ _) | (with_reducible refine below_drewN ?_ _) | (with_reducible refine Below.drew ?_) | (with_reducible refine Below.setCell (p := ⟨w.heap.size + 1 + 1, 1, none⟩) ?_ (by simp; try omega) _) | (with_reducible refine Below.alloc ?_ (by simp; try omega) _)))) (by omega) (by omega) hl2 (by omega) (by omega)).mono ?_
  rintro e w1 ⟨x2, nx2, hx20, hx21, rfl, rfl⟩
  go_wp2_with fail
  refine (pick_exact _ A b2 cap 3 9 _ (by repeat (first | (with_reducible exact rd_two) | (with_reducible refine Rd.drewN ?_ _) | (with_reducible refine Rd.drew ?_) | (with_reducible refine Rd.alloc ?_ _) | (with_reducible refine RdE.set ?_ _) | (with_reducible exact rd_twoE) | (with_reducible refine RdE.drewN ?_ _) | (with_reducible refine RdE.drew ?_) | (with_reducible refine RdE.alloc ?_ _) | (with_reducible refine RdE.again ?_ _))) (HBw.out _ (by repeat (first | (with_reducible exact Below.refl _ _) | (with_reducible refine below_drewN ?_ _) | (with_reducible refine Below.drew ?_) | (with_reducible refine Below.setCell (p := ⟨w.heap.size + 1 + 1, 1, none⟩) ?_ (by simp; try omega) _) | (with_reducible refine Below.alloc ?_ (by simp; try omega) _)))) (by omega) (by omega) hl2 (by omega) (by omega)).mono ?_
  rintro e w1 ⟨x3, nx3, hx30, hx31, rfl, rfl⟩
  go_wp2_with fail
  refine (pick_exact _ A b2 cap 4 16 _ (by repeat (first | (with_reducible exact rd_two) | (with_reducible refine Rd.drewN ?_ _) | (with_reducible refine Rd.drew ?_) | (with_reducible refine Rd.alloc ?_ _) | (with_reducible refine RdE.set ?_ _) | (with_reducible exact rd_twoE) | (with_reducible refine RdE.drewN ?_ _) | (with_reducible refine RdE.drew ?_) | (with_reducible refine RdE.alloc ?_ _) | (with_reducible refine RdE.again ?_ _))) (HBw.out _ (by repeat (first | (with_reducible exact Below.refl _ _) | (with_reducible refine below_drewN ?_ _) | (with_reducible refine Below.drew ?_) | (with_reducible refine Below.setCell (p := ⟨w.heap.size + 1 + 1, 1, none⟩) ?_ (by simp; try omega) _) | (with_reducible refine Below.alloc ?_ (by simp; try omega) _)))) (by omega) (by omega) hl2 (by omega) (by omega)).mono ?_
  rintro e w1 ⟨x4, nx4, hx40, hx41, rfl, rfl⟩
  go_upto_block 0 with fail
  go_cut [22] (fun s wx => s = .int .i64 x4 ∧ CutR w wx)
  case first =>
    by_cases c0 : x4 = 0
    · subst c0
      clear hx40 hx41
      go_wp2_with fail
      refine (pick_exact _ A b2 cap 5 3 _ (by repeat (first | (with_reducible exact rd_two) | (with_reducible refine Rd.drewN ?_ _) | (with_reducible refine Rd.drew ?_) | (with_reducible refine Rd.alloc ?_ _) | (with_reducible refine RdE.set ?_ _) | (with_reducible exact rd_twoE) | (with_reducible refine RdE.drewN ?_ _) | (with_reducible refine RdE.drew ?_) | (with_reducible refine RdE.alloc ?_ _) | (with_reducible refine RdE.again ?_ _))) (HBw.out _ (by repeat (first | (with_reducible exact Below.refl _ _) | (with_reducible refine below_drewN ?_ _) | (with_reducible refine Below.drew ?_) | (with_reducible refine Below.setCell (p := ⟨w.heap.size + 1 + 1, 1, none⟩) ?_ (by simp; try omega) _) | (with_reducible refine Below.alloc ?_ (by simp; try omega) _)))) (by omega) (by omega) hl2 (by omega) (by omega)).mono ?_
      rintro e w1 ⟨x5, nx5, hx50, hx51, rfl, rfl⟩
      have hx5 : x5 = 0 ∨ x5 = 1 ∨ x5 = 2 := by omega
      clear hx50 hx51
      rcases hx5 with rfl | rfl | rfl
      all_goals
        go_wp2_with fail
        go_meet
        first | (exact ⟨rfl, ⟨x0, 0, x2, 1 + x3, by go_cell, by go_cell, by go_cell, by go_cell⟩, by go_cell, by go_cell, by go_cell, by go_cell, by first | (go_cell; done) | (simp [go_sem]; done) | (go_simp; done) | (simp [World.frozen?_setCell]; done), by first | (go_cell; done) | (simp [go_sem]; done) | (go_simp; done) | (simp [World.frozen?_setCell]; done), by first | (go_cell; done) | (simp [go_sem]; done) | (go_simp; done) | (simp [World.frozen?_setCell]; done), by first | (go_cell; done) | (simp [go_sem]; done) | (go_simp; done) | (simp [World.frozen?_setCell]; done), by repeat (first | (with_reducible exact Below.refl _ _) | (with_reducible refine below_drewN ?_ _) | (with_reducible refine Below.drew ?_) | (with_reducible refine Below.setCell (p := ⟨_, _, none⟩) ?_ (by simp; try omega) _) | (with_reducible refine Below.alloc ?_ (by simp; try omega) _))⟩) | (exact ⟨rfl, ⟨x0, -1, x2, 1 + x3, by go_cell, by go_cell, by go_cell, by go_cell⟩, by go_cell, by go_cell, by go_cell, by go_cell, by first | (go_cell; done) | (simp [go_sem]; done) | (go_simp; done) | (simp [World.frozen?_setCell]; done), by first | (go_cell; done) | (simp [go_sem]; done) | (go_simp; done) | (simp [World.frozen?_setCell]; done), by first | (go_cell; done) | (simp [go_sem]; done) | (go_simp; done) | (simp [World.frozen?_setCell]; done), by first | (go_cell; done) | (simp [go_sem]; done) | (go_simp; done) | (simp [World.frozen?_setCell]; done), by repeat (first | (with_reducible exact Below.refl _ _) | (with_reducible refine below_drewN ?_ _) | (with_reducible refine Below.drew ?_) | (with_reducible refine Below.setCell (p := ⟨_, _, none⟩) ?_ (by simp; try omega) _) | (with_reducible refine Below.alloc ?_ (by simp; try omega) _))⟩) | (exact ⟨rfl, ⟨x0, 1000001, x2, 1 + x3, by go_cell, by go_cell, by go_cell, by go_cell⟩, by go_cell, by go_cell, by go_cell, by go_cell, by first | (go_cell; done) | (simp [go_sem]; done) | (go_simp; done) | (simp [World.frozen?_setCell]; done), by first | (go_cell; done) | (simp [go_sem]; done) | (go_simp; done) | (simp [World.frozen?_setCell]; done), by first | (go_cell; done) | (simp [go_sem]; done) | (go_simp; done) | (simp [World.frozen?_setCell]; done), by first | (go_cell; done) | (simp [go_sem]; done) | (go_simp; done) | (simp [World.frozen?_setCell]; done), by repeat (first | (with_reducible exact Below.refl _ _) | (with_reducible refine below_drewN ?_ _) | (with_reducible refine Below.drew ?_) | (with_reducible refine Below.setCell (p := ⟨_, _, none⟩) ?_ (by simp; try omega) _) | (with_reducible refine Below.alloc ?_ (by simp; try omega) _))⟩)
    · by_cases c1 : x4 = 1
      · subst c1
        clear hx40 hx41 c0
        go_wp2_with fail
        refine (pick_exact _ A b2 cap 5 3 _ (by repeat (first | (with_reducible exact rd_two) | (with_reducible refine Rd.drewN ?_ _) | (with_reducible refine Rd.drew ?_) | (with_reducible refine Rd.alloc ?_ _) | (with_reducible refine RdE.set ?_ _) | (with_reducible exact rd_twoE) | (with_reducible refine RdE.drewN ?_ _) | (with_reducible refine RdE.drew ?_) | (with_reducible refine RdE.alloc ?_ _) | (with_reducible refine RdE.again ?_ _))) (HBw.out _ (by repeat (first | (with_reducible exact Below.refl _ _) | (with_reducible refine below_drewN ?_ _) | (with_reducible refine Below.drew ?_) | (with_reducible refine Below.setCell (p := ⟨w.heap.size + 1 + 1, 1, none⟩) ?_ (by simp; try omega) _) | (with_reducible refine Below.alloc ?_ (by simp; try omega) _)))) (by omega) (by omega) hl2 (by omega) (by omega)).mono ?_
        rintro e w1 ⟨x5, nx5, hx50, hx51, rfl, rfl⟩
        have hx5 : x5 = 0 ∨ x5 = 1 ∨ x5 = 2 := by omega
        clear hx50 hx51
        rcases hx5 with rfl | rfl | rfl
        all_goals
          go_wp2_with fail
          go_meet
          first | (exact ⟨rfl, ⟨x0, 1 + x1, -1, 1 + x3, by go_cell, by go_cell, by go_cell, by go_cell⟩, by go_cell, by go_cell, by go_cell, by go_cell, by first | (go_cell; done) | (simp [go_sem]; done) | (go_simp; done) | (simp [World.frozen?_setCell]; done), by first | (go_cell; done) | (simp [go_sem]; done) | (go_simp; done) | (simp [World.frozen?_setCell]; done), by first | (go_cell; done) | (simp [go_sem]; done) | (go_simp; done) | (simp [World.frozen?_setCell]; done), by first | (go_cell; done) | (simp [go_sem]; done) | (go_simp; done) | (simp [World.frozen?_setCell]; done), by repeat (first | (with_reducible exact Below.refl _ _) | (with_reducible refine below_drewN ?_ _) | (with_reducible refine Below.drew ?_) | (with_reducible refine Below.setCell (p := ⟨_, _, none⟩) ?_ (by simp; try omega) _) | (with_reducible refine Below.alloc ?_ (by simp; try omega) _))⟩) | (exact ⟨rfl, ⟨x0, 1 + x1, 1000000, 1 + x3, by go_cell, by go_cell, by go_cell, by go_cell⟩, by go_cell, by go_cell, by go_cell, by go_cell, by first | (go_cell; done) | (simp [go_sem]; done) | (go_simp; done) | (simp [World.frozen?_setCell]; done), by first | (go_cell; done) | (simp [go_sem]; done) | (go_simp; done) | (simp [World.frozen?_setCell]; done), by first | (go_cell; done) | (simp [go_sem]; done) | (go_simp; done) | (simp [World.frozen?_setCell]; done), by first | (go_cell; done) | (simp [go_sem]; done) | (go_simp; done) | (simp [World.frozen?_setCell]; done), by repeat (first | (with_reducible exact Below.refl _ _) | (with_reducible refine below_drewN ?_ _) | (with_reducible refine Below.drew ?_) | (with_reducible refine Below.setCell (p := ⟨_, _, none⟩) ?_ (by simp; try omega) _) | (with_reducible refine Below.alloc ?_ (by simp; try omega) _))⟩) | (exact ⟨rfl, ⟨x0, 1 + x1, 1000001, 1 + x3, by go_cell, by go_cell, by go_cell, by go_cell⟩, by go_cell, by go_cell, by go_cell, by go_cell, by first | (go_cell; done) | (simp [go_sem]; done) | (go_simp; done) | (simp [World.frozen?_setCell]; done), by first | (go_cell; done) | (simp [go_sem]; done) | (go_simp; done) | (simp [World.frozen?_setCell]; done), by first | (go_cell; done) | (simp [go_sem]; done) | (go_simp; done) | (simp [World.frozen?_setCell]; done), by first | (go_cell; done) | (simp [go_sem]; done) | (go_simp; done) | (simp [World.frozen?_setCell]; done), by repeat (first | (with_reducible exact Below.refl _ _) | (with_reducible refine below_drewN ?_ _) | (with_reducible refine Below.drew ?_) | (with_reducible refine Below.setCell (p := ⟨_, _, none⟩) ?_ (by simp; try omega) _) | (with_reducible refine Below.alloc ?_ (by simp; try omega) _))⟩)
      · have d0 : (x4 == 0) = false := beq_eq_false_iff_ne.2 c0
        have d1 : (x4 == 1) = false := beq_eq_false_iff_ne.2 c1
        clear c0 c1
        go_wp2_with fail
        go_meet
        exact ⟨rfl, ⟨x0, 1 + x1, x2, 1 + x3, by go_cell, by go_cell, by go_cell, by go_cell⟩, by go_cell, by go_cell, by go_cell, by go_cell, by first | (go_cell; done) | (simp [go_sem]; done) | (go_simp; done) | (simp [World.frozen?_setCell]; done), by first | (go_cell; done) | (simp [go_sem]; done) | (go_simp; done) | (simp [World.frozen?_setCell]; done), by first | (go_cell; done) | (simp [go_sem]; done) | (go_simp; done) | (simp [World.frozen?_setCell]; done), by first | (go_cell; done) | (simp [go_sem]; done) | (go_simp; done) | (simp [World.frozen?_setCell]; done), by repeat (first | (with_reducible exact Below.refl _ _) | (with_reducible refine below_drewN ?_ _) | (with_reducible refine Below.drew ?_) | (with_reducible refine Below.setCell (p := ⟨_, _, none⟩) ?_ (by simp; try omega) _) | (with_reducible refine Below.alloc ?_ (by simp; try omega) _))⟩
  case rest =>
    obtain ⟨rfl, ⟨t, l, t', l', k1, k2, k3, k4⟩, r1, r2, r3, r4, f1, f2, f3, f4, hB⟩ := hcut
    obtain ⟨q1, q2, q3, q4⟩ := four_set (a := .int .i64 t) (b := .int .i64 l) (c := .int .i64 t') (d := .int .i64 l') (show w.heap.size ≠ w.heap.size + 1 by omega) r1 r2 r3 r4
    have Q1 := hide q1
    have Q2 := hide q2
    have Q3 := hide q3
    have Q4 := hide q4
    clear q1 q2 q3 q4
    go_wp2
    go_region
    go_wp2
    have q1 := Q1.out
    have q2 := Q2.out
    have q3 := Q3.out
    have q4 := Q4.out
    refine bodyPost_ret (v := .tuple #[.agg #[.int .i64 t, .int .i64 l], .agg #[.int .i64 t', .int .i64 l']]) (by simp [results, Try.results16, go_sem, q1, q2, q3, q4]) rfl ?_
    exact ⟨t, l, t', l', rfl, ((((hB.setCell (p := ⟨w.heap.size, 0, none⟩) (Nat.le_refl _) _).setCell (p := ⟨w.heap.size, 1, none⟩) (Nat.le_refl _) _).setCell (p := ⟨w.heap.size + 1, 0, none⟩) (Nat.le_succ _) _).setCell (p := ⟨w.heap.size + 1, 1, none⟩) (Nat.le_succ _) _).drew⟩
end Go.Proofs.Ytebekdfmaecbcaa
