/-
  WALK: the draw of two floors that often fit.
-/
import Derived.Test.YtoelajocacpmgaaDrawPay
namespace Go.Proofs.Ytoelajocacpmgaa
set_option linter.unusedVariables false
set_option linter.unusedSimpArgs false
open Go.RowKit

theorem set_cell_fresh {w : World} {lo hi b off j : Nat} {xs : List Int} {v : Int} (h : Fresh w lo hi (some ⟨b, off, none⟩) xs) (hj : j < xs.length) (hlt : hi ≤ w.heap.size) :
    Fresh (w.setCell ⟨b, off + j, none⟩ (.int .i64 v)) lo hi (some ⟨b, off, none⟩) (xs.set j v) := fun hp => by
  obtain ⟨b', off', e, h1, h2, hc⟩ := h (by omega)
  cases e
  refine ⟨b, off, rfl, h1, h2, fun i hi' => ?_⟩
  have hi2 : i < xs.length := by simpa using hi'
  rw [at0_set hi2, World.frozen?_setCell]
  refine ⟨?_, (hc i hi2).2⟩
  by_cases hij : j = i
  · subst hij
    rw [if_pos rfl]
    exact World.cell?_setCell_same' _ _ _ (by rw [(hc j hi2).1]; rfl)
  · rw [if_neg hij]
    exact (World.cell?_setCell_other _ _ _ _ (fun e => by have h1 : off + j = off + i := congrArg Addr.off e; omega)).trans (hc i hi2).1

set_option maxRecDepth 100000 in
set_option maxHeartbeats 4000000 in
theorem drawFloorJoin_any (A : Option Addr) (bs : List Int) (cap : Nat) (w : World) (hB : Byts w w.heap.size A bs) (hc : bs.length ≤ cap) (hn : cap ≤ 9223372036854775807) :
    Calls Try.prog 54 #[.slice A bs.length cap] w (DrawPairs w 17 17 41 41) := by
  obtain ⟨b2, hb2⟩ : ∃ b2, b2 = bs.take 2000 := ⟨_, rfl⟩
  have hl2 : b2.length ≤ 2000 := by rw [hb2]; simp; omega
  have hB2 : Byts w w.heap.size A b2 := by rw [hb2]; exact hB.take 2000
  have HO := fun W => l6Open_any A bs cap W hc hn
  rw [← hb2] at HO
  have hO := hide HO
  have HB2 := hide (hB2.below ((Below.refl _ w).alloc (Nat.le_refl _) (.cells #[.slice A b2.length cap, .int .i64 0] 62)))
  obtain ⟨w0, hw0⟩ : ∃ w0, w0 = w.alloc (.cells #[.slice A b2.length cap, .int .i64 0] 62) := ⟨_, rfl⟩
  have HRd := hide (show Rd w0 w.heap.size A b2.length cap 0 by rw [hw0]; exact rd_new)
  have HB0 := hide (show Byts w0 w.heap.size A b2 by rw [hw0]; exact HB2.out)
  have hs0 : w0.heap.size = w.heap.size + 1 := by rw [hw0]; simp
  have HW0 := hide (show Below w.heap.size w w0 by rw [hw0]; exact (Below.refl _ w).alloc (Nat.le_refl _) _)
  have hO2 := hide (show ∀ W, W = w → Calls Try.prog 60 #[.slice A bs.length cap] W fun e w' => e = .returned (.pointer (some ⟨w.heap.size, 0, none⟩)) ∧ w' = w0 from fun W hW => by
    subst hW
    rw [hw0]
    exact hO.out _)
  have hRw : w.heap.size < w0.heap.size := by omega
  have HS0 := hide hs0
  clear HO hb2 hB hB2 hw0 HB2 hO hs0
  go_enter Try.func54, Try.ntmps54
  go_wp2_with fail
  refine (hO2.out _ rfl).mono ?_
  rintro e w' ⟨rfl, rfl⟩
  go_wp2_with fail
  (with_reducible refine (l91Floor_any w.heap.size A b2 cap 0 8 _ HRd.out HB0.out (by omega) (by omega) hl2 (by omega) (by omega)).mono ?_)
  rintro e w1 ⟨D, xs, c, q, rfl, h1, h2, h3, h4, hR1, hq0, hq1, hg1⟩
  have HR1 := hide hR1
  have H3 := hide h3
  have H4 := hide h4
  have G1 := hide hg1
  clear hR1 h3 h4 hg1
  go_wp2_with fail
  (with_reducible refine (l91Floor_any w.heap.size A b2 cap q 8 _ HR1.out (HB0.out.grown G1.out hRw) (by omega) (by omega) hl2 (by omega) (by omega)).mono ?_)
  rintro e w2 ⟨E, ys, d, q2, rfl, k1, k2, k3, k4, hR2, hq2, hq3, hg2⟩
  have HR2 := hide hR2
  have K3 := hide k3
  have K4 := hide k4
  have H4' := hide (H4.out.carry hg2 (Nat.le_refl _) hRw)
  have G2 := hide (grown_two G1.out hg2)
  have hs1 := G1.out.size
  have hs2 := hg2.size
  have HFin := hide (show ∀ W zs, w2.grownBy W (some w.heap.size) → Bded 17 41 zs → zs.length = ys.length → Fresh W w1.heap.size w2.heap.size E zs → DrawPairs w 17 17 41 41 (.returned (.tuple #[.slice D xs.length c, .slice E ys.length d])) W from fun W zs hW hz hzl hfz =>
    ⟨D, c, xs, E, d, zs, by rw [hzl], ⟨h1, h2⟩, ⟨by rw [hzl]; exact k1, k2⟩, H3.out, hz, ((H4'.out.carry hW (by omega) hRw).mono (by omega) (by have := hW.size; omega)), hfz.mono (by omega) hW.size, HW0.out.trans (((Below.refl _ _).grown (grown_two G2.out hW) (by omega) (fun g e => by injection e with e; omega)))⟩)
  clear hR2 k3 k4 hg2
  by_cases hx0 : (0 : Int) < (xs.length : Int)
  · by_cases hy0 : (0 : Int) < (ys.length : Int)
    · have hx0' : 0 < xs.length := by omega
      have hy0' : 0 < ys.length := by omega
      go_wp2_with fail
      (with_reducible refine (pick_any w.heap.size A b2 cap q2 6 _ HR2.out (HB0.out.grown G2.out hRw) (by omega) (by omega) hl2 (by omega) (by omega)).mono ?_)
      rintro e w3 ⟨x, hx1, hx2, rfl, hR3, hg3⟩
      have G3 := hide hg3
      have KF := hide (K4.out.carry hg3 (Nat.le_refl _) (by omega))
      have HF := hide ((H4'.out.carry hg3 (by omega) hRw))
      clear hR3 hg3
      by_cases hx3 : (0 : Int) < x
      · obtain ⟨b, off, rfl, g1, g2, hcx⟩ := HF.out hx0'
        obtain ⟨b', off', rfl, g1', g2', hcy⟩ := KF.out hy0'
        have c1 := (hcx (xs.length - 1) (by omega)).1
        have c2 := (hcy 0 hy0').1
        have f2 := (hcy 0 hy0').2
        rw [Nat.add_zero] at c2 f2
        obtain ⟨v1, v2⟩ := (show Bded 17 41 xs from H3.out).2 (xs.length - 1) (by omega)
        have e1 : (0 : Int) ≤ (xs.length : Int) - 1 := by omega
        have e2 : (xs.length : Int) - 1 < (xs.length : Int) := by omega
        have e3 : ((xs.length : Int) - 1).toNat = xs.length - 1 := by omega
        have hfs := set_cell_fresh (v := at0 xs (xs.length - 1)) KF.out hy0' (by have := G3.out.size; omega)
        rw [Nat.add_zero] at hfs
        have KEY := hide (show DrawPairs w 17 17 41 41 (.returned (.tuple #[.slice (some ⟨b, off, none⟩) xs.length c, .slice (some ⟨b', off', none⟩) ys.length d])) (w3.setCell ⟨b', off', none⟩ (.int .i64 (at0 xs (xs.length - 1)))) from
          ⟨some ⟨b, off, none⟩, c, xs, some ⟨b', off', none⟩, d, ys.set 0 (at0 xs (xs.length - 1)), by rw [List.length_set], ⟨h1, h2⟩, ⟨by rw [List.length_set]; exact k1, k2⟩, H3.out, (show Bded 17 41 ys from K3.out).set 0 v1 v2,
            fun hp => ⟨b, off, rfl, by omega, by have := G3.out.size; simp; omega, fun j hj => by
              rw [World.frozen?_setCell]
              exact ⟨(World.cell?_setCell_other _ _ _ _ (fun e => by have h1 : b' = b := congrArg Addr.block e; omega)).trans (hcx j hj).1, (hcx j hj).2⟩⟩,
            hfs.mono (by omega) (by have := G3.out.size; simp; omega),
            HW0.out.trans (((Below.refl _ _).grown (grown_two G2.out G3.out) (by omega) (fun g e => by injection e with e; omega)).setCell (p := ⟨b', off', none⟩) (by show _ ≤ b'; omega) _)⟩)
        clear hcx hcy hfs
        go_wp2
        go_ret2
        exact KEY.out
      · go_wp2
        go_ret2
        exact HFin.out _ ys G3.out K3.out rfl KF.out
    · have hy0' : ¬ 0 < ys.length := by omega
      go_wp2
      go_ret2
      exact HFin.out _ ys ⟨rfl, rfl, rfl, Nat.le_refl _, fun _ _ _ => rfl⟩ K3.out rfl K4.out
  · have hx0' : ¬ 0 < xs.length := by omega
    go_wp2
    go_ret2
    exact HFin.out _ ys ⟨rfl, rfl, rfl, Nat.le_refl _, fun _ _ _ => rfl⟩ K3.out rfl K4.out
end Go.Proofs.Ytoelajocacpmgaa
