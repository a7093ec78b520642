/-
  WALKS: a small number in decimals: the reference's.
-/
import Derived.Test.YtglknakgfnoeaaaDoorBase
import Derived.Test.YtglknakgfnoeaaaDoorProg
import Derived.Laws.BytesArg
import Derived.Lib.ItoaNum
import Derived.Deep.RegionHeld3
import Derived.Orders
import Derived.RegionTactic
namespace Go.Proofs.YtglknakgfnoeaaaDoor
set_option linter.unusedVariables false
set_option linter.unusedSimpArgs false
open Go.RowKit

/-- A small number's decimals. -/
def decS (n : Nat) : ByteArray := ⟨(Lib.decDigits n).toArray⟩
theorem dec_small {n : Nat} (h : n < 10) : Lib.decDigits n = [UInt8.ofNat (48 + n)] := by unfold Lib.decDigits; rw [dif_pos h]
theorem dec_big {n : Nat} (h : ¬ n < 10) : Lib.decDigits n = Lib.decDigits (n / 10) ++ [UInt8.ofNat (48 + n % 10)] := by rw [Lib.decDigits]; rw [dif_neg h]
theorem byte_str (W : World) (b : Nat) (d : Nat) (hd : d < 10) (hc : W.cell? ⟨b, 0, none⟩ = some (.int .u8 ((48 : Int) + (d : Int)))) : (convert 22 9 (.slice (some ⟨b, 0, none⟩) 1 1)).run Tryd.prog W = .ok (.string ⟨#[48 + UInt8.ofNat d]⟩) W := by
  have h := run_convert_bytes_arg (P := Tryd.prog) W 22 5 Tryd.underlying22 Tryd.underlying5 b 0 1 1 [(48 : Int) + (d : Int)] rfl (fun i hi => by
    have hi' : i = 0 := by omega
    subst hi'
    exact hc) 9 Tryd.underlying9
  rw [h]
  have e : strOfNums [(48 : Int) + (d : Int)] = ⟨#[48 + UInt8.ofNat d]⟩ := by
    unfold strOfNums
    rw [List.map_cons, List.map_nil, show ((48 : Int) + (d : Int)).toNat = 48 + d by omega, UInt8.ofNat_add]
    rfl
  rw [e]
theorem dec_one {d : Nat} (hd : d < 10) : decS d = ⟨#[48 + UInt8.ofNat d]⟩ := by
  unfold decS
  rw [dec_small hd, UInt8.ofNat_add]
  rfl
theorem dec_two {n : Nat} (h : ¬ n < 10) : decS n = decS (n / 10) ++ ⟨#[48 + UInt8.ofNat (n % 10)]⟩ := by
  unfold decS
  rw [dec_big h, UInt8.ofNat_add]
  apply ByteArray.ext
  rw [ByteArray.data_append]
  simp
set_option maxHeartbeats 1600000 in
theorem dec1_any (d : Nat) (hd : d < 10) (w : World) : Calls Tryd.prog 15 #[.int .i64 (d : Int)] w fun e w' => e = .returned (.string (decS d)) ∧ Below w.heap.size w w' := by
  have HS := byte_str (w.alloc (.cells #[.int .u8 ((48 : Int) + (d : Int))] 5)) w.heap.size d hd (cell_of_row _ _ 0 _ _ _ (heap_alloc_new w _))
  have HD := hide (dec_one hd)
  go_enter Tryd.func15, Tryd.ntmps15
  go_wp2
  go_ret
  exact ⟨by rw [HD.out]; rfl, (Below.refl _ w).alloc (Nat.le_refl _) _⟩
set_option maxRecDepth 100000 in
set_option maxHeartbeats 3200000 in
theorem l6Dec_any (n : Nat) (hn : n < 100) (w : World) : Calls Tryd.prog 15 #[.int .i64 (n : Int)] w fun e w' => e = .returned (.string (decS n)) ∧ Below w.heap.size w w' := by
  by_cases h10 : n < 10
  · exact dec1_any n h10 w
  · obtain ⟨q, hq⟩ : ∃ q, q = n / 10 := ⟨_, rfl⟩
    obtain ⟨r, hr⟩ : ∃ r, r = n % 10 := ⟨_, rfl⟩
    have HD := hide (show decS n = decS q ++ ⟨#[48 + UInt8.ofNat r]⟩ by rw [hq, hr]; exact dec_two h10)
    have hq10 : q < 10 := by omega
    have hr10 : r < 10 := by omega
    have q1 : IntKind.i64.wrap ((n : Int) / 10) = (q : Int) := by rw [IntWalk.i64_in _ (by omega)]; omega
    have q2 : (n : Int).tmod 10 = (r : Int) := by rw [Int.tmod_eq_emod_of_nonneg (by omega)]; omega
    have q3 : IntKind.i64.wrap ((48 : Int) + (r : Int)) = 48 + (r : Int) := IntWalk.i64_in _ (by omega)
    have q4 : IntKind.u8.wrap ((48 : Int) + (r : Int)) = 48 + (r : Int) := by
      have := hr10
      simp [IntKind.wrap, IntKind.signed, IntKind.bits]; omega
    have h10' : ¬ (n : Int) < 10 := by omega
    clear hq hr
    have hsz : (decS q).size = 1 := by rw [dec_one hq10]; rfl
    go_enter Tryd.func15, Tryd.ntmps15
    go_wp2_with fail
    refine wp_region_any (by kernel_rfl) ?_
    try (change wpAny _ _ _ _ _ _ _ (World.drew _))
    have B0 := (Below.refl w.heap.size w).drew
    generalize (World.drew _) = wa at B0 ⊢
    refine wpAny_take (i := 0) (v := ?_) rfl (by kernel_rfl) (by decide +kernel) (by decide +kernel) (fun _ _ _ h => h) (Or.inl ⟨by kernel_rfl, ?_⟩) ?_
    rotate_left
    · intro w
      go_simp
      try with_reducible rfl
    try simp only [List.getElem_toArray, List.getElem_cons_succ, List.getElem_cons_zero]
    refine wpAny_take (i := 1) (v := ?_) rfl (by kernel_rfl) (by decide +kernel) (by decide +kernel) (fun _ _ _ h => h) (Or.inl ⟨by kernel_rfl, ?_⟩) ?_
    rotate_left
    · intro w
      go_simp
      try with_reducible rfl
    try simp only [List.getElem_toArray, List.getElem_cons_succ, List.getElem_cons_zero]
    refine wpAny_take (i := 3) (v := ?_) rfl (by kernel_rfl) (by decide +kernel) (by decide +kernel) (fun _ _ _ h => h) (Or.inl ⟨by kernel_rfl, ?_⟩) ?_
    rotate_left
    · intro w
      go_simp
      try with_reducible rfl
    try simp only [List.getElem_toArray, List.getElem_cons_succ, List.getElem_cons_zero]
    refine wpAny_take (i := 4) (v := ?_) rfl (by kernel_rfl) (by decide +kernel) (by decide +kernel) (fun _ _ _ h => h) (Or.inl ⟨by kernel_rfl, ?_⟩) ?_
    rotate_left
    · intro w
      go_simp
      try with_reducible rfl
    try simp only [List.getElem_toArray, List.getElem_cons_succ, List.getElem_cons_zero]
    refine wpAny_take (i := 5) (v := ?_) rfl (by kernel_rfl) (by decide +kernel) (by decide +kernel) (fun _ _ _ h => h) (Or.inl ⟨by kernel_rfl, ?_⟩) ?_
    rotate_left
    · intro w
      go_simp
      try with_reducible rfl
    try simp only [List.getElem_toArray, List.getElem_cons_succ, List.getElem_cons_zero]
    refine wpAny_take (i := 6) (v := ?_) rfl (by kernel_rfl) (by decide +kernel) (by decide +kernel) (fun _ _ _ h => h) (Or.inl ⟨by kernel_rfl, ?_⟩) ?_
    rotate_left
    · intro w
      go_simp
      try with_reducible rfl
    try simp only [List.getElem_toArray, List.getElem_cons_succ, List.getElem_cons_zero]
    refine wpAny_ready (rs := [2, 7]) (by decide +kernel) (by simp) ?_
    refine AllReady.cons rfl (fun K hK => ?_) (AllReady.cons rfl (fun K hK => ?_) AllReady.nil)
    · go_simp
      (with_reducible refine (dec1_any q hq10 _).mono ?_)
      rintro e w1 ⟨rfl, hb1⟩
      refine hK _ _ ?_
      clear hK K
      have HS := byte_str (w1.alloc (.cells #[.int .u8 ((48 : Int) + (r : Int))] 5)) w1.heap.size r hr10 (cell_of_row _ _ 0 _ _ _ (heap_alloc_new w1 _))
      refine wpAny_ready (rs := [7]) (by decide +kernel) (by simp) ?_
      refine AllReady.cons rfl (fun K hK => ?_) AllReady.nil
      go_simp
      refine hK _ _ ?_
      clear hK K
      refine wpAny_ready (rs := [8]) (by decide +kernel) (by simp) ?_
      refine AllReady.cons rfl (fun K hK => ?_) AllReady.nil
      go_simp
      refine hK _ _ ?_
      clear hK K
      refine wpAny_ready (rs := [9]) (by decide +kernel) (by simp) ?_
      refine AllReady.cons rfl (fun K hK => ?_) AllReady.nil
      go_simp
      refine hK _ _ ?_
      clear hK K
      refine wpAny_ready (rs := [10]) (by decide +kernel) (by simp) ?_
      refine AllReady.cons rfl (fun K hK => ?_) AllReady.nil
      go_simp
      refine hK _ _ ?_
      clear hK K
      refine wpAny_done (by decide +kernel) ?_ _
      go_simp
      go_wp2
      go_ret
      exact ⟨by rw [HD.out]; rfl, (bt B0 hb1).alloc (bt B0 hb1).size _⟩
    · go_simp
      refine hK _ _ ?_
      clear hK K
      have BA := B0.alloc B0.size (.cells #[.int .u8 ((48 : Int) + (r : Int))] 5)
      have hc0 : (wa.alloc (.cells #[.int .u8 ((48 : Int) + (r : Int))] 5)).cell? ⟨wa.heap.size, 0, none⟩ = some (.int .u8 ((48 : Int) + (r : Int))) := cell_of_row _ _ 0 _ _ _ (heap_alloc_new wa _)
      refine wpAny_ready (rs := [2, 8]) (by decide +kernel) (by simp) ?_
      refine AllReady.cons rfl (fun K hK => ?_) (AllReady.cons rfl (fun K hK => ?_) AllReady.nil)
      · go_simp
        (with_reducible refine (dec1_any q hq10 _).mono ?_)
        rintro e w1 ⟨rfl, hb1⟩
        refine hK _ _ ?_
        clear hK K
        have hc8 := (hb1.cell (p := ⟨wa.heap.size, 0, none⟩) (by simp)).trans hc0
        have HS := byte_str w1 wa.heap.size r hr10 hc8
        refine wpAny_ready (rs := [8]) (by decide +kernel) (by simp) ?_
        refine AllReady.cons rfl (fun K hK => ?_) AllReady.nil
        go_simp
        refine hK _ _ ?_
        clear hK K
        refine wpAny_ready (rs := [9]) (by decide +kernel) (by simp) ?_
        refine AllReady.cons rfl (fun K hK => ?_) AllReady.nil
        go_simp
        refine hK _ _ ?_
        clear hK K
        refine wpAny_ready (rs := [10]) (by decide +kernel) (by simp) ?_
        refine AllReady.cons rfl (fun K hK => ?_) AllReady.nil
        go_simp
        refine hK _ _ ?_
        clear hK K
        refine wpAny_done (by decide +kernel) ?_ _
        go_simp
        go_wp2
        go_ret
        exact ⟨by rw [HD.out]; rfl, bt BA hb1⟩
      · have HS := byte_str (wa.alloc (.cells #[.int .u8 ((48 : Int) + (r : Int))] 5)) wa.heap.size r hr10 hc0
        go_simp
        refine hK _ _ ?_
        clear hK K
        refine wpAny_ready (rs := [2]) (by decide +kernel) (by simp) ?_
        refine AllReady.cons rfl (fun K hK => ?_) AllReady.nil
        go_simp
        (with_reducible refine (dec1_any q hq10 _).mono ?_)
        rintro e w1 ⟨rfl, hb1⟩
        refine hK _ _ ?_
        clear hK K
        refine wpAny_ready (rs := [9]) (by decide +kernel) (by simp) ?_
        refine AllReady.cons rfl (fun K hK => ?_) AllReady.nil
        go_simp
        refine hK _ _ ?_
        clear hK K
        refine wpAny_ready (rs := [10]) (by decide +kernel) (by simp) ?_
        refine AllReady.cons rfl (fun K hK => ?_) AllReady.nil
        go_simp
        refine hK _ _ ?_
        clear hK K
        refine wpAny_done (by decide +kernel) ?_ _
        go_simp
        go_wp2
        go_ret
        exact ⟨by rw [HD.out]; rfl, bt BA hb1⟩
end Go.Proofs.YtglknakgfnoeaaaDoor
