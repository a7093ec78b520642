/-
  WALKS: the miles at which a cable can be broken: the program's.
-/
import Derived.Test.YtglknakgfnoeaaaBreakM
import Derived.Test.YtglknakgfnoeaaaFault
import Derived.OneCell
import Derived.Deep.LoopGhost
namespace Go.Proofs.Ytglknakgfnoeaaa
set_option linter.unusedVariables false
set_option linter.unusedSimpArgs false
open Go.RowKit

/-- One int in a box of its own. -/
abbrev One (w : World) (B : Nat) (v : Int) : Prop := w.heap[B]? = some (.cells #[.int .i64 v] 3 (0, 0))
theorem One.lt {w : World} {B : Nat} {v : Int} (h : One w B v) : B < w.heap.size := lt_of_block h
theorem One.on {lo : Nat} {w w' : World} {B : Nat} {v : Int} (h : One w B v) (hb : Below lo w w') (hlo : B < lo) : One w' B v := (hb.block B hlo).trans h
theorem One.alloc {w : World} {B : Nat} {v : Int} (h : One w B v) (o : Obj) : One (w.alloc o) B v := (Below.heap_alloc _ _ _ h.lt).trans h
theorem One.other {w : World} {B : Nat} {v : Int} (h : One w B v) {B' : Nat} (hne : B ≠ B') (u : Value) : One (w.setCell ⟨B', 0, none⟩ u) B v := (Below.heap_setCell _ ⟨B', 0, none⟩ _ B hne).trans h
theorem One.set {w : World} {B : Nat} {v : Int} (h : One w B v) (u : Int) : One (w.setCell ⟨B, 0, none⟩ (.int .i64 u)) B u := one_setCell h

/-- The end, the least mile, the greatest one. -/
abbrev Three (w : World) (Be Bl Bm : Nat) (e a b : Int) : Prop := One w Be e ∧ One w Bl a ∧ One w Bm b

set_option maxHeartbeats 1600000 in
theorem breakClo_any (m o e a b : Int) (Be Bl Bm base : Nat) (w : World) (h : Three w Be Bl Bm e a b) (hd : Be ≠ Bl ∧ Be ≠ Bm ∧ Bl ≠ Bm) (hbase : base ≤ Bl ∧ base ≤ Bm ∧ base ≤ w.heap.size) :
    Calls Try.prog 58 #[.agg #[.int .i64 m, .int .i64 o], .pointer (some ⟨Be, 0, none⟩), .pointer (some ⟨Bl, 0, none⟩), .pointer (some ⟨Bm, 0, none⟩)] w
      fun x w' => x = .returned (.bool true) ∧ Three w' Be Bl Bm e (if o ≤ e then (if a < 0 then m else a) else a) (if o ≤ e then m else b) ∧ Below base w w' := by
  obtain ⟨h1, h2, h3⟩ := h
  obtain ⟨d1, d2, d3⟩ := hd
  obtain ⟨b1, b2, b3⟩ := hbase
  have l2 := h2.lt
  have l3 := h3.lt
  have H1 := hide h1
  have H2 := hide h2
  have H3 := hide h3
  have c1 := cell_of_one (h1.alloc (.cells #[.int .i64 m, .int .i64 o] 32))
  have c2 := cell_of_one (h2.alloc (.cells #[.int .i64 m, .int .i64 o] 32))
  have c3 := cell_of_one (h3.alloc (.cells #[.int .i64 m, .int .i64 o] 32))
  have f2 := free_of_one (h2.alloc (.cells #[.int .i64 m, .int .i64 o] 32))
  have f3 := free_of_one (h3.alloc (.cells #[.int .i64 m, .int .i64 o] 32))
  have c3' := cell_of_one ((h3.other (Ne.symm d3) (.int .i64 m)).alloc (.cells #[.int .i64 m, .int .i64 o] 32))
  have f3' := free_of_one ((h3.other (Ne.symm d3) (.int .i64 m)).alloc (.cells #[.int .i64 m, .int .i64 o] 32))
  clear h1 h2 h3
  by_cases hoe : o ≤ e
  · rw [if_pos hoe, if_pos hoe]
    by_cases ha : a < 0
    · rw [if_pos ha]
      go_enter Try.func58, Try.ntmps58
      go_wp2
      go_ret
      exact ⟨rfl, ⟨((H1.out.other d1 _).other d2 _).alloc _, ((H2.out.set m).other d3 _).alloc _, ((H3.out.other (Ne.symm d3) _).set m).alloc _⟩, (((Below.refl base w).setCell (p := ⟨Bl, 0, none⟩) b1 _).setCell (p := ⟨Bm, 0, none⟩) b2 _).alloc (by simpa [World.setCell] using b3) _⟩
    · rw [if_neg ha]
      go_enter Try.func58, Try.ntmps58
      go_wp2
      go_ret
      exact ⟨rfl, ⟨(H1.out.other d2 _).alloc _, (H2.out.other d3 _).alloc _, (H3.out.set m).alloc _⟩, ((Below.refl base w).setCell (p := ⟨Bm, 0, none⟩) b2 _).alloc (by simpa [World.setCell] using b3) _⟩
  · rw [if_neg hoe, if_neg hoe]
    go_enter Try.func58, Try.ntmps58
    go_wp2
    go_ret
    exact ⟨rfl, ⟨H1.out.alloc _, H2.out.alloc _, H3.out.alloc _⟩, (Below.refl base w).alloc b3 _⟩

theorem ohms_in {fl : List Int} {n : Nat} {m : Int} (h : cableOk fl n = true) (h0 : 0 ≤ m) (h1 : m ≤ miles fl n) : 0 ≤ ohms fl n m ∧ ohms fl n m ≤ 8000 := by
  have hm : inB m 0 (miles fl n) = true := inB_iff.2 ⟨h0, h1⟩
  obtain ⟨-, m0, m1⟩ := inB_miles hm
  simp only [ohms, hm, if_true]
  exact ohmsTo_bd h m0 m1 (Nat.le_refl n)
theorem brHit_off {fl : List Int} {n : Nat} {x e : Int} {k : Nat} (h : inB (x - ohms fl n (k : Int)) 0 1000 = false) (he : e ≤ 1000) : brHit fl n x e k = false := by
  have : ¬ (0 ≤ x - ohms fl n (k : Int) ∧ x - ohms fl n (k : Int) ≤ 1000) := fun hh => by rw [inB_iff.2 hh] at h; cases h
  simp only [brHit, Bool.and_eq_false_iff, decide_eq_false_iff_not]
  omega
theorem brS_on {fl : List Int} {n : Nat} {x e : Int} {k : Nat} (h : inB (x - ohms fl n (k : Int)) 0 1000 = true) :
    (if x - ohms fl n (k : Int) ≤ e then (if (brS fl n x e k).1 < 0 then (k : Int) else (brS fl n x e k).1) else (brS fl n x e k).1) = (brS fl n x e (k + 1)).1 ∧ (if x - ohms fl n (k : Int) ≤ e then (k : Int) else (brS fl n x e k).2) = (brS fl n x e (k + 1)).2 := by
  obtain ⟨h0, h1⟩ := inB_iff.1 h
  by_cases he : x - ohms fl n (k : Int) ≤ e
  · have hh : brHit fl n x e k = true := by simp only [brHit, Bool.and_eq_true, decide_eq_true_eq]; omega
    simp only [he, if_true, brS, hh]
    exact ⟨trivial, trivial⟩
  · have hh : brHit fl n x e k = false := by simp only [brHit, Bool.and_eq_false_iff, decide_eq_false_iff_not]; omega
    simp [he, brS_no hh]

set_option maxHeartbeats 3200000 in
theorem eachFault_any (A : Option Addr) (fl : List Int) (n cap : Nat) (x e : Int) (Be Bl Bm base : Nat) (w : World) (hl : fl.length = n * 3) (h : Ints w base A fl) (hn : n ≤ 1048576) (hok : cableOk fl n = true) (x0 : 0 ≤ x) (x1 : x ≤ 9223372036854775807) (e1 : e ≤ 1000)
    (h3 : Three w Be Bl Bm e (-1) (-1)) (hd : Be ≠ Bl ∧ Be ≠ Bm ∧ Bl ≠ Bm) (hbase : base ≤ Be ∧ base ≤ Bl ∧ base ≤ Bm) :
    Calls Try.prog 57 #[.slice A n cap, .int .i64 x, .func (.func 58) #[] #[.pointer (some ⟨Be, 0, none⟩), .pointer (some ⟨Bl, 0, none⟩), .pointer (some ⟨Bm, 0, none⟩)]] w
      fun r w' => r = .returned (.tuple #[]) ∧ Three w' Be Bl Bm e (brAll fl n x e).1 (brAll fl n x e).2 ∧ Below base w w' := by
  obtain ⟨z0, z1⟩ := miles_le hok
  obtain ⟨M, hM⟩ : ∃ M : Nat, miles fl n = (M : Int) := ⟨(miles fl n).toNat, by omega⟩
  have HA := hide (show brAll fl n x e = brS fl n x e (M + 1) by simp [brAll, hM])
  have hM1 : (M : Int) ≤ 400 := by omega
  have hbs : base ≤ w.heap.size := by have := h3.1.lt; omega
  have HM := hide hM
  have HI := hide h
  have H3 := hide h3
  have HL := hide hl
  have HD := hide hd
  clear h h3 hl hM z0 z1 hd
  rw [HA.out]
  go_enter Try.func57, Try.ntmps57
  go_wp2_with fail
  (with_reducible refine (cableMiles_any _ fl n _ _ HL.out (HI.out.mono hbs) hn).mono ?_)
  rintro r w1 ⟨rfl, hb1⟩
  rw [HM.out]
  have S1 := hide (show Three w1 Be Bl Bm e (-1) (-1) from ⟨H3.out.1.on hb1 H3.out.1.lt, H3.out.2.1.on hb1 H3.out.2.1.lt, H3.out.2.2.on hb1 H3.out.2.2.lt⟩)
  have B1 := hide (show Below base w w1 from hb1.mono hbs)
  clear hb1
  go_wp2_with fail
  go_loopw [11] (fun i wr => ∃ k : Nat, k ≤ M + 1 ∧ i = .int .i64 (k : Int) ∧ Hid (Three wr Be Bl Bm e (brS fl n x e k).1 (brS fl n x e k).2) ∧ Hid (Below base w wr)) (fun i _ => M + 1 - (intOf i).toNat)
  case atStart => exact ⟨0, Nat.zero_le _, rfl, S1.out, B1.out⟩
  case round =>
    obtain ⟨k, hk, rfl, hT, hB⟩ := hrel
    by_cases hlt : k < M + 1
    · obtain ⟨o0, o1⟩ := ohms_in hok (show (0 : Int) ≤ (k : Int) by omega) (show (k : Int) ≤ miles fl n by rw [HM.out]; omega)
      go_wp2_with fail
      (with_reducible refine (cableOhms_any _ fl n _ _ _ HL.out ((HI.out.below hB.out).mono (Nat.le_trans hbs hB.out.size)) hn).mono ?_)
      rintro r w2 ⟨rfl, hb2⟩
      have T2 := hide (show Three w2 Be Bl Bm e (brS fl n x e k).1 (brS fl n x e k).2 from ⟨hT.out.1.on hb2 hT.out.1.lt, hT.out.2.1.on hb2 hT.out.2.1.lt, hT.out.2.2.on hb2 hT.out.2.2.lt⟩)
      have B2 := hide (hB.out.trans (hb2.mono (Nat.le_trans hbs hB.out.size)))
      have k0 : (w2.alloc (.cells #[.int .i64 (k : Int), .int .i64 (x - ohms fl n (k : Int))] 32)).cell? ⟨w2.heap.size, 0, none⟩ = some (.int .i64 (k : Int)) := cell_of_row _ _ 0 _ _ _ (heap_alloc_new w2 _)
      have k1 : (w2.alloc (.cells #[.int .i64 (k : Int), .int .i64 (x - ohms fl n (k : Int))] 32)).cell? ⟨w2.heap.size, 1, none⟩ = some (.int .i64 (x - ohms fl n (k : Int))) := cell_of_row _ _ 1 _ _ _ (heap_alloc_new w2 _)
      have B3 := hide (B2.out.alloc (Nat.le_trans hbs (Nat.le_trans hB.out.size hb2.size)) (.cells #[.int .i64 (k : Int), .int .i64 (x - ohms fl n (k : Int))] 32))
      have T3 := hide (show Three (w2.alloc (.cells #[.int .i64 (k : Int), .int .i64 (x - ohms fl n (k : Int))] 32)) Be Bl Bm e (brS fl n x e k).1 (brS fl n x e k).2 from ⟨T2.out.1.alloc _, T2.out.2.1.alloc _, T2.out.2.2.alloc _⟩)
      clear hb2
      by_cases hv : inB (x - ohms fl n (k : Int)) 0 1000 = true
      · have HV := hide hv
        obtain ⟨e3, e4⟩ := brS_on (e := e) hv
        have E3 := hide e3
        have E4 := hide e4
        have HCl := hide (breakClo_any (k : Int) (x - ohms fl n (k : Int)) e (brS fl n x e k).1 (brS fl n x e k).2 Be Bl Bm base (w2.alloc (.cells #[.int .i64 (k : Int), .int .i64 (x - ohms fl n (k : Int))] 32)) T3.out HD.out ⟨hbase.2.1, hbase.2.2, Nat.le_trans hbs B3.out.size⟩)
        clear hv e3 e4
        go_wp2_with fail
        (with_reducible refine (ohmsValid_any _ _).mono ?_)
        rintro r w' ⟨rfl, rfl⟩
        rw [HV.out]
        go_wp2_with fail
        (with_reducible refine HCl.out.mono ?_)
        rintro r w4 ⟨rfl, hT4, hb4⟩
        rw [E3.out, E4.out] at hT4
        have T4 := hide hT4
        have B4 := hide (B3.out.trans hb4)
        clear hT4 hb4
        go_wp2
        go_roundw
        case rel => exact ⟨k + 1, by omega, by go_num, T4.out, B4.out⟩
        case measure => simp [intOf]; omega
      · have hv' : inB (x - ohms fl n (k : Int)) 0 1000 = false := by simpa using hv
        have HV := hide hv'
        have E := hide (brS_no (brHit_off hv' e1))
        clear hv hv'
        go_wp2_with fail
        (with_reducible refine (ohmsValid_any _ _).mono ?_)
        rintro r w' ⟨rfl, rfl⟩
        rw [HV.out]
        go_wp2
        go_roundw
        case rel => exact ⟨k + 1, by omega, by go_num, by rw [E.out]; exact T3.out, B3.out⟩
        case measure => simp [intOf]; omega
    · have hkk : k = M + 1 := by omega
      subst hkk
      go_wp2
      go_end0
      exact ⟨rfl, hT.out, hB.out⟩

set_option maxHeartbeats 3200000 in
theorem breakRange_any (A : Option Addr) (fl : List Int) (n cap : Nat) (x e : Int) (w : World) (hl : fl.length = n * 3) (h : Ints w w.heap.size A fl) (hn : n ≤ 1048576) (x1 : x ≤ 9223372036854775807) :
    Calls Try.prog 35 #[.slice A n cap, .int .i64 x, .int .i64 e] w fun r w' => r = .returned (.tuple #[.int .i64 (brLo fl n x e), .int .i64 (brHi fl n x e), .bool (brOk fl n x e)]) ∧ Below w.heap.size w w' := by
  have H := hide h
  have HL := hide hl
  clear h hl
  have O1 : One (w.alloc (.cells #[.int .i64 e] 3)) w.heap.size e := heap_alloc_new w _
  have B0 := hide ((Below.refl w.heap.size w).alloc (Nat.le_refl _) (.cells #[.int .i64 e] 3))
  by_cases ha : cableOk fl n = true
  · have HA := hide ha
    by_cases hx : 0 ≤ x
    · by_cases he : inB e 0 1000 = true
      · have HE := hide he
        obtain ⟨e0, e1⟩ := inB_iff.1 he
        clear ha he
        go_enter Try.func35, Try.ntmps35
        go_wp2_with fail
        (with_reducible refine (cableValid_any _ fl n _ _ HL.out ((H.out.below B0.out).mono B0.out.size) hn).mono ?_)
        rintro r w1 ⟨rfl, hb1⟩
        rw [HA.out]
        have O2 := O1.on hb1 O1.lt
        have c2 := cell_of_one O2
        have B1 := hide (bt B0.out hb1)
        have L1 := hide O2.lt
        have O2' := hide O2
        clear hb1 O1 O2
        go_wp2_with fail
        (with_reducible refine (ohmsValid_any _ _).mono ?_)
        rintro r w' ⟨rfl, rfl⟩
        rw [HE.out]
        go_wp2_with fail
        have T0 : Three ((w1.alloc (.cells #[.int .i64 (-1)] 3)).alloc (.cells #[.int .i64 (-1)] 3)) w.heap.size w1.heap.size (w1.heap.size + 1) e (-1) (-1) :=
          ⟨(O2'.out.alloc _).alloc _, One.alloc (v := -1) (heap_alloc_new w1 _) _, by have := heap_alloc_new (w1.alloc (.cells #[.int .i64 (-1)] 3)) (.cells #[.int .i64 (-1)] 3); rw [World.size_alloc] at this; exact this⟩
        have B2 : Below w.heap.size w ((w1.alloc (.cells #[.int .i64 (-1)] 3)).alloc (.cells #[.int .i64 (-1)] 3)) := (B1.out.alloc B1.out.size _).alloc (by have := B1.out.size; simp; omega) _
        have b1 := B1.out.size
        (with_reducible refine (eachFault_any A fl n cap x e w.heap.size w1.heap.size (w1.heap.size + 1) w.heap.size _ HL.out (H.out.below B2) hn HA.out hx x1 e1 T0 ⟨by have := L1.out; omega, by have := L1.out; omega, by omega⟩ ⟨Nat.le_refl _, b1, by omega⟩).mono ?_)
        rintro r w4 ⟨rfl, ⟨-, T1, T2⟩, hb4⟩
        have B4 := hide (B2.trans hb4)
        have c3 := cell_of_one T1
        have c4 := cell_of_one T2
        clear T0 B2 hb4 T1 T2
        obtain ⟨a, hA⟩ : ∃ a, a = (brAll fl n x e).1 := ⟨_, rfl⟩
        obtain ⟨b, hB⟩ : ∃ b, b = (brAll fl n x e).2 := ⟨_, rfl⟩
        rw [← hA] at c3
        rw [← hB] at c4
        by_cases hz : a < 0
        · have HO := hide (show brOk fl n x e = false by
            simp only [brOk, Bool.and_eq_false_iff, decide_eq_false_iff_not]; exact Or.inr (by omega))
          have HO1 := hide (show brLo fl n x e = 0 by simp [brLo, HO.out])
          have HO2 := hide (show brHi fl n x e = 0 by simp [brHi, HO.out])
          clear hA hB
          go_wp2
          go_ret3
          rw [HO.out, HO1.out, HO2.out]
          exact ⟨rfl, B4.out⟩
        · have HO := hide (show brOk fl n x e = true by
            show ((cableOk fl n && (decide (0 ≤ x) && inB e 0 1000)) && decide (0 ≤ (brAll fl n x e).1)) = true
            rw [HA.out, HE.out, decide_eq_true hx, decide_eq_true (show 0 ≤ (brAll fl n x e).1 by omega)]; rfl)
          have HO1 := hide (show brLo fl n x e = a by simp only [brLo, HO.out, if_true, hA])
          have HO2 := hide (show brHi fl n x e = b by simp only [brHi, HO.out, if_true, hB])
          clear hA hB
          go_wp2_with fail
          go_region
          all_goals go_wp2
          all_goals go_ret3
          all_goals rw [HO.out, HO1.out, HO2.out]
          all_goals exact ⟨rfl, B4.out.drew⟩
      · have he' : inB e 0 1000 = false := by simpa using he
        have HE := hide he'
        have HO := hide (show brOk fl n x e = false by simp [brOk, brAsk, he'])
        have HO1 := hide (show brLo fl n x e = 0 by simp [brLo, HO.out])
        have HO2 := hide (show brHi fl n x e = 0 by simp [brHi, HO.out])
        rw [HO.out, HO1.out, HO2.out]
        clear ha he he'
        go_enter Try.func35, Try.ntmps35
        go_wp2_with fail
        (with_reducible refine (cableValid_any _ fl n _ _ HL.out ((H.out.below B0.out).mono B0.out.size) hn).mono ?_)
        rintro r w1 ⟨rfl, hb1⟩
        rw [HA.out]
        have c2 := cell_of_one (O1.on hb1 O1.lt)
        have B1 := hide (bt B0.out hb1)
        clear hb1 O1
        go_wp2_with fail
        (with_reducible refine (ohmsValid_any _ _).mono ?_)
        rintro r w' ⟨rfl, rfl⟩
        rw [HE.out]
        go_wp2
        go_ret3
        exact ⟨rfl, B1.out⟩
    · have HO := hide (show brOk fl n x e = false by simp [brOk, brAsk, hx])
      have HO1 := hide (show brLo fl n x e = 0 by simp [brLo, HO.out])
      have HO2 := hide (show brHi fl n x e = 0 by simp [brHi, HO.out])
      rw [HO.out, HO1.out, HO2.out]
      clear ha O1
      have hx' : x < 0 := by omega
      go_enter Try.func35, Try.ntmps35
      go_wp2_with fail
      (with_reducible refine (cableValid_any _ fl n _ _ HL.out ((H.out.below B0.out).mono B0.out.size) hn).mono ?_)
      rintro r w1 ⟨rfl, hb1⟩
      rw [HA.out]
      have B1 := hide (bt B0.out hb1)
      clear hb1
      go_wp2
      go_ret3
      exact ⟨rfl, B1.out⟩
  · have ha' : cableOk fl n = false := by simpa using ha
    have HA := hide ha'
    have HO := hide (show brOk fl n x e = false by simp [brOk, brAsk, ha'])
    have HO1 := hide (show brLo fl n x e = 0 by simp [brLo, HO.out])
    have HO2 := hide (show brHi fl n x e = 0 by simp [brHi, HO.out])
    rw [HO.out, HO1.out, HO2.out]
    clear ha ha' O1
    go_enter Try.func35, Try.ntmps35
    go_wp2_with fail
    (with_reducible refine (cableValid_any _ fl n _ _ HL.out ((H.out.below B0.out).mono B0.out.size) hn).mono ?_)
    rintro r w1 ⟨rfl, hb1⟩
    rw [HA.out]
    have B1 := hide (bt B0.out hb1)
    clear hb1
    go_wp2
    go_ret3
    exact ⟨rfl, B1.out⟩
end Go.Proofs.Ytglknakgfnoeaaa
