/-
  WALKS: the plain cable: the program's.
-/
import Derived.Test.YtglknakgfnoeaaaPlainM
import Derived.Test.YtglknakgfnoeaaaSecApp
import Derived.Test.YtglknakgfnoeaaaClipS
import Derived.RegionTactic
import Derived.Deep.RegionHeld3
import Derived.Deep.DeepCutAuto
import Derived.OwnWalk
import Derived.Orders
import Derived.BigRegion
import Derived.BigQuiet
import Derived.Deep.QuietTactic
import Derived.Laws.OwnMore
namespace Go.Proofs.Ytglknakgfnoeaaa
set_option linter.unusedVariables false
set_option linter.unusedSimpArgs false
open Go.RowKit Go.Shelf
attribute [local go_sem] Oper.semAt_some

theorem plainN_le {fl : List Int} {n m : Nat} (h : n ≤ m) : plainN fl n ≤ m := by
  have := plL_len fl n
  unfold plainN
  split <;> omega
theorem plain_no {fl : List Int} {n : Nat} (h : plainOk fl n = false) {w : World} {A : Option Addr} {cap : Nat} (hcap : cap ≤ 9223372036854775807) {w' : World} (hb : Below w.heap.size w w') :
    RetSecs w (plain fl n) (plainN fl n) (plainOk fl n) (.returned (.tuple #[.slice A 0 cap, .bool false])) w' := by
  simp only [plain, plainN, h]
  exact ⟨A, cap, rfl, rfl, Nat.zero_le _, hcap, Fresh.nil _ _ _ _, hb⟩
/-- The joined sections lie in a row of the call's own. -/
def OwnL (w : World) (base : Nat) (v : Value) (L : List Sec3) : Prop := w.ownsRow base 42 3 v L.length ((flatS L).map (Value.int .i64))
theorem OwnL.on {w w' : World} {base : Nat} {v : Value} {L : List Sec3} (h : OwnL w base v L) (hb : Below w.heap.size w w') : OwnL w' base v L := own_on h hb
theorem OwnL.alloc {w : World} {base : Nat} {v : Value} {L : List Sec3} (h : OwnL w base v L) (o : Obj) : OwnL (w.alloc o) base v L := World.ownsRow.alloc h o
/-- The last section's cells. -/
theorem OwnL.last {w : World} {base : Nat} {v : Value} {I : List Sec3} {z : Sec3} (h : OwnL w base v (I ++ [z])) : ∃ g c, v = .slice (some ⟨g, 0, none⟩) (I.length + 1) c ∧ base ≤ g ∧ g < w.heap.size ∧
    w.cell? ⟨g, I.length * 3, none⟩ = some (.int .i64 z.1) ∧ w.cell? ⟨g, I.length * 3 + 1, none⟩ = some (.int .i64 z.2.1) ∧ w.cell? ⟨g, I.length * 3 + 2, none⟩ = some (.int .i64 z.2.2) ∧ w.frozen? ⟨g, I.length * 3, none⟩ = false := by
  have h' : w.ownsRow base 42 3 v (I.length + 1) ((flatS (I ++ [z])).map (Value.int .i64)) := by have := h; unfold OwnL at this; simpa using this
  obtain ⟨g, cap, rfl, hb, hlt⟩ := h'.form (by omega)
  have hl := flatS_len I
  have hl' : (flatS (I ++ [z])).length = (I.length + 1) * 3 := by rw [flatS_len]; simp
  obtain ⟨a, b, c⟩ := flat_snoc I z
  have key : ∀ j, j < (I.length + 1) * 3 → w.cell? ⟨g, j, none⟩ = some (.int .i64 (at0 (flatS (I ++ [z])) j)) := fun j hj => by
    rw [h'.cellAt j hj, List.getElem?_map, List.getElem?_eq_getElem (by omega), at0_lt (by omega)]; rfl
  refine ⟨g, cap, rfl, hb, hlt, ?_, ?_, ?_, h'.frozenAt _⟩
  · rw [key _ (by omega), a]
  · rw [key _ (by omega), b]
  · rw [key _ (by omega), c]
/-- The last section grows. -/
theorem OwnL.grow {w : World} {base g c : Nat} {I : List Sec3} {z : Sec3} (h : OwnL w base (.slice (some ⟨g, 0, none⟩) (I.length + 1) c) (I ++ [z])) (x : Int) :
    OwnL (w.setCell ⟨g, I.length * 3, none⟩ (.int .i64 x)) base (.slice (some ⟨g, 0, none⟩) (I.length + 1) c) (I ++ [(x, z.2)]) := by
  have h' : w.ownsRow base 42 3 (.slice (some ⟨g, 0, none⟩) (I.length + 1) c) (I.length + 1) ((flatS (I ++ [z])).map (Value.int .i64)) := by have := h; unfold OwnL at this; simpa using this
  have := (h'.stored (I.length * 3) (.int .i64 x)).1
  have e : ((flatS (I ++ [z])).map (Value.int .i64)).set (I.length * 3) (.int .i64 x) = (flatS (I ++ [(x, z.2)])).map (Value.int .i64) := by
    rw [flatS_app, flatS_app, flatS_one, flatS_one, List.map_append, List.map_append, List.set_append_right _ _ (by rw [List.length_map, flatS_len]; omega)]
    simp [flatS_len]
  rw [e] at this
  unfold OwnL
  simpa using this
/-- A section more. -/
theorem OwnL.push {w : World} {base : Nat} {v : Value} {L : List Sec3} (t : Sec3) (h : OwnL w base v L) (hb : base ≤ w.heap.size) (hn : L.length ≤ 1048576) :
    ∃ v' w', (Builtin.append_ #[23, 23] 23 #[v, .slice (some ⟨w.heap.size, 0, none⟩) 1 1]).run Try.prog (w.alloc (.cells #[.int .i64 t.1, .int .i64 t.2.1, .int .i64 t.2.2] 42)) = .ok v' w' ∧
      OwnL w' base v' (L ++ [t]) ∧ Below base w w' := by
  obtain ⟨v', w', h1, h2, h3, -⟩ := append_sec w base v L.length (flatS L) t.1 t.2.1 t.2.2 h hb hn
  refine ⟨v', w', h1, ?_, h3⟩
  unfold OwnL
  rw [flatS_app, flatS_one]
  simpa using h2

/-- The last section is joined with one more. -/
def joins (L : List Sec3) (t : Sec3) : Bool := match L.reverse with
  | [] => false
  | z :: _ => same3 z t
set_option maxHeartbeats 6400000 in
theorem cablePlain_any (A : Option Addr) (fl : List Int) (n cap : Nat) (w : World) (hl : fl.length = n * 3) (h : Ints w w.heap.size A fl) (hn : n ≤ 1048576) :
    Calls Try.prog 15 #[.slice A n cap] w (RetSecs w (plain fl n) (plainN fl n) (plainOk fl n)) := by
  have H := hide h
  have HL := hide hl
  clear h hl
  by_cases hf : cableOk fl n = true
  · have HF := hide hf
    obtain ⟨⟨n1, n2⟩, -⟩ := cableOk_iff.1 hf
    obtain ⟨b, off, rfl, hb, hc⟩ := H.out (by have := HL.out; omega)
    have HC := hide hc
    clear hf hc
    go_enter Try.func15, Try.ntmps15
    go_wp2_with fail
    (with_reducible refine (cableValid_any _ fl n _ _ HL.out H.out hn).mono ?_)
    rintro e w1 ⟨rfl, hb1⟩
    rw [HF.out]
    have HB1 := hide hb1
    clear hb1
    go_wp2
    go_loopw [4, 14] (fun v i wr => ∃ k : Nat, k ≤ n ∧ i = .int .i64 (k : Int) ∧ Hid (OwnL wr w.heap.size v (plL fl k)) ∧ Hid (Below w.heap.size w wr)) (fun _ i _ => n - (intOf i).toNat)
    case atStart => exact ⟨0, Nat.zero_le _, rfl, (World.ownsRow_made w1 #[] 0 HB1.out.size (Nat.zero_le _) rfl), HB1.out.alloc HB1.out.size _⟩
    case round =>
      obtain ⟨k, hk, rfl, hO, hB⟩ := hrel
      by_cases hlt : k < n
      · have hlt' : (k : Int) < (n : Int) := by omega
        obtain ⟨c0, c1, c2⟩ := sec_cells (w := wr) (hi := 0) (b := b) (off := off) (k := k) HL.out (fun j hj => (hB.out.cell (p := ⟨b, off + j, none⟩) hb).trans (HC.out j hj)) hlt
        obtain ⟨⟨v1, v2⟩, -⟩ := sec_bd HF.out hlt
        have hps := hide (plL_succ fl k)
        have hpl := plL_len fl k
        obtain ⟨x, hx⟩ : ∃ x, x = at0 fl (k * 3) := ⟨_, rfl⟩
        obtain ⟨y, hy⟩ : ∃ x, x = at0 fl (k * 3 + 1) := ⟨_, rfl⟩
        obtain ⟨o, ho⟩ : ∃ x, x = at0 fl (k * 3 + 2) := ⟨_, rfl⟩
        have HT := hide (show sec3 fl k = (x, y, o) by rw [hx, hy, ho]; rfl)
        rw [← hx] at c0 v1 v2
        rw [← hy] at c1
        rw [← ho] at c2
        clear hx hy ho
        obtain ⟨L, hL⟩ : ∃ L, L = plL fl k := ⟨_, rfl⟩
        have HLe := hide hL
        rw [← hL] at hO hpl
        have Y := hide (hB.out.alloc hB.out.size (.cells #[.int .i64 x, .int .i64 y, .int .i64 o] 42))
        have d1 : (wr.alloc (.cells #[.int .i64 x, .int .i64 y, .int .i64 o] 42)).cell? ⟨wr.heap.size, 1, none⟩ = some (.int .i64 y) := cell_of_row _ _ 1 _ _ _ (heap_alloc_new wr _)
        have d2 : (wr.alloc (.cells #[.int .i64 x, .int .i64 y, .int .i64 o] 42)).cell? ⟨wr.heap.size, 2, none⟩ = some (.int .i64 o) := cell_of_row _ _ 2 _ _ _ (heap_alloc_new wr _)
        have d0 : (wr.alloc (.cells #[.int .i64 x, .int .i64 y, .int .i64 o] 42)).cell? ⟨wr.heap.size, 0, none⟩ = some (.int .i64 x) := cell_of_row _ _ 0 _ _ _ (heap_alloc_new wr _)
        have OY := hide (hO.out.alloc (.cells #[.int .i64 x, .int .i64 y, .int .i64 o] 42))
        clear hL
        obtain ⟨AL, cL, rfl, hcL1, hcL2⟩ := own_formS OY.out
        obtain ⟨p, hp⟩ : ∃ p, p = L.length := ⟨_, rfl⟩
        rw [← hp] at hpl hcL1
        have HP := hide hp
        rw [← hp]
        rw [← hp] at hO OY
        clear hp
        obtain ⟨W, hW⟩ : ∃ W, W = wr.alloc (.cells #[.int .i64 x, .int .i64 y, .int .i64 o] 42) := ⟨_, rfl⟩
        have hWs : wr.heap.size < W.heap.size := by rw [hW]; simp
        rw [← hW] at d0 d1 d2 OY Y
        go_wp2_with fail
        go_cut [43] (fun s wx => s = .bool (joins L (x, y, o)) ∧ Below W.heap.size W wx)
        case first =>
          obtain rfl | ⟨I, z, hI⟩ := List.eq_nil_or_concat L
          · rw [← hW]
            clear hW
            have hp0 : p = 0 := HP.out
            clear HP
            subst hp0
            go_quiet (fail)
            go_wp2_with fail
            go_meet
            exact ⟨rfl, below_drewN (Below.refl _ _) _⟩
          · rw [List.concat_eq_append] at hI
            subst hI
            obtain ⟨g, c, hv, hg, hgl, g0, g1, g2, gf⟩ := OY.out.last
            obtain ⟨rfl, -, rfl⟩ := Value.slice.inj hv
            rw [← hW]
            clear hW hv
            obtain ⟨q, hq⟩ : ∃ q, q = I.length := ⟨_, rfl⟩
            have hp1 : p = q + 1 := by rw [HP.out, hq]; simp
            rw [← hq] at g0 g1 g2 gf
            have hq8 : q ≤ 8 := by omega
            clear HP hpl hq
            subst hp1
            have hwq : IntKind.i64.wrap (q : Int) = (q : Int) := IntWalk.i64_in _ (by omega)
            obtain ⟨zx, zy, zo⟩ := z
            by_cases hky : zy = y
            · by_cases hko : zo = o
              · go_quiet (fail)
                go_wp2_with fail
                go_meet
                exact ⟨by simp [joins, same3, hky, hko], below_drewN (Below.refl _ _) _⟩
              · go_quiet (fail)
                go_wp2_with fail
                go_meet
                exact ⟨by simp [joins, same3, hky, hko], below_drewN (Below.refl _ _) _⟩
            · have hkd : (zy == y) = false := by simpa using hky
              have HJ := hide (show joins (I ++ [(zx, zy, zo)]) (x, y, o) = false by simp [joins, same3, hky])
              clear hky
              go_quiet (fail)
              go_wp2_with fail
              go_meet
              exact ⟨by rw [HJ.out], below_drewN (Below.refl _ _) _⟩
        obtain ⟨rfl, hbc⟩ := hcut
        have B3 := hide (bt Y.out hbc)
        have O3 := hide (OY.out.on hbc)
        have e0 := (hbc.cell (p := ⟨wr.heap.size, 0, none⟩) hWs).trans d0
        have e1 := (hbc.cell (p := ⟨wr.heap.size, 1, none⟩) hWs).trans d1
        have e2 := (hbc.cell (p := ⟨wr.heap.size, 2, none⟩) hWs).trans d2
        have hws := hbc.size
        clear d0 d1 d2 hbc
        by_cases hj : joins L (x, y, o) = true
        · obtain rfl | ⟨I, z, hI⟩ := List.eq_nil_or_concat L
          · cases hj
          · rw [List.concat_eq_append] at hI
            subst hI
            have hs3 : same3 z (x, y, o) = true := by simpa [joins] using hj
            have HN := hide (show plL fl (k + 1) = I ++ [(z.1 + x, z.2)] by rw [hps.out, ← HLe.out, HT.out, sm_snoc, if_pos hs3]; rfl)
            obtain ⟨g, c, hv, hg, hgl, g0, g1, g2, gf⟩ := O3.out.last
            obtain ⟨rfl, -, rfl⟩ := Value.slice.inj hv
            clear hv
            rw [hj]
            obtain ⟨q, hq⟩ : ∃ q, q = I.length := ⟨_, rfl⟩
            have hp1 : p = q + 1 := by rw [HP.out, hq]; simp
            rw [← hq] at g0 g1 g2 gf
            have O3' := O3.out
            rw [show p = I.length + 1 by rw [hp1, hq]] at O3'
            have O4 := hide (OwnL.grow O3' (z.1 + x))
            rw [← hq, ← HN.out] at O4
            have hg1 := hide hg
            have HZ := hide (show 0 ≤ z.1 ∧ z.1 ≤ 400 from by
              have := plL_bd HF.out k hk z (by rw [← HLe.out]; simp)
              omega)
            have hq8 : q ≤ 8 := by omega
            have HL2 := hide (show (plL fl (k + 1)).length = q + 1 by rw [HN.out, hq]; simp)
            clear O3' hq hpl HP hj
            subst hp1
            obtain ⟨zx, zy, zo⟩ := z
            have hzx := HZ.out.1
            have hzx2 := HZ.out.2
            have hwq : IntKind.i64.wrap (q : Int) = (q : Int) := IntWalk.i64_in _ (by omega)
            go_wp2_with fail
            go_region
            go_wp2
            go_roundw
            case rel => exact ⟨k + 1, by omega, by go_num, O4.out.on (Below.refl _ _).drew, (B3.out.setCell (p := ⟨g, q * 3, none⟩) hg1.out _).drew⟩
            case measure => simp [intOf]; omega
        · have hj' : joins L (x, y, o) = false := by simpa using hj
          have HN := hide (show plL fl (k + 1) = L ++ [(x, y, o)] by
            rw [hps.out, ← HLe.out, HT.out]
            obtain rfl | ⟨I, z, hI⟩ := List.eq_nil_or_concat L
            · rfl
            · rw [List.concat_eq_append] at hI
              subst hI
              have hs3 : same3 z (x, y, o) = false := by simpa [joins] using hj'
              rw [sm_snoc, if_neg (by rw [hs3]; simp)]
              simp)
          obtain ⟨v', w', hr, ho', hb'⟩ := OwnL.push (x, y, o) O3.out (Nat.le_trans Y.out.size hws) (by rw [← HP.out]; omega)
          rw [← HN.out] at ho'
          have HR := hide hr
          have HO' := hide ho'
          have B4 := hide (B3.out.trans hb')
          clear hr ho' hb'
          rw [hj']
          go_wp2_with (at_builtin; refine Lib.wpList_append_run _ rfl _ _ _ _ rfl _ _ rfl rfl _ _ HR.out ?_)
          go_roundw
          case rel => exact ⟨k + 1, by omega, by go_num, HO'.out, B4.out⟩
          case measure => simp [intOf]; omega
      · have hkk : k = n := by omega
        subst hkk
        obtain ⟨AL, cL, rfl, hcL1, hcL2⟩ := own_formS hO.out
        unfold maxLen at hcL2
        have hpl := plL_len fl k
        have HFr := hide (Fresh.of_ownS (fl := flatS (plL fl k)) hO.out)
        have HLn := hide (flatS_len (plL fl k))
        have HC1 := hide hcL1
        go_wp2_with fail
        (with_reducible refine (cableValid_any _ (flatS (plL fl k)) (plL fl k).length _ _ HLn.out HFr.out.ints (by omega)).mono ?_)
        rintro e w5 ⟨rfl, hb5⟩
        have HF5 := hide ((HFr.out.below hb5).mono (Nat.le_refl _) (show _ ≤ w5.heap.size from hb5.size))
        have B5 := hide (bt hB.out hb5)
        clear hb5
        by_cases hp : cableOk (flatS (plL fl k)) (plL fl k).length = true
        · have HK := hide (show plainOk fl k = true by simp [plainOk, HF.out, hp])
          have HK1 := hide (show plain fl k = flatS (plL fl k) by simp only [plain, HK.out, if_true])
          have HK2 := hide (show plainN fl k = (plL fl k).length by simp only [plainN, HK.out, if_true])
          rw [hp]
          go_wp2_with fail
          (with_reducible refine (clipS_any _ _ _ _ HC1.out (by omega)).mono ?_)
          rintro e w' ⟨rfl, rfl⟩
          go_wp2
          go_ret2
          rw [HK.out, HK1.out, HK2.out]
          exact ⟨AL, _, rfl, HLn.out, Nat.le_refl _, by omega, HF5.out, B5.out⟩
        · have hp' : cableOk (flatS (plL fl k)) (plL fl k).length = false := by simpa using hp
          have HK := hide (show plainOk fl k = false by simp [plainOk, hp'])
          rw [hp']
          go_wp2
          go_ret2
          exact plain_no HK.out (by omega) B5.out
  · have hf' : cableOk fl n = false := by simpa using hf
    have HF := hide hf'
    have HK := hide (show plainOk fl n = false by simp [plainOk, hf'])
    clear hf hf'
    go_enter Try.func15, Try.ntmps15
    go_wp2_with fail
    (with_reducible refine (cableValid_any _ fl n _ _ HL.out H.out hn).mono ?_)
    rintro e w1 ⟨rfl, hb1⟩
    rw [HF.out]
    go_wp2
    go_ret2
    exact plain_no HK.out (by omega) hb1
end Go.Proofs.Ytglknakgfnoeaaa
