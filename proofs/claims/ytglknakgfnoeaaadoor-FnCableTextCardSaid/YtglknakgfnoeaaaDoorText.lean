/-
  WALKS: the text of a cable: the program's.
-/
import Derived.Test.YtglknakgfnoeaaaDoorSpecText
import Derived.Test.YtglknakgfnoeaaaDoorLinkAt
import Derived.Test.YtglknakgfnoeaaaDoorOwnOn
import Derived.Test.YtglknakgfnoeaaaDoorShelf
import Derived.RegionTactic
import Derived.OwnWalk
import Derived.Lib.AppendZeros
namespace Go.Proofs.YtglknakgfnoeaaaDoor
set_option linter.unusedVariables false
set_option linter.unusedSimpArgs false
open Go.RowKit

theorem infoStr : (Tryd.prog.info? 9).map (fun i => (i.zero, i.size, i.bytes)) = some (some (.string ⟨#[]⟩), 1, 16) := by kernel_rfl
theorem itoa_any (i : Nat) (hi : i < 100) (W : World) : Calls Tryd.prog 12 #[.int .i64 (i : Int)] W fun e w' => e = .returned (.string (decS i)) ∧ W = w' :=
  (Tryd.strconv_Itoa_small i hi W).mono (by rintro e w' ⟨rfl, rfl⟩; exact ⟨rfl, rfl⟩)
theorem keep_link {W W' : World} {base n g : Nat} {v : Value} {xs : List Value} {cs : Array Value} (ho : W.ownsRow base 9 1 v n xs) (hg : W.grownBy W' v.ownBlock) (h : W.heap[g]? = some (.cells cs 38 (0, 0))) : W'.heap[g]? = some (.cells cs 38 (0, 0)) := by
  refine (hg.block g (Array.getElem?_eq_some_iff.1 h).1 (fun e => ?_)).trans h
  rcases ho.2 with ⟨rfl, rfl⟩ | ⟨g', cap, cur, rfl, _, hh, _⟩
  · simp [Value.ownBlock] at e
  · simp only [Value.ownBlock, Option.some.injEq] at e
    subst e
    rw [hh] at h
    simp at h
def sliceLen : Value → Nat
  | .slice _ k _ => k
  | _ => 0
/-- The sections' texts. -/
def txV (fl : List Int) (k : Nat) : List Value := (upto (secL fl) k).map fun l => Value.string (ba l)
theorem txV_succ (fl : List Int) (k : Nat) : txV fl (k + 1) = txV fl k ++ [Value.string (ba (secL fl k))] := by simp [txV, upto_succ]

theorem joinAll_any (fl : List Int) (n : Nat) (hok : cableOk fl n = true) (v : Value) (base : Nat) (W : World) (ho : W.ownsRow base 9 1 v n (txV fl n)) (h1 : 1 ≤ n) :
    Calls Tryd.prog 13 #[v, .string ⟨#[43]⟩] W fun e w' => e = .returned (.string (ba (txtL fl n))) ∧ Below W.heap.size W w' := by
  obtain ⟨n1, n2⟩ := (cableOk_iff.1 hok).1
  obtain ⟨A, c, hv, hc1, hc2⟩ := own_formS ho
  obtain ⟨g, cap, rfl, hgb, hgl⟩ := ho.form (by omega)
  obtain ⟨rfl, -, rfl⟩ := Value.slice.inj hv
  have hj : Lib.join (((upto (secL fl) n).map ba).map (·.data.toList)) [43] = txtL fl n := by
    rw [List.map_map, ← join_txt fl n h1]
    congr 1
    have : ((fun x : ByteArray => x.data.toList) ∘ ba) = id := by funext l; exact ba_list l
    rw [this, List.map_id]
  have hlen := txtL_len hok n (Nat.le_refl n)
  have key := Tryd.strings_Join g 0 cap ((upto (secL fl) n).map ba) ⟨#[43]⟩ W (fun j x hx => by
    have hjn : j < n := by
      have := (List.getElem?_eq_some_iff.1 hx).1
      simpa [upto_length] using this
    rw [Nat.zero_add, ho.cellAt j (by omega)]
    simp only [txV, List.getElem?_map] at hx ⊢
    cases e : (upto (secL fl) n)[j]? with
    | none => rw [e] at hx; cases hx
    | some l => rw [e] at hx; simp only [Option.map_some, Option.some.injEq] at hx ⊢; rw [hx]) hgl (by rw [List.length_map, upto_length]; omega) (by rw [List.length_map, upto_length]; exact hc1) (by
      show (Lib.join (((upto (secL fl) n).map ba).map (·.data.toList)) [43]).length ≤ _
      rw [hj]; omega)
  rw [List.length_map, upto_length] at key
  refine key.mono ?_
  rintro e w' ⟨rfl, hb⟩
  refine ⟨?_, hb⟩
  show Ending.returned (Value.string ⟨(Lib.join (((upto (secL fl) n).map ba).map (·.data.toList)) [43]).toArray⟩) = _
  rw [hj]; rfl

set_option maxHeartbeats 1600000 in
theorem cableText_any (A : Option Addr) (fl : List Int) (n cap : Nat) (w : World) (hl : fl.length = n * 3) (h : Ints w w.heap.size A fl) (hn : n ≤ 1048576) :
    Calls Tryd.prog 5 #[.slice A n cap] w fun e w' => e = .returned (.string (cableTxt fl n)) ∧ Below w.heap.size w w' := by
  obtain ⟨i0, hi, hz0, hz1, hz2⟩ := info_parts infoStr
  have H := hide h
  have HL := hide hl
  clear h hl
  by_cases hf : cableOk fl n = true
  · have HF := hide hf
    have HT := hide (show cableTxt fl n = ba (txtL fl n) by simp [cableTxt, hf])
    obtain ⟨⟨n1, n2⟩, -⟩ := cableOk_iff.1 hf
    rw [HT.out]
    clear hf
    go_enter Tryd.func5, Tryd.ntmps5
    go_wp2_with fail
    (with_reducible refine (cableValid_any _ fl n _ _ HL.out H.out hn).mono ?_)
    rintro e w1 ⟨rfl, hb1⟩
    rw [HF.out]
    have B0 := hide (hb1.alloc hb1.size (.cells #[] 9))
    have O0 := World.ownsRow_made (base := w.heap.size) (size := 1) (e := 9) w1 #[] 0 hb1.size (Nat.zero_le _) rfl
    have hs1 := hb1.size
    go_wp2_with fail
    (with_reducible refine (linkOf_any _ fl n _ _ HL.out ((H.out.below B0.out).mono B0.out.size) n1 n2).mono ?_)
    rintro e w2 ⟨p, rfl, hL, hb2⟩
    have HL2 := hide (show Links w2 w2.heap.size fl (from' n (n - 0)) p from hL)
    have O2 := hide (own_on O0 hb2)
    have B2 := hide (bt B0.out hb2)
    clear hL hb1 hb2 O0
    go_wp2_with fail
    go_loopw [3, 4] (fun v l wr => ∃ (k : Nat) (q : Option Addr), k ≤ n ∧ l = .pointer q ∧ Hid (wr.ownsRow w.heap.size 9 1 v k (txV fl k)) ∧ Hid (Links wr w2.heap.size fl (from' n (n - k)) q) ∧ Hid (Below w.heap.size w wr) ∧ w2.heap.size ≤ wr.heap.size) (fun v _ _ => n - sliceLen v)
    case atStart => exact ⟨0, p, Nat.zero_le _, rfl, O2.out, HL2.out, B2.out, Nat.le_refl _⟩
    case round =>
      obtain ⟨k, q, hk, rfl, hO, hLk, hB, hs2⟩ := hrel
      by_cases hlt : k < n
      · have hlk := hLk.out
        rw [from_succ hlt] at hlk
        obtain ⟨g, q', rfl, hg, hcg, hr⟩ := hlk
        have c0 : wr.cell? ⟨g, 0, none⟩ = some (.int .i64 (at0 fl (k * 3))) := cell_of_row wr g 0 _ _ _ hcg
        have c1 : wr.cell? ⟨g, 1, none⟩ = some (.int .i64 (at0 fl (k * 3 + 1))) := cell_of_row wr g 1 _ _ _ hcg
        have c2 : wr.cell? ⟨g, 2, none⟩ = some (.int .i64 (at0 fl (k * 3 + 2))) := cell_of_row wr g 2 _ _ _ hcg
        have c3 : wr.cell? ⟨g, 3, none⟩ = some (.pointer q') := cell_of_row wr g 3 _ _ _ hcg
        obtain ⟨x, y, z, ex, ey, ez, hx, hy, hz, es⟩ := sec_nat HF.out hlt
        rw [ex] at c0
        rw [ey] at c1
        rw [ez] at c2
        obtain ⟨AV, cV, rfl, hv1, hv2⟩ := own_formS hO.out
        have q1 := decS_size hx
        have q2 := decS_size hy
        have q3 := decS_size hz
        have HX := hide (fun W => itoa_any x hx W)
        have HY := hide (fun W => itoa_any y hy W)
        have HZ := hide (fun W => itoa_any z hz W)
        obtain ⟨sB, hsB⟩ : ∃ s, s = decS x ++ ⟨#[109]⟩ ++ decS y ++ ⟨#[107]⟩ ++ decS z ++ ⟨#[111]⟩ := ⟨_, rfl⟩
        have HSB := hide (show sB = ba (secL fl k) by
          rw [hsB, es]
          show ba (Lib.decDigits x) ++ ba [109] ++ ba (Lib.decDigits y) ++ ba [107] ++ ba (Lib.decDigits z) ++ ba [111] = _
          simp only [ba_app, List.append_assoc])
        have z1 : ¬ 9223372036854775807 < (decS x).size + 1 := by omega
        have z3 : ¬ 9223372036854775807 < (decS x).size + 1 + (decS y).size := by omega
        have z4 : ¬ 9223372036854775807 < (decS x).size + 1 + (decS y).size + 1 := by omega
        have z5 : ¬ 9223372036854775807 < (decS x).size + 1 + (decS y).size + 1 + (decS z).size := by omega
        have z6 : ¬ 9223372036854775807 < (decS x).size + 1 + (decS y).size + 1 + (decS z).size + 1 := by omega
        have hgw : g < wr.heap.size := by omega
        have OD := hide (own_on (hO.out.alloc (.cells #[.string sB] 9)) (Below.refl _ (wr.alloc (.cells #[.string sB] 9))).drew)
        have HR := hide hr
        have hbse := hB.out.size
        obtain ⟨v', w3, hrun, hown', hgrow, -⟩ := run_append_own (P := Tryd.prog) (wr.alloc (.cells #[.string sB] 9)).drew w.heap.size 32 32 9 i0 (.string ⟨#[]⟩) 1 16 Tryd.underlying32 hi hz0 hz1 hz2 rfl (by decide) (.slice AV k cV) k _ OD.out ⟨wr.heap.size, 0, none⟩ 1 1 [.string sB] rfl (cell_one_new _ _ _) (by simp [Value.oneCell']) (by unfold maxLen; omega) (by omega) (by simp; omega)
        have hqd := (Below.refl wr.heap.size wr).drew
        have hqa := ((Below.refl wr.heap.size wr).alloc (Nat.le_refl _) (.cells #[.string sB] 9)).drew
        have hb3 := hide ((hB.out.alloc hbse (.cells #[.string sB] 9)).drew.grown hgrow (by simp; omega) (fun g' hg' => (OD.out.lt g' hg').1))
        have hc3 := keep_link OD.out hgrow ((hqa.block g hgw).trans hcg)
        have e3 : w3.cell? ⟨g, 3, none⟩ = some (.pointer q') := cell_of_row w3 g 3 _ _ _ hc3
        have S3 : w3.cell? ⟨g, 0, none⟩ = some (.int .i64 (x : Int)) ∧ w3.cell? ⟨g, 1, none⟩ = some (.int .i64 (y : Int)) ∧ w3.cell? ⟨g, 2, none⟩ = some (.int .i64 (z : Int)) := by
          refine ⟨(cell_of_row w3 g 0 _ _ _ hc3).trans ?_, (cell_of_row w3 g 1 _ _ _ hc3).trans ?_, (cell_of_row w3 g 2 _ _ _ hc3).trans ?_⟩
          · rw [← ex]; rfl
          · rw [← ey]; rfl
          · rw [← ez]; rfl
        have HLn := hide (hr.keep (Nat.le_refl _) (fun g' cs hg' hcs => keep_link OD.out hgrow ((hqa.block g' (by omega)).trans hcs)))
        have HOn := hide hown'
        have HRn := hide hrun
        have hs3 := hide (show w2.heap.size ≤ w3.heap.size by have := hgrow.size; simp at this; omega)
        have hsB' : decS x ++ ⟨#[109]⟩ ++ decS y ++ ⟨#[107]⟩ ++ decS z ++ ⟨#[111]⟩ = sB := hsB.symm
        clear ex ey ez hx hy hz es hr hc3 hgrow hown' hcg hsB hrun
        go_wp2_with fail
        have S1 := hide (show ∀ W', Below wr.heap.size wr W' → W'.cell? ⟨g, 0, none⟩ = some (.int .i64 (x : Int)) ∧ W'.cell? ⟨g, 1, none⟩ = some (.int .i64 (y : Int)) ∧ W'.cell? ⟨g, 2, none⟩ = some (.int .i64 (z : Int)) from fun W' hb' =>
          ⟨(hb'.cell (p := ⟨g, 0, none⟩) hgw).trans c0, (hb'.cell (p := ⟨g, 1, none⟩) hgw).trans c1, (hb'.cell (p := ⟨g, 2, none⟩) hgw).trans c2⟩)
        have hq0 := Below.refl wr.heap.size wr
        go_region_held3 (fun w' => w'.cell? ⟨g, 0, none⟩ = some (.int .i64 (x : Int)) ∧ w'.cell? ⟨g, 1, none⟩ = some (.int .i64 (y : Int)) ∧ w'.cell? ⟨g, 2, none⟩ = some (.int .i64 (z : Int))) (first | exact S1.out _ (by assumption) | exact S3)
          ((first | (go_at_call 12; (first | (with_reducible refine (HX.out _).mono ?_) | (with_reducible refine (HY.out _).mono ?_) | (with_reducible refine (HZ.out _).mono ?_)); rintro e w9 ⟨rfl, rfl⟩) | (rw [if_pos (by rfl)]; refine Lib.wp_append_run _ (.tmp 17) (.tmp 41) 32 32 rfl (.slice AV k cV) (.slice (some ⟨wr.heap.size, 0, none⟩) 1 1) rfl rfl v' w3 HRn.out ?_)))
        obtain ⟨A', c', hv', -, -⟩ := own_formS HOn.out
        subst hv'
        have HO' := hide (show w3.ownsRow w.heap.size 9 1 (.slice A' (k + 1) c') (k + 1) (txV fl (k + 1)) from by rw [txV_succ, ← HSB.out]; exact HOn.out)
        go_wp2
        go_roundw
        case rel => exact ⟨k + 1, q', by omega, rfl, HO'.out, HLn.out, hb3.out, hs3.out⟩
        case measure => simp [sliceLen]; omega
      · obtain rfl : k = n := by omega
        obtain rfl := links_end hLk.out
        go_wp2_with fail
        (with_reducible refine (joinAll_any fl k HF.out _ _ _ hO.out n1).mono ?_)
        rintro e w5 ⟨rfl, hb5⟩
        go_wp2
        go_ret
        exact ⟨rfl, bt hB.out hb5⟩
  · have hf' : cableOk fl n = false := by simpa using hf
    have HF := hide hf'
    have HT := hide (show cableTxt fl n = ⟨#[]⟩ by simp [cableTxt, hf', ba])
    rw [HT.out]
    clear hf hf'
    go_enter Tryd.func5, Tryd.ntmps5
    go_wp2_with fail
    (with_reducible refine (cableValid_any _ fl n _ _ HL.out H.out hn).mono ?_)
    rintro e w1 ⟨rfl, hb1⟩
    rw [HF.out]
    go_wp2
    go_ret
    exact ⟨rfl, hb1⟩
end Go.Proofs.YtglknakgfnoeaaaDoor
