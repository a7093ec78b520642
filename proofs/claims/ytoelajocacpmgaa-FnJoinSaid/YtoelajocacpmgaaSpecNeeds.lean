/-
  WALKS: what each mile of a floor needs: the reference's; and FloorNeeds of both.
-/
import Derived.Test.YtoelajocacpmgaaNeeds
import Derived.OwnWalk
namespace Go.Proofs.Ytoelajocacpmgaa
set_option linter.unusedVariables false
set_option linter.unusedSimpArgs false
open Go.RowKit

theorem grown_of_below {w w' : World} (h : Below w.heap.size w w') : w.grownBy w' none := ⟨h.os, h.tape, h.output, h.size, fun k hk _ => h.block k hk⟩

set_option maxHeartbeats 800000 in
theorem l1Need_any (A : Option Addr) (xs : List Int) (cap : Nat) (i : Nat) (w : World) (h : Ints w w.heap.size A xs) (hd : Deep xs) (hi : i + 1 < xs.length) (hn : xs.length ≤ 16) :
    Calls Try.prog 62 #[.slice A xs.length cap, .int .i64 (i : Int)] w fun e w' => ∃ n, e = .returned (.int .i64 (needF xs i)) ∧ w' = w.drewN n := by
  obtain ⟨b, off, rfl, hb, hc⟩ := h (by omega)
  have c1 := hc i (by omega)
  have c2 := hc (i + 1) hi
  obtain ⟨v1, v2⟩ := hd i (by omega)
  obtain ⟨v3, v4⟩ := hd (i + 1) hi
  have e1 : (i : Int) < (xs.length : Int) := by omega
  have e2 : (i : Int) + 1 < (xs.length : Int) := by omega
  have e3 : (0 : Int) ≤ (i : Int) := by omega
  have e4 : (0 : Int) ≤ (i : Int) + 1 := by omega
  by_cases hle : at0 xs i ≤ at0 xs (i + 1)
  · have HE := hide (show 10 + (at0 xs (i + 1) - at0 xs i) = needF xs i from (needAt_up hle).symm)
    clear h hc hd
    have s1 : IntKind.i64.wrap ((i : Int) + 1) = (i : Int) + 1 := IntWalk.i64_in _ ⟨by omega, by omega⟩
    have s2 : ((i : Int) + 1).toNat = i + 1 := by omega
    have s3 : IntKind.i64.wrap (at0 xs (i + 1) - at0 xs i) = at0 xs (i + 1) - at0 xs i := IntWalk.i64_in _ ⟨by omega, by omega⟩
    go_enter Try.func62, Try.ntmps62
    go_wp2
    go_quiet (fail)
    clear s1 s2 s3
    go_wp2
    go_ret
    exact ⟨_, ret_int HE.out, rfl⟩
  · have HE := hide (show 10 + -(at0 xs (i + 1) - at0 xs i) = needF xs i by
      have := needAt_down hle
      unfold needF; rw [this]; omega)
    clear h hc hd
    have s1 : IntKind.i64.wrap ((i : Int) + 1) = (i : Int) + 1 := IntWalk.i64_in _ ⟨by omega, by omega⟩
    have s2 : ((i : Int) + 1).toNat = i + 1 := by omega
    have s3 : IntKind.i64.wrap (at0 xs (i + 1) - at0 xs i) = at0 xs (i + 1) - at0 xs i := IntWalk.i64_in _ ⟨by omega, by omega⟩
    go_enter Try.func62, Try.ntmps62
    go_wp2
    go_quiet (fail)
    clear s1 s2 s3
    go_wp2
    go_ret
    exact ⟨_, ret_int HE.out, rfl⟩

/-- A new list of ints comes back, and a bool; what there was lies as it lay. -/
def RetList (w : World) (xs : List Int) (ok : Bool) (e : Ending) (w' : World) : Prop :=
  ∃ A cap, e = .returned (.tuple #[.slice A xs.length cap, .bool ok]) ∧ xs.length ≤ cap ∧ cap ≤ 9223372036854775807 ∧ Fresh w' w.heap.size w'.heap.size A xs ∧ Below w.heap.size w w'
theorem RetList.nil {w w' : World} (h : Below w.heap.size w w') : RetList w [] false (.returned (.tuple #[.slice none 0 0, .bool false])) w' :=
  ⟨none, 0, rfl, Nat.le_refl _, by omega, Fresh.nil _ _ _ _, h⟩
theorem own_form {w : World} {base : Nat} {e : TypeId} {v : Value} {n : Nat} {xs : List Value} (h : w.ownsRow base e 1 v n xs) : ∃ A cap, v = .slice A n cap ∧ n ≤ cap ∧ cap ≤ maxLen := by
  rcases h.2 with ⟨rfl, rfl⟩ | ⟨g, cap, cur, rfl, _, _, hle, hm, _⟩
  · exact ⟨none, 0, rfl, Nat.le_refl _, Nat.zero_le _⟩
  · exact ⟨_, cap, rfl, hle, hm⟩

theorem own_drewN {w : World} {base : Nat} {e : TypeId} {size : Nat} {v : Value} {n : Nat} {xs : List Value} (h : w.ownsRow base e size v n xs) (k : Nat) : (w.drewN k).ownsRow base e size v n xs := h

/-- What each mile of a floor needs; nothing, if it is none. -/
def needsOf (xs : List Int) : List Int := if floorOk xs = true then needs xs else []

set_option maxHeartbeats 800000 in
theorem floorNeeds_any (A : Option Addr) (xs : List Int) (cap : Nat) (w : World) (h : Ints w w.heap.size A xs) (hn : xs.length ≤ 1048576) :
    Calls Try.prog 32 #[.slice A xs.length cap] w (RetList w (needsOf xs) (floorOk xs)) := by
  have H := hide h
  clear h
  by_cases hf : floorOk xs = true
  · have HF := hide hf
    have HN := hide (show needsOf xs = needs xs by simp [needsOf, hf])
    rw [HN.out, hf]
    clear hf
    go_enter Try.func32, Try.ntmps32
    go_wp2_with fail
    refine (floorValid_any _ xs _ _ H.out hn).mono ?_
    rintro e w1 ⟨rfl, hb1⟩
    rw [HF.out]
    go_wp2_with fail
    refine (needs_any _ xs _ _ (H.out.next hb1) HF.out).mono ?_
    rintro e w2 ⟨A2, c2, rfl, h1, h2, hfr, hb2⟩
    go_wp2
    go_ret2
    exact ⟨A2, c2, rfl, h1, h2, hfr.mono hb1.size (Nat.le_refl _), bt hb1 hb2⟩
  · have hf' : floorOk xs = false := by simpa using hf
    have HN := hide (show needsOf xs = [] by simp [needsOf, hf'])
    rw [HN.out]
    clear hf
    go_enter Try.func32, Try.ntmps32
    go_wp2_with (go_at_call 63; refine (floorValid_any _ xs _ _ H.out hn).mono ?_; rintro e w1 ⟨rfl, hb1⟩)
    go_ret2
    rw [hf']
    exact RetList.nil hb1

set_option maxHeartbeats 1600000 in
theorem specFloorNeeds_any (A : Option Addr) (xs : List Int) (cap : Nat) (w : World) (h : Ints w w.heap.size A xs) (hn : xs.length ≤ 1048576) :
    Calls Try.prog 44 #[.slice A xs.length cap] w (RetList w (needsOf xs) (floorOk xs)) := by
  have H := hide h
  clear h
  obtain ⟨i0, hi, hz0, hz1, hz2⟩ := info_parts infoInt
  by_cases hf : floorOk xs = true
  · have HF := hide hf
    have HN := hide (show needsOf xs = needs xs by simp [needsOf, hf])
    obtain ⟨hl1, hl2⟩ := floorOk_len hf
    have HD := hide (floorOk_deep hf)
    rw [HN.out, hf]
    clear hf
    go_enter Try.func44, Try.ntmps44
    go_wp2
    go_loopw [4, 5] (fun v i wr => ∃ k : Nat, k ≤ xs.length - 1 ∧ i = .int .i64 (k : Int) ∧ wr.ownsRow w.heap.size 3 1 v k ((upto (needF xs) k).map (Value.int .i64)) ∧ Hid (Below w.heap.size w wr))
      (fun _ i _ => xs.length - (intOf i).toNat)
    case atStart => exact ⟨0, Nat.zero_le _, rfl, World.ownsRow_made w #[] 0 (Nat.le_refl _) (Nat.zero_le _) rfl, (Below.refl _ w).alloc (Nat.le_refl _) _⟩
    case round =>
      obtain ⟨k, hk, rfl, hown, hbel⟩ := hrel
      by_cases hlt : k < xs.length - 1
      · have e1 : (k : Int) + 1 < (xs.length : Int) := by omega
        have HO := hide hown
        clear hown
        go_wp2_with fail
        refine (specFloorValid_any _ xs _ _ ((H.out.below hbel.out).mono hbel.out.size) hn).mono ?_
        rintro e w' ⟨rfl, rfl⟩
        rw [HF.out]
        go_wp2_with fail
        refine (l1Need_any _ xs _ k _ ((H.out.below hbel.out).mono hbel.out.size) HD.out (by omega) hl2).mono ?_
        rintro e w' ⟨nq, rfl, rfl⟩
        have hB := hbel.out
        have hkb : k ≤ 16 := by omega
        go_wp2_with (at_builtin; refine wpList_append_own _ rfl _ _ 23 rfl w.heap.size 3 i0 (.int .i64 0) 1 8 Try.underlying23 hi hz0 hz1 hz2 rfl (by decide) _ _ _ rfl (own_drewN (HO.out.alloc (.cells #[.int .i64 (needF xs k)] 3)) nq) ⟨wr.heap.size, 0, none⟩ 1 1 [.int .i64 (needF xs k)] rfl rfl (cell_one_new _ _ _) (by simp [Value.oneCell']) (by unfold maxLen; omega) (by omega) (by have := hB.size; simp; omega) ?_; intro v' w1 hown' hgrow _)
        go_roundw
        case rel =>
          refine ⟨k + 1, by omega, by go_num, by rw [upto_succ]; simpa using hown', ?_⟩
          exact (below_drewN (hB.alloc hB.size (.cells #[.int .i64 (needF xs k)] 3)) nq).grown hgrow (by have := hB.size; simp; omega) (fun g hg => (HO.out.lt g hg).1)
        case measure => simp [intOf]; omega
      · have hkk : k = xs.length - 1 := by omega
        have e1 : ¬ (k : Int) + 1 < (xs.length : Int) := by omega
        have HO := hide hown
        clear hown
        go_wp2_with fail
        refine (specFloorValid_any _ xs _ _ ((H.out.below hbel.out).mono hbel.out.size) hn).mono ?_
        rintro e w' ⟨rfl, rfl⟩
        rw [HF.out]
        go_wp2
        go_ret2
        have hown := HO.out
        obtain ⟨A2, c2, rfl, g1, g2⟩ := own_form hown
        rw [hkk] at hown g1
        have hfr := Fresh.of_own (xs := needs xs) hown
        unfold maxLen at g2
        refine ⟨A2, c2, ?_, by rw [needs_length]; exact g1, by omega, hfr, hbel.out⟩
        rw [needs_length, ← hkk]; rfl
  · have hf' : floorOk xs = false := by simpa using hf
    have HN := hide (show needsOf xs = [] by simp [needsOf, hf'])
    rw [HN.out]
    clear hf
    have HB := hide ((Below.refl w.heap.size w).alloc (Nat.le_refl _) (.cells #[] 3))
    have hV : ∀ W, Below w.heap.size w W → Calls Try.prog 71 #[.slice A xs.length cap] W fun e w' => e = .returned (.bool false) ∧ W = w' := fun W hb => by
      have := specFloorValid_any A xs cap W ((H.out.below hb).mono hb.size) hn
      rw [hf'] at this
      exact this
    have HV := hide hV
    clear hV
    rw [hf']
    go_enter Try.func44, Try.ntmps44
    go_wp2
    go_loop [4, 5] (fun v i => v = .slice (some ⟨w.heap.size, 0, none⟩) 0 0 ∧ i = .int .i64 0) (fun _ _ => 0)
    case atStart => exact ⟨rfl, rfl⟩
    case round =>
      obtain ⟨rfl, rfl⟩ := hrel
      by_cases h1 : (1 : Int) < (xs.length : Int)
      · go_wp2_with (go_at_call 71; refine (HV.out _ HB.out).mono ?_; rintro e w' ⟨rfl, rfl⟩)
        go_ret2
        exact ⟨_, 0, rfl, Nat.le_refl _, by omega, Fresh.nil _ _ _ _, HB.out⟩
      · have h1' : decide ((1 : Int) < (xs.length : Int)) = false := by simpa using h1
        go_wp2_with (go_at_call 71; refine (HV.out _ HB.out).mono ?_; rintro e w' ⟨rfl, rfl⟩)
        go_ret2
        exact ⟨_, 0, rfl, Nat.le_refl _, by omega, Fresh.nil _ _ _ _, HB.out⟩
end Go.Proofs.Ytoelajocacpmgaa
