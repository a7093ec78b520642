/-
  WALKS: the floor between two points: the program's and the reference's.
-/
import Derived.Test.YtoelajocacpmgaaClone
import Derived.Test.YtoelajocacpmgaaSpecLength
namespace Go.Proofs.Ytoelajocacpmgaa
set_option linter.unusedVariables false
set_option linter.unusedSimpArgs false
open Go.RowKit Go.Shelf
attribute [local go_sem] Oper.semAt_some

/-- Two points with a mile at least between them. -/
def partOk (xs : List Int) (f t : Int) : Bool := ptsOk xs f t && !(f == t)
/-- The floor between two points; nothing, if there is none. -/
def part (xs : List Int) (f t : Int) : List Int := if partOk xs f t = true then (xs.drop f.toNat).take (t.toNat + 1 - f.toNat) else []
theorem part_le (xs : List Int) (f t : Int) : (part xs f t).length ≤ xs.length := by
  unfold part; split
  · simp; omega
  · exact Nat.zero_le _

set_option maxHeartbeats 1600000 in
theorem floorPart_any (A : Option Addr) (xs : List Int) (cap : Nat) (f t : Int) (w : World) (h : Ints w w.heap.size A xs) (hn : xs.length ≤ 1048576) (hcap : xs.length ≤ cap) (hcm : cap ≤ 9223372036854775807) :
    Calls Try.prog 34 #[.slice A xs.length cap, .int .i64 f, .int .i64 t] w (RetList w (part xs f t) (partOk xs f t)) := by
  have H := hide h
  by_cases hp : ptsOk xs f t = true
  · by_cases hft : f = t
    · have hq : partOk xs f t = false := by simp [partOk, hft]
      have HN := hide (show part xs f t = [] by simp [part, hq])
      have HP := hide hp
      rw [HN.out, hq]
      subst hft
      clear h hp hq
      go_enter Try.func34, Try.ntmps34
      go_wp2_with fail
      refine (pointsIn_any _ xs cap f f _ H.out hn).mono ?_
      rintro e w1 ⟨rfl, hb1⟩
      rw [HP.out]
      go_wp2
      go_ret2
      exact RetList.nil hb1
    · obtain ⟨hf, h0, h1, h2⟩ := ptsOk_iff.1 hp
      obtain ⟨f, rfl⟩ := Int.eq_ofNat_of_zero_le h0
      obtain ⟨t, rfl⟩ := Int.eq_ofNat_of_zero_le (show 0 ≤ t by omega)
      obtain ⟨hl1, hl2⟩ := floorOk_len hf
      have hq : partOk xs (f : Int) (t : Int) = true := by simp [partOk, hp]; omega
      have HN := hide (show part xs (f : Int) (t : Int) = (xs.drop f).take (t + 1 - f) by simp [part, hq])
      have HP := hide hp
      rw [HN.out, hq]
      obtain ⟨b, off, rfl, hb, hc⟩ := h (by omega)
      have hne : ((f : Int) == (t : Int)) = false := beq_eq_false_iff_ne.2 hft
      have e1 : (f : Int) ≤ (t : Int) + 1 := by omega
      have e2 : (t : Int) + 1 ≤ (cap : Int) := by omega
      have e3 : ¬ cap = f := by omega
      obtain ⟨pt, hpt⟩ : ∃ pt, pt = (xs.drop f).take (t + 1 - f) := ⟨_, rfl⟩
      have hpl : t + 1 - f = pt.length := by rw [hpt]; simp; omega
      have hpa : ∀ i, i < pt.length → at0 pt i = at0 xs (f + i) := fun i hi => by
        rw [hpt]; simp [at0, show i < t + 1 - f by omega]
      have HI := hide (show ∀ W : World, Below w.heap.size w W → Ints W W.heap.size (some ⟨b, off + f, none⟩) pt from fun W hW _ => by
        obtain ⟨b', off', e, hb', hc'⟩ := (H.out.next hW) (by omega)
        cases e
        refine ⟨b, off + f, rfl, hb', fun j hj => ?_⟩
        rw [Nat.add_assoc, hc' (f + j) (by omega), hpa j hj])
      rw [← hpt]
      have hq1 : 0 < pt.length := by omega
      have hq2 : pt.length ≤ 16 := by omega
      have HPL := hide hpl
      clear hpt hpl hpa h hc hf hp hq hft
      go_enter Try.func34, Try.ntmps34
      go_wp2_with fail
      refine (pointsIn_any _ xs cap f t _ H.out hn).mono ?_
      rintro e w1 ⟨rfl, hb1⟩
      rw [HP.out]
      go_wp2_with fail
      rw [HPL.out]
      refine (clone_any b (off + f) pt _ _ (HI.out _ hb1) (by omega) hq1).mono ?_
      rintro e w2 ⟨A2, c2, rfl, g1, g2, hfr, hb2⟩
      go_wp2_with fail
      refine (clip_any _ _ _ _ g1 g2).mono ?_
      rintro e w' ⟨rfl, rfl⟩
      go_wp2
      go_ret2
      exact ⟨A2, pt.length, rfl, Nat.le_refl _, by omega, hfr.mono hb1.size (Nat.le_refl _), bt hb1 hb2⟩
  · have hp' : ptsOk xs f t = false := by simpa using hp
    have hq : partOk xs f t = false := by simp [partOk, hp']
    have HN := hide (show part xs f t = [] by simp [part, hq])
    rw [HN.out, hq]
    clear h hp hq
    go_enter Try.func34, Try.ntmps34
    go_wp2_with (go_at_call 66; refine (pointsIn_any _ xs cap f t _ H.out hn).mono ?_; rintro e w1 ⟨rfl, hb1⟩)
    go_ret2
    exact RetList.nil hb1
end Go.Proofs.Ytoelajocacpmgaa
