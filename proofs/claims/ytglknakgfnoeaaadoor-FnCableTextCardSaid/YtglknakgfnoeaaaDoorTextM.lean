/-
  PLAIN LEAN, no program in sight: the text of a cable.
-/
import Derived.Test.YtglknakgfnoeaaaDoorCable
import Derived.Test.YtglknakgfnoeaaaDoorDec
import Derived.Lib.Join
namespace Go.Proofs.YtglknakgfnoeaaaDoor
set_option linter.unusedVariables false
set_option linter.unusedSimpArgs false
open Go.RowKit

/-- Bytes as a text. -/
def ba (l : List UInt8) : ByteArray := ⟨l.toArray⟩
theorem ba_app (a b : List UInt8) : ba a ++ ba b = ba (a ++ b) := by
  apply ByteArray.ext
  rw [ByteArray.data_append]
  simp [ba]
theorem ba_list (l : List UInt8) : (ba l).data.toList = l := by simp [ba]
theorem ba_size (l : List UInt8) : (ba l).size = l.length := by simp [ba, ByteArray.size]
def dig (z : Int) : List UInt8 := Lib.decDigits z.toNat
theorem dig_len {n : Nat} (h : n < 100) : (Lib.decDigits n).length ≤ 2 := by
  by_cases h1 : n < 10
  · rw [dec_small h1]; simp
  · rw [dec_big h1, dec_small (show n / 10 < 10 by omega)]; simp
/-- A section's text. -/
def secL (fl : List Int) (k : Nat) : List UInt8 := dig (at0 fl (k * 3)) ++ [109] ++ dig (at0 fl (k * 3 + 1)) ++ [107] ++ dig (at0 fl (k * 3 + 2)) ++ [111]
/-- The text of the first sections. -/
def txtL (fl : List Int) : Nat → List UInt8
  | 0 => []
  | k + 1 => (if k = 0 then [] else txtL fl k ++ [43]) ++ secL fl k
def cableTxt (fl : List Int) (n : Nat) : ByteArray := if cableOk fl n = true then ba (txtL fl n) else ba []
theorem sec_nat {fl : List Int} {n k : Nat} (h : cableOk fl n = true) (hk : k < n) : ∃ a b c : Nat, at0 fl (k * 3) = (a : Int) ∧ at0 fl (k * 3 + 1) = (b : Int) ∧ at0 fl (k * 3 + 2) = (c : Int) ∧ a < 100 ∧ b < 100 ∧ c < 100 ∧
    secL fl k = Lib.decDigits a ++ [109] ++ Lib.decDigits b ++ [107] ++ Lib.decDigits c ++ [111] := by
  obtain ⟨⟨h1, h2⟩, ⟨h3, h4⟩, h5, h6⟩ := secOk_iff.1 ((cableOk_iff.1 h).2 k hk)
  refine ⟨(at0 fl (k * 3)).toNat, (at0 fl (k * 3 + 1)).toNat, (at0 fl (k * 3 + 2)).toNat, by omega, by omega, by omega, by omega, by omega, by omega, rfl⟩
theorem secL_len {fl : List Int} {n k : Nat} (h : cableOk fl n = true) (hk : k < n) : (secL fl k).length ≤ 9 := by
  obtain ⟨a, b, c, -, -, -, ha, hb, hc, e⟩ := sec_nat h hk
  have := dig_len ha
  have := dig_len hb
  have := dig_len hc
  rw [e]; simp; omega
theorem txtL_len {fl : List Int} {n : Nat} (h : cableOk fl n = true) : ∀ k : Nat, k ≤ n → (txtL fl k).length ≤ 10 * k
  | 0, _ => Nat.le_refl _
  | k + 1, hk => by
    have := txtL_len h k (by omega)
    have := secL_len h (show k < n by omega)
    simp only [txtL]
    split <;> simp <;> omega
/-- Joined by a plus, the sections' texts are the text. -/
theorem join_txt (fl : List Int) : ∀ k : Nat, 1 ≤ k → Lib.join (upto (secL fl) k) [43] = txtL fl k
  | 0, h => by omega
  | 1, _ => by simp [upto, Lib.join_one, txtL]
  | k + 2, _ => by
    have ih := join_txt fl (k + 1) (by omega)
    rw [upto_succ]
    have key : ∀ (L : List (List UInt8)) (y : List UInt8), L ≠ [] → Lib.join (L ++ [y]) [43] = Lib.join L [43] ++ [43] ++ y := by
      intro L y hL
      cases L with
      | nil => exact absurd rfl hL
      | cons x r =>
        rw [List.cons_append, Lib.join_cons, Lib.join_cons]
        simp [Lib.joinTail]
    rw [key _ _ (by intro e; have := congrArg List.length e; rw [upto_length] at this; simp at this), ih]
    show _ = (if k + 1 = 0 then [] else txtL fl (k + 1) ++ [43]) ++ secL fl (k + 1)
    rw [if_neg (by omega)]
end Go.Proofs.YtglknakgfnoeaaaDoor
