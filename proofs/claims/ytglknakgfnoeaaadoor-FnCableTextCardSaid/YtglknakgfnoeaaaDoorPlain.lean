/-
  PLAIN LEAN, no program in sight: what each mile of a floor needs; sums; the first greatest of a list.
-/
import Derived.Test.YtglknakgfnoeaaaDoorBase
namespace Go.Proofs.YtglknakgfnoeaaaDoor
set_option linter.unusedVariables false
set_option linter.unusedSimpArgs false
open Go.RowKit

def upto {α : Type} (f : Nat → α) (k : Nat) : List α := (List.range k).map f
theorem upto_zero {α : Type} (f : Nat → α) : upto f 0 = [] := rfl
theorem upto_succ {α : Type} (f : Nat → α) (k : Nat) : upto f (k + 1) = upto f k ++ [f k] := by simp [upto, List.range_succ]
theorem upto_length {α : Type} (f : Nat → α) (k : Nat) : (upto f k).length = k := by simp [upto]
theorem upto_take {α : Type} (f : Nat → α) {k n : Nat} (h : k ≤ n) : (upto f n).take k = upto f k := by
  simp only [upto, ← List.map_take, List.take_range]
  rw [Nat.min_eq_left h]
theorem at0_upto (f : Nat → Int) {k j : Nat} (h : j < k) : at0 (upto f k) j = f j := by simp [at0, upto, h]
theorem upto_congr {α : Type} {f g : Nat → α} {k : Nat} (h : ∀ j, j < k → f j = g j) : upto f k = upto g k := by
  simp only [upto]
  exact List.map_congr_left (fun j hj => h j (List.mem_range.1 hj))
theorem eq_upto (xs : List Int) : xs = upto (at0 xs) xs.length := by
  apply List.ext_getElem
  · simp [upto]
  · intro i h1 h2
    simp [upto, at0, h1]
theorem list_eq_of_at0 {xs ys : List Int} (hl : xs.length = ys.length) (h : ∀ j, j < xs.length → at0 xs j = at0 ys j) : xs = ys := by
  rw [eq_upto xs, eq_upto ys, hl]
  exact upto_congr (fun j hj => h j (by omega))

/-- What a mile from depth a to depth b needs. -/
def needAt (a b : Int) : Int := if a ≤ b then 10 + (b - a) else 10 + (a - b)
/-- What the mile i of a floor needs. -/
def needF (xs : List Int) (i : Nat) : Int := needAt (at0 xs i) (at0 xs (i + 1))
def needs (xs : List Int) : List Int := upto (needF xs) (xs.length - 1)
theorem needAt_up {a b : Int} (h : a ≤ b) : needAt a b = 10 + (b - a) := by simp [needAt, h]
theorem needAt_down {a b : Int} (h : ¬ a ≤ b) : needAt a b = 10 + (a - b) := by simp [needAt, h]
theorem needAt_bd {a b : Int} (h1 : 0 ≤ a ∧ a ≤ 40) (h2 : 0 ≤ b ∧ b ≤ 40) : 10 ≤ needAt a b ∧ needAt a b ≤ 50 := by
  unfold needAt; split <;> omega
theorem needs_length (xs : List Int) : (needs xs).length = xs.length - 1 := upto_length _ _

/-- A floor's or a part's depths are in their bounds. -/
def Deep (xs : List Int) : Prop := ∀ k, k < xs.length → 0 ≤ at0 xs k ∧ at0 xs k ≤ 40
theorem needF_bd {xs : List Int} (h : Deep xs) {i : Nat} (hi : i + 1 < xs.length) : 10 ≤ needF xs i ∧ needF xs i ≤ 50 :=
  needAt_bd (h i (by omega)) (h (i + 1) hi)

def sumN (f : Nat → Int) : Nat → Int
  | 0 => 0
  | k + 1 => sumN f k + f k
theorem sumN_congr {f g : Nat → Int} {k : Nat} (h : ∀ j, j < k → f j = g j) : sumN f k = sumN g k := by
  induction k with
  | zero => rfl
  | succ k ih => simp only [sumN]; rw [ih (fun j hj => h j (by omega)), h k (by omega)]
theorem sumN_bd {f : Nat → Int} {lo hi : Int} {n k : Nat} (h : ∀ j, j < n → lo ≤ f j ∧ f j ≤ hi) (hk : k ≤ n) : lo * k ≤ sumN f k ∧ sumN f k ≤ hi * k := by
  induction k with
  | zero => simp [sumN]
  | succ k ih =>
    obtain ⟨a, b⟩ := ih (by omega)
    obtain ⟨c, d⟩ := h k (by omega)
    simp only [sumN, Int.natCast_succ, Int.mul_add, Int.mul_one]
    omega
theorem sumN_add (f : Nat → Int) (a b : Nat) : sumN f (a + b) = sumN f a + sumN (fun i => f (a + i)) b := by
  induction b with
  | zero => simp [sumN]
  | succ b ih => rw [← Nat.add_assoc]; simp only [sumN]; rw [ih]; omega

/-- The first of the greatest among the first k numbers. -/
def firstTo (xs : List Int) : Nat → Nat
  | 0 => 0
  | k + 1 => if at0 xs (firstTo xs k) < at0 xs k then k else firstTo xs k
def firstMax (xs : List Int) : Nat := firstTo xs xs.length
theorem firstTo_lt (xs : List Int) (k : Nat) (h : 0 < k) : firstTo xs k < k := by
  induction k with
  | zero => omega
  | succ k ih =>
    simp only [firstTo]
    split
    · omega
    · by_cases h0 : k = 0
      · subst h0; simp [firstTo]
      · have := ih (by omega); omega
theorem firstTo_spec (xs : List Int) (k : Nat) : (∀ j, j < k → at0 xs j ≤ at0 xs (firstTo xs k)) ∧ (∀ j, j < firstTo xs k → at0 xs j < at0 xs (firstTo xs k)) := by
  induction k with
  | zero => exact ⟨fun j h => absurd h (by omega), fun j h => absurd h (by simp [firstTo])⟩
  | succ k ih =>
    obtain ⟨h1, h2⟩ := ih
    simp only [firstTo]
    split
    next hlt =>
      refine ⟨fun j hj => ?_, fun j hj => ?_⟩
      · by_cases hjk : j = k
        · subst hjk; omega
        · have := h1 j (by omega); omega
      · have := h1 j hj; omega
    next hge =>
      refine ⟨fun j hj => ?_, h2⟩
      by_cases hjk : j = k
      · subst hjk; omega
      · exact h1 j (by omega)
/-- The first greatest is the only place of its kind. -/
theorem firstTo_unique {xs : List Int} {n m : Nat} (hm : m < n) (h1 : ∀ j, j < n → at0 xs j ≤ at0 xs m) (h2 : ∀ j, j < m → at0 xs j < at0 xs m) : firstTo xs n = m := by
  obtain ⟨g1, g2⟩ := firstTo_spec xs n
  have hlt := firstTo_lt xs n (by omega)
  rcases Nat.lt_trichotomy (firstTo xs n) m with h | h | h
  · have := h2 _ h; have := g1 m hm; omega
  · exact h
  · have := g2 _ h; have := h1 _ hlt; omega
end Go.Proofs.YtglknakgfnoeaaaDoor
