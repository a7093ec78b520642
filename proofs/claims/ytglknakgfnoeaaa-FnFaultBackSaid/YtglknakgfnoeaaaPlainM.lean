/-
  PLAIN LEAN, no program in sight: sections that are joined where kind and ohms are alike; lists of sections, flat and not.
-/
import Derived.Test.YtglknakgfnoeaaaCableOhms
import Derived.Test.YtglknakgfnoeaaaPlain
namespace Go.Proofs.Ytglknakgfnoeaaa
set_option linter.unusedVariables false
set_option linter.unusedSimpArgs false
open Go.RowKit

/-- A section. -/
abbrev Sec3 := Int × Int × Int
def flat1 (t : Sec3) : List Int := [t.1, t.2.1, t.2.2]
def flatS (L : List Sec3) : List Int := L.flatMap flat1
theorem flatS_nil : flatS [] = [] := rfl
theorem flatS_app (a b : List Sec3) : flatS (a ++ b) = flatS a ++ flatS b := by simp [flatS]
theorem flatS_one (t : Sec3) : flatS [t] = [t.1, t.2.1, t.2.2] := rfl
theorem flatS_len : ∀ L : List Sec3, (flatS L).length = L.length * 3
  | [] => rfl
  | t :: r => by
    have := flatS_len r
    show (flat1 t ++ flatS r).length = _
    simp only [List.length_append, this, flat1, List.length_cons, List.length_nil]
    omega
/-- A flat list's section. -/
def sec3 (fl : List Int) (k : Nat) : Sec3 := (at0 fl (k * 3), at0 fl (k * 3 + 1), at0 fl (k * 3 + 2))
def secs (fl : List Int) (n : Nat) : List Sec3 := upto (sec3 fl) n
theorem secs_succ (fl : List Int) (n : Nat) : secs fl (n + 1) = secs fl n ++ [sec3 fl n] := upto_succ _ _
theorem secs_len (fl : List Int) (n : Nat) : (secs fl n).length = n := upto_length _ _
theorem at0_app_l {a b : List Int} {j : Nat} (h : j < a.length) : at0 (a ++ b) j = at0 a j := by simp [at0, List.getElem?_append_left h]
theorem at0_app_r {a b : List Int} (j : Nat) : at0 (a ++ b) (a.length + j) = at0 b j := by simp [at0, List.getElem?_append_right]
theorem flat_snoc (L : List Sec3) (t : Sec3) : at0 (flatS (L ++ [t])) (L.length * 3) = t.1 ∧ at0 (flatS (L ++ [t])) (L.length * 3 + 1) = t.2.1 ∧ at0 (flatS (L ++ [t])) (L.length * 3 + 2) = t.2.2 := by
  rw [flatS_app, flatS_one, ← flatS_len]
  refine ⟨?_, ?_, ?_⟩
  · have := at0_app_r (a := flatS L) (b := [t.1, t.2.1, t.2.2]) 0; rw [Nat.add_zero] at this; exact this
  · exact at0_app_r (a := flatS L) (b := [t.1, t.2.1, t.2.2]) 1
  · exact at0_app_r (a := flatS L) (b := [t.1, t.2.1, t.2.2]) 2
theorem secs_flat : ∀ L : List Sec3, secs (flatS L) L.length = L := fun L => by
  induction h : L.length generalizing L with
  | zero => rw [List.eq_nil_of_length_eq_zero h]; rfl
  | succ n ih =>
    obtain rfl | ⟨I, t, rfl⟩ := List.eq_nil_or_concat L
    · simp at h
    · rw [List.concat_eq_append] at h ⊢
      have hI : I.length = n := by simpa using h
      rw [secs_succ]
      obtain ⟨a, b, c⟩ := flat_snoc I t
      have e1 : sec3 (flatS (I ++ [t])) n = t := by rw [← hI]; simp only [sec3, a, b, c]
      have e2 : secs (flatS (I ++ [t])) n = secs (flatS I) n := upto_congr fun j hj => by
        have hl := flatS_len I
        simp only [sec3, flatS_app]
        rw [at0_app_l (by omega), at0_app_l (by omega), at0_app_l (by omega)]
      rw [e1, e2, ih I hI]
theorem flat_secs {fl : List Int} {n : Nat} (h : fl.length = n * 3) : flatS (secs fl n) = fl := by
  have key : ∀ k, k ≤ n → flatS (secs fl k) = fl.take (k * 3) := by
    intro k
    induction k with
    | zero => intro _; simp [secs, upto, flatS]
    | succ k ih =>
      intro hk
      rw [secs_succ, flatS_app, ih (by omega), flatS_one]
      have e : (k + 1) * 3 = k * 3 + 1 + 1 + 1 := by omega
      have t : ∀ j, j < fl.length → fl.take (j + 1) = fl.take j ++ [at0 fl j] := fun j hj => by
        rw [List.take_succ_eq_append_getElem hj, at0_lt hj]
      rw [e, t _ (by omega), t _ (by omega), t _ (by omega)]
      simp [sec3]
  rw [key n (Nat.le_refl _), List.take_of_length_le (by omega)]

/-- Alike in kind and ohms. -/
def same3 (a b : Sec3) : Bool := decide (a.2.1 = b.2.1) && decide (a.2.2 = b.2.2)
def merge3 (a b : Sec3) : Sec3 := (a.1 + b.1, a.2)
/-- One section more, joined with the last one. -/
def sm (L : List Sec3) (y : Sec3) : List Sec3 := match L.reverse with
  | [] => [y]
  | z :: r => if same3 z y = true then r.reverse ++ [merge3 z y] else r.reverse ++ [z, y]
theorem sm_nil (y : Sec3) : sm [] y = [y] := rfl
theorem sm_snoc (L : List Sec3) (z y : Sec3) : sm (L ++ [z]) y = if same3 z y = true then L ++ [merge3 z y] else L ++ [z, y] := by
  simp only [sm, List.reverse_append, List.reverse_cons, List.reverse_nil, List.nil_append, List.cons_append, List.reverse_reverse]
/-- The plain list of sections. -/
def plT (X : List Sec3) : List Sec3 := X.foldl sm []
theorem plT_snoc (X : List Sec3) (y : Sec3) : plT (X ++ [y]) = sm (plT X) y := by simp [plT]
theorem sm_len (L : List Sec3) (y : Sec3) : (sm L y).length ≤ L.length + 1 ∧ 1 ≤ (sm L y).length := by
  obtain rfl | ⟨I, z, rfl⟩ := List.eq_nil_or_concat L
  · simp [sm_nil]
  · rw [List.concat_eq_append, sm_snoc]
    split <;> simp
theorem plT_len (X : List Sec3) : (plT X).length ≤ X.length := by
  induction h : X.length generalizing X with
  | zero => rw [List.eq_nil_of_length_eq_zero h]; simp [plT]
  | succ n ih =>
    obtain rfl | ⟨I, y, rfl⟩ := List.eq_nil_or_concat X
    · simp at h
    · rw [List.concat_eq_append] at h ⊢
      have hI : I.length = n := by simpa using h
      have := sm_len (plT I) y
      have := ih I hI
      rw [plT_snoc]
      omega

/-- The first sections of a cable, joined. -/
def plL (fl : List Int) (k : Nat) : List Sec3 := plT (secs fl k)
theorem plL_succ (fl : List Int) (k : Nat) : plL fl (k + 1) = sm (plL fl k) (sec3 fl k) := by simp only [plL, secs_succ, plT_snoc]
theorem plL_len (fl : List Int) (k : Nat) : (plL fl k).length ≤ k := by have := plT_len (secs fl k); rwa [secs_len] at this
theorem sm_mem (L : List Sec3) (y t : Sec3) (h : t ∈ sm L y) : t = y ∨ t ∈ L ∨ ∃ z ∈ L, t = merge3 z y := by
  obtain rfl | ⟨I, z, rfl⟩ := List.eq_nil_or_concat L
  · simp [sm_nil] at h; exact Or.inl h
  · rw [List.concat_eq_append] at h ⊢
    rw [sm_snoc] at h
    split at h
    · rcases List.mem_append.1 h with h | h
      · exact Or.inr (Or.inl (by simp [h]))
      · simp at h; exact Or.inr (Or.inr ⟨z, by simp, h⟩)
    · rcases List.mem_append.1 h with h | h
      · exact Or.inr (Or.inl (by simp [h]))
      · simp at h; rcases h with rfl | rfl
        · exact Or.inr (Or.inl (by simp))
        · exact Or.inl rfl
theorem plL_bd {fl : List Int} {n : Nat} (h : cableOk fl n = true) : ∀ k : Nat, k ≤ n → ∀ t ∈ plL fl k, 1 ≤ t.1 ∧ t.1 ≤ 50 * (k : Int)
  | 0, _, t, ht => by simp [plL, plT, secs, upto] at ht
  | k + 1, hk, t, ht => by
    rw [plL_succ] at ht
    obtain ⟨⟨v1, v2⟩, -⟩ := sec_bd h (show k < n by omega)
    have e : (sec3 fl k).1 = at0 fl (k * 3) := rfl
    rcases sm_mem _ _ _ ht with rfl | h1 | ⟨z, hz, rfl⟩
    · rw [e]; omega
    · have := plL_bd h k (by omega) t h1; omega
    · have := plL_bd h k (by omega) z hz
      show 1 ≤ z.1 + (sec3 fl k).1 ∧ z.1 + (sec3 fl k).1 ≤ _
      rw [e]; omega

/-- A cable can be plain. -/
def plainOk (fl : List Int) (n : Nat) : Bool := cableOk fl n && cableOk (flatS (plL fl n)) (plL fl n).length
/-- The plain cable, flat. -/
def plain (fl : List Int) (n : Nat) : List Int := if plainOk fl n = true then flatS (plL fl n) else []
def plainN (fl : List Int) (n : Nat) : Nat := if plainOk fl n = true then (plL fl n).length else 0
end Go.Proofs.Ytglknakgfnoeaaa
