/-
  PLAIN LEAN, no program in sight: what joining keeps: miles, ohms, the ohms up to a mile; joined twice; joined from the other end.
-/
import Derived.Test.YtglknakgfnoeaaaPlainM
import Derived.Test.YtglknakgfnoeaaaCableWhere
namespace Go.Proofs.Ytglknakgfnoeaaa
set_option linter.unusedVariables false
set_option linter.unusedSimpArgs false
open Go.RowKit

/-! ### Whatever a fold tells that joins alike sections -/
theorem fold_sm {σ : Type} (f : σ → Sec3 → σ) (hf : ∀ s z y, 0 ≤ z.1 → 0 ≤ y.1 → same3 z y = true → f (f s z) y = f s (merge3 z y)) :
    ∀ (L : List Sec3) (y : Sec3) (s : σ), (∀ t ∈ L, 0 ≤ t.1) → 0 ≤ y.1 → (sm L y).foldl f s = f (L.foldl f s) y := by
  intro L y s hL hy
  obtain rfl | ⟨I, z, rfl⟩ := List.eq_nil_or_concat L
  · rfl
  · rw [List.concat_eq_append] at hL ⊢
    rw [sm_snoc]
    by_cases h : same3 z y = true
    · rw [if_pos h]
      simp only [List.foldl_append, List.foldl_cons, List.foldl_nil]
      exact (hf _ z y (hL z (by simp)) hy h).symm
    · rw [if_neg h]
      simp only [List.foldl_append, List.foldl_cons, List.foldl_nil]
theorem sm_pos {lo : Int} (h0 : 0 ≤ lo) (L : List Sec3) (y : Sec3) (hL : ∀ t ∈ L, lo ≤ t.1) (hy : lo ≤ y.1) : ∀ t ∈ sm L y, lo ≤ t.1 := by
  obtain rfl | ⟨I, z, rfl⟩ := List.eq_nil_or_concat L
  · intro t ht; simp [sm_nil] at ht; rw [ht]; exact hy
  · rw [List.concat_eq_append] at hL ⊢
    rw [sm_snoc]
    have hz := hL z (by simp)
    intro t ht
    split at ht
    · rcases List.mem_append.1 ht with h | h
      · exact hL t (by simp [h])
      · simp at h; rw [h]; show lo ≤ z.1 + y.1; omega
    · rcases List.mem_append.1 ht with h | h
      · exact hL t (by simp [h])
      · simp at h; rcases h with rfl | rfl
        · exact hz
        · exact hy
theorem fold_plL {σ : Type} (f : σ → Sec3 → σ) (hf : ∀ s z y, 0 ≤ z.1 → 0 ≤ y.1 → same3 z y = true → f (f s z) y = f s (merge3 z y)) (fl : List Int) (s : σ) :
    ∀ k : Nat, (∀ j, j < k → 0 ≤ at0 fl (j * 3)) → (plL fl k).foldl f s = (secs fl k).foldl f s ∧ ∀ t ∈ plL fl k, 0 ≤ t.1
  | 0, _ => ⟨rfl, fun t ht => by simp [plL, plT, secs, upto] at ht⟩
  | k + 1, h => by
    obtain ⟨ih, ip⟩ := fold_plL f hf fl s k (fun j hj => h j (by omega))
    have hy : 0 ≤ (sec3 fl k).1 := h k (by omega)
    rw [plL_succ, fold_sm f hf _ _ _ ip hy, ih, secs_succ]
    refine ⟨by simp, ?_⟩
    exact sm_pos (Int.le_refl 0) _ _ ip hy

/-- One section's miles and ohms, onto what is left and what is summed. -/
def stepO (s : Int × Int) (t : Sec3) : Int × Int := (s.1 - (if t.1 < s.1 then t.1 else s.1), s.2 + (if t.1 < s.1 then t.1 else s.1) * t.2.2)
theorem stepO_merge (s : Int × Int) (z y : Sec3) (hz : 0 ≤ z.1) (hy : 0 ≤ y.1) (h : same3 z y = true) : stepO (stepO s z) y = stepO s (merge3 z y) := by
  have ho : y.2.2 = z.2.2 := by simp [same3] at h; exact h.2.symm
  simp only [stepO, merge3, ho, Prod.mk.injEq]
  have key : (if y.1 < s.1 - (if z.1 < s.1 then z.1 else s.1) then y.1 else s.1 - (if z.1 < s.1 then z.1 else s.1)) + (if z.1 < s.1 then z.1 else s.1) = if z.1 + y.1 < s.1 then z.1 + y.1 else s.1 := by
    split <;> split <;> split <;> omega
  constructor
  · omega
  · have k2 := congrArg (· * z.2.2) key
    simp only [Int.add_mul] at k2
    show s.2 + (if z.1 < s.1 then z.1 else s.1) * z.2.2 + (if y.1 < s.1 - (if z.1 < s.1 then z.1 else s.1) then y.1 else s.1 - (if z.1 < s.1 then z.1 else s.1)) * z.2.2 = s.2 + (if z.1 + y.1 < s.1 then z.1 + y.1 else s.1) * z.2.2
    omega
theorem fold_ohms (fl : List Int) (m : Int) : ∀ k : Nat, (secs fl k).foldl stepO (m, 0) = (leftM fl m k, ohmsTo fl m k)
  | 0 => rfl
  | k + 1 => by
    rw [secs_succ, List.foldl_append, fold_ohms fl m k]
    rfl
def stepF (s : Int × Int) (t : Sec3) : Int × Int := (s.1 + t.1, s.2 + t.1 * t.2.2)
theorem stepF_merge (s : Int × Int) (z y : Sec3) (hz : 0 ≤ z.1) (hy : 0 ≤ y.1) (h : same3 z y = true) : stepF (stepF s z) y = stepF s (merge3 z y) := by
  have ho : y.2.2 = z.2.2 := by simp [same3] at h; exact h.2.symm
  simp only [stepF, merge3, ho, Prod.mk.injEq]
  constructor
  · omega
  · rw [Int.add_mul]; omega
theorem fold_full (fl : List Int) : ∀ k : Nat, (secs fl k).foldl stepF (0, 0) = (sumMi fl k, fullO fl k)
  | 0 => rfl
  | k + 1 => by
    rw [secs_succ, List.foldl_append, fold_full fl k]
    rfl
/-- Joined, a cable is as long, and resists as much, up to every mile. -/
theorem plain_keeps {fl : List Int} {n : Nat} (h : cableOk fl n = true) :
    sumMi (flatS (plL fl n)) (plL fl n).length = sumMi fl n ∧ fullO (flatS (plL fl n)) (plL fl n).length = fullO fl n ∧ ∀ m, ohmsTo (flatS (plL fl n)) m (plL fl n).length = ohmsTo fl m n := by
  have hp : ∀ j, j < n → 0 ≤ at0 fl (j * 3) := fun j hj => by have := (sec_bd h hj).1; omega
  have e1 := (fold_plL stepF stepF_merge fl (0, 0) n hp).1
  rw [← secs_flat (plL fl n), fold_full, fold_full, Prod.mk.injEq] at e1
  have hl : (secs (flatS (plL fl n)) (plL fl n).length).length = (plL fl n).length := secs_len _ _
  refine ⟨?_, ?_, fun m => ?_⟩
  · simpa [secs_flat] using e1.1
  · simpa [secs_flat] using e1.2
  · have e2 := (fold_plL stepO stepO_merge fl (m, 0) n hp).1
    rw [fold_ohms] at e2
    have e3 := fold_ohms (flatS (plL fl n)) m (plL fl n).length
    rw [secs_flat, e2, Prod.mk.injEq] at e3
    exact e3.2.symm

/-! ### Joined twice -/
/-- No neighbours are alike. -/
def Apart : List Sec3 → Prop
  | [] => True
  | [_] => True
  | a :: b :: r => same3 a b = false ∧ Apart (b :: r)
theorem Apart.snoc : ∀ (L : List Sec3) (z y : Sec3), Apart (L ++ [z, y]) ↔ Apart (L ++ [z]) ∧ same3 z y = false
  | [], z, y => by simp [Apart]
  | [a], z, y => by simp [Apart, and_assoc]
  | a :: b :: r, z, y => by
    have := Apart.snoc (b :: r) z y
    simp only [List.cons_append] at this ⊢
    simp only [Apart, this, and_assoc]
theorem Apart.last (L : List Sec3) (z z' : Sec3) (hk : z.2 = z'.2) : Apart (L ++ [z]) ↔ Apart (L ++ [z']) := by
  obtain rfl | ⟨I, x, rfl⟩ := List.eq_nil_or_concat L
  · simp [Apart]
  · have e : same3 x z = same3 x z' := by simp only [same3, hk]
    rw [List.concat_eq_append]
    have e1 : I ++ [x] ++ [z] = I ++ [x, z] := by simp
    have e2 : I ++ [x] ++ [z'] = I ++ [x, z'] := by simp
    rw [e1, e2, Apart.snoc, Apart.snoc, e]
theorem sm_apart (L : List Sec3) (y : Sec3) (h : Apart L) : Apart (sm L y) := by
  obtain rfl | ⟨I, z, rfl⟩ := List.eq_nil_or_concat L
  · simp [sm_nil, Apart]
  · rw [List.concat_eq_append] at h ⊢
    rw [sm_snoc]
    by_cases hs : same3 z y = true
    · rw [if_pos hs]; exact (Apart.last I z (merge3 z y) rfl).1 h
    · rw [if_neg hs]; exact (Apart.snoc I z y).2 ⟨h, by simpa using hs⟩
theorem foldl_sm_apart : ∀ (X L : List Sec3), Apart L → Apart (X.foldl sm L)
  | [], _, h => h
  | y :: r, L, h => foldl_sm_apart r _ (sm_apart L y h)
theorem sm_of_apart (L : List Sec3) (y : Sec3) (h : Apart (L ++ [y])) : sm L y = L ++ [y] := by
  obtain rfl | ⟨I, z, rfl⟩ := List.eq_nil_or_concat L
  · rfl
  · rw [List.concat_eq_append] at h ⊢
    have e1 : I ++ [z] ++ [y] = I ++ [z, y] := by simp
    rw [e1] at h ⊢
    rw [sm_snoc, if_neg (by have := ((Apart.snoc I z y).1 h).2; rw [this]; simp)]
theorem apart_init (L : List Sec3) (y : Sec3) (h : Apart (L ++ [y])) : Apart L := by
  obtain rfl | ⟨I, z, rfl⟩ := List.eq_nil_or_concat L
  · trivial
  · rw [List.concat_eq_append] at h ⊢
    have e1 : I ++ [z] ++ [y] = I ++ [z, y] := by simp
    rw [e1] at h
    exact ((Apart.snoc I z y).1 h).1
theorem plT_of_apart (n : Nat) : ∀ X : List Sec3, X.length = n → Apart X → plT X = X := by
  induction n with
  | zero => intro X h _; rw [List.eq_nil_of_length_eq_zero h]; rfl
  | succ n ih =>
    intro X h ha
    obtain rfl | ⟨I, z, rfl⟩ := List.eq_nil_or_concat X
    · rfl
    · rw [List.concat_eq_append] at h ha ⊢
      rw [plT_snoc, ih I (by simpa using h) (apart_init I z ha), sm_of_apart I z ha]
theorem plain_twice (fl : List Int) (n : Nat) : plL (flatS (plL fl n)) (plL fl n).length = plL fl n := by
  unfold plL
  rw [secs_flat]
  exact plT_of_apart _ _ rfl (foldl_sm_apart _ _ trivial)

/-! ### Joined from the other end -/
/-- One section more ahead, joined with the first one. -/
def cm (x : Sec3) : List Sec3 → List Sec3
  | [] => [x]
  | z :: r => if same3 x z = true then (x.1 + z.1, z.2) :: r else x :: z :: r
theorem same3_iff {a b : Sec3} : same3 a b = true ↔ a.2 = b.2 := by
  obtain ⟨a1, a2, a3⟩ := a
  obtain ⟨b1, b2, b3⟩ := b
  simp [same3]
theorem cm_sm (x y : Sec3) : ∀ L : List Sec3, cm x (sm L y) = sm (cm x L) y
  | [] => by
    show cm x [y] = sm ([] ++ [x]) y
    rw [sm_snoc]
    simp only [cm, List.nil_append, merge3]
    by_cases h : same3 x y = true
    · rw [if_pos h, if_pos h, same3_iff.1 h]
    · rw [if_neg h, if_neg h]
  | [z] => by
    have e0 : sm [z] y = if same3 z y = true then [merge3 z y] else [z, y] := sm_snoc [] z y
    rw [e0]
    by_cases h1 : same3 x z = true
    · have k1 := same3_iff.1 h1
      have e1 : cm x [z] = [(x.1 + z.1, z.2)] := by simp [cm, h1]
      have e2 : sm [(x.1 + z.1, z.2)] y = if same3 (x.1 + z.1, z.2) y = true then [merge3 (x.1 + z.1, z.2) y] else [(x.1 + z.1, z.2), y] := sm_snoc [] _ y
      have e3 : same3 (x.1 + z.1, z.2) y = same3 z y := rfl
      rw [e1, e2, e3]
      by_cases h2 : same3 z y = true
      · rw [if_pos h2, if_pos h2]
        have e4 : same3 x (z.1 + y.1, z.2) = true := same3_iff.2 k1
        simp only [cm, merge3, e4, if_true, Int.add_assoc]
      · rw [if_neg h2, if_neg h2]
        simp [cm, h1]
    · have e1 : cm x [z] = [x] ++ [z] := by simp [cm, h1]
      rw [e1, sm_snoc]
      by_cases h2 : same3 z y = true
      · rw [if_pos h2, if_pos h2]
        have e4 : ¬ same3 x (merge3 z y) = true := fun h => h1 (same3_iff.2 (same3_iff.1 h))
        simp [cm, e4]
      · rw [if_neg h2, if_neg h2]
        simp [cm, h1]
  | z :: a :: r => by
    obtain ⟨I, l, hI⟩ : ∃ I l, a :: r = I ++ [l] := by
      obtain h | ⟨I, l, h⟩ := List.eq_nil_or_concat (a :: r)
      · cases h
      · exact ⟨I, l, by rw [h, List.concat_eq_append]⟩
    rw [hI]
    have e0 : sm (z :: (I ++ [l])) y = z :: (if same3 l y = true then I ++ [merge3 l y] else I ++ [l, y]) := by
      have := sm_snoc (z :: I) l y
      rw [List.cons_append] at this
      rw [this]
      split <;> rfl
    rw [e0]
    by_cases h1 : same3 x z = true
    · simp only [cm, h1, if_true]
      have := sm_snoc ((x.1 + z.1, z.2) :: I) l y
      rw [List.cons_append] at this
      rw [this]
      split <;> rfl
    · simp only [cm, h1]
      have := sm_snoc (x :: z :: I) l y
      rw [List.cons_append, List.cons_append] at this
      show x :: z :: _ = sm (x :: z :: (I ++ [l])) y
      rw [this]
      split <;> rfl
theorem foldl_sm_cm (x : Sec3) : ∀ (X L : List Sec3), X.foldl sm (cm x L) = cm x (X.foldl sm L)
  | [], _ => rfl
  | y :: r, L => by
    simp only [List.foldl_cons]
    rw [← cm_sm, foldl_sm_cm x r]
theorem plT_cons (x : Sec3) (X : List Sec3) : plT (x :: X) = cm x (plT X) := foldl_sm_cm x X []
def cm' (y : Sec3) : List Sec3 → List Sec3
  | [] => [y]
  | z :: r => if same3 z y = true then merge3 z y :: r else y :: z :: r
theorem sm_rev (L : List Sec3) (y : Sec3) : sm L.reverse y = (cm' y L).reverse := by
  cases L with
  | nil => rfl
  | cons z r =>
    rw [List.reverse_cons, sm_snoc]
    simp only [cm']
    split <;> simp
theorem same3_comm (a b : Sec3) : same3 a b = same3 b a := by
  simp only [same3, eq_comm]
theorem cm'_eq (y : Sec3) (L : List Sec3) : cm' y L = cm y L := by
  cases L with
  | nil => rfl
  | cons z r =>
    simp only [cm', cm, same3_comm z y, merge3, Int.add_comm z.1 y.1]
/-- From the other end, the same sections are joined. -/
theorem plT_rev (X : List Sec3) : plT X.reverse = (plT X).reverse := by
  induction X with
  | nil => rfl
  | cons x X ih => rw [List.reverse_cons, plT_snoc, ih, plT_cons, sm_rev, cm'_eq]
end Go.Proofs.Ytglknakgfnoeaaa
