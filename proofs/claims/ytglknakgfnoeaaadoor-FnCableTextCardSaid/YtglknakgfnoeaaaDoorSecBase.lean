/-
  WORDS FOR MEMORY: a slice of sections, read as a flat list of ints, three a section. Of no program.
-/
import Derived.Test.YtglknakgfnoeaaaDoorBase
import Derived.Test.YtglknakgfnoeaaaDoorPlain
import Derived.Deep.Slices
import Derived.Deep.Fields
import Derived.ChangeSame
namespace Go.Proofs.YtglknakgfnoeaaaDoor
set_option linter.unusedVariables false
set_option linter.unusedSimpArgs false
open Go.RowKit

/-- What is known of a slice of sections that came in. -/
def IsSecs (w : World) (A : Option Addr) (len cap : Nat) (fl : List Int) : Prop :=
  fl.length = len * 3 ∧ len ≤ cap ∧ cap ≤ maxLen ∧ (∀ n ∈ fl, (Lit.int .i64 n).wf = true) ∧
  (0 < len → ∃ b off, A = some ⟨b, off, none⟩ ∧ b < w.heap.size ∧ ∀ j, j < len * 3 → w.cell? ⟨b, off + j, none⟩ = some (.int .i64 (at0 fl j)))
theorem IsSecs.ints {w : World} {A : Option Addr} {len cap : Nat} {fl : List Int} (h : IsSecs w A len cap fl) : Ints w w.heap.size A fl := fun hp => by
  obtain ⟨h1, _, _, _, h5⟩ := h
  obtain ⟨b, off, e, hb, hc⟩ := h5 (by omega)
  exact ⟨b, off, e, hb, fun j hj => hc j (by omega)⟩

section
variable {H : Type} {enc : TypeId × Value → H} {P : Program} {w : World} {base : Nat} {spare : Nat → Bool} {held : Bool}
theorem IsSecs.of_trod {t e ti : TypeId} {f0 f1 f2 : Field} {fuel : Nat} {A : Option Addr} {len cap : Nat} {x : DataW H × List MemPlace} (ht : P.underlying t = some (.slice e)) (he : P.underlying e = some (.struct #[f0, f1, f2])) (hti : P.underlying ti = some (.int .i64))
    (h0 : f0.type = ti) (h1 : f1.type = ti) (h2 : f2.type = ti) (hone : Go.Deep.oneCellFields P #[f0, f1, f2] = true) (hC : P.cellsOf e = 3) (h : DataW.trod enc P w base spare held fuel t (Value.slice A len cap).cells.toList = some x) : ∃ fl, IsSecs w A len cap fl := by
  rcases Go.Deep.open_slice ht h with ⟨hcs, _⟩ | ⟨a, len', cap', m, n, D, Pl, hcs, hb, hl, hm, hmm, hx, hi⟩
  · simp [Value.cells] at hcs
    obtain ⟨rfl, rfl, rfl⟩ := hcs
    exact ⟨[], rfl, Nat.le_refl _, Nat.zero_le _, by simp, fun h => absurd h (by omega)⟩
  · simp [Value.cells] at hcs
    obtain ⟨rfl, rfl, rfl⟩ := hcs
    have hml : len ≤ m := by rw [hmm]; split <;> omega
    have key : ∀ j, j < len * 3 → ∃ v : Int, w.cell? (a.add j) = some (.int .i64 v) ∧ (Lit.int .i64 v).wf = true := by
      intro j hj
      obtain ⟨cs', hc, ht'⟩ := hi (j / 3) (by omega)
      rw [hC] at hc
      obtain ⟨ys, n', hn', hy, hlen, hyl, hf⟩ := DataW.trod_struct he ht'
      obtain ⟨_, hcl, hat⟩ := World.cells?_some hc
      have hr : j % 3 < 3 := Nat.mod_lt _ (by omega)
      have hcell := hat (j % 3) hr
      rw [Go.Deep.add_add, show j / 3 * 3 + j % 3 = j by omega] at hcell
      have hone3 : ∀ r f, (#[f0, f1, f2] : Array Field)[r]? = some f → f.type = ti → r < 3 → ∃ v : Int, cs'[r]? = some (.int .i64 v) ∧ (Lit.int .i64 v).wf = true := by
        intro r f hrf hft hr3
        obtain ⟨ho, hk⟩ := Go.Deep.hone_of hone r f hrf
        have hg := hf r f hrf
        rw [ho, hk, hft] at hg
        have hys : ys[r]? = some (ys[r]'(by have : ys.length = 3 := hyl; omega)) := List.getElem?_eq_getElem _
        rw [hys] at hg
        obtain ⟨v, e1, _, hwf⟩ := DataW.trod_int hti hg
        refine ⟨v, ?_, hwf⟩
        have : ((cs'.drop r).take 1)[0]? = some (.int .i64 v) := by rw [e1]; rfl
        simpa using this
      obtain ⟨v, hv, hwf⟩ : ∃ v : Int, cs'[j % 3]? = some (.int .i64 v) ∧ (Lit.int .i64 v).wf = true := by
        have h3 : j % 3 = 0 ∨ j % 3 = 1 ∨ j % 3 = 2 := by omega
        rcases h3 with e | e | e
        · rw [e]; exact hone3 0 f0 rfl h0 (by omega)
        · rw [e]; exact hone3 1 f1 rfl h1 (by omega)
        · rw [e]; exact hone3 2 f2 rfl h2 (by omega)
      refine ⟨v, ?_, hwf⟩
      rw [hcell]
      exact hv
    let g : Nat → Int := fun j => match w.cell? (a.add j) with | some (.int _ v) => v | _ => 0
    have hg : ∀ j, j < len * 3 → w.cell? (a.add j) = some (.int .i64 (g j)) ∧ (Lit.int .i64 (g j)).wf = true := by
      intro j hj
      obtain ⟨v, hv, hwf⟩ := key j hj
      have : g j = v := by simp only [g, hv]
      rw [this]; exact ⟨hv, hwf⟩
    refine ⟨upto g (len * 3), upto_length _ _, hl, hm, ?_, fun hp => ?_⟩
    · intro n hn
      obtain ⟨k, hk, rfl⟩ := List.getElem_of_mem hn
      rw [upto_length] at hk
      rw [← at0_lt (by rw [upto_length]; exact hk), at0_upto _ hk]
      exact (hg k hk).2
    · obtain ⟨b, off, spot⟩ := a
      have hc0 := (hg 0 (by omega)).1
      have hspot : spot = none := by simpa [Addr.add] using World.cell?_spot hc0
      subst hspot
      refine ⟨b, off, rfl, ?_, fun j hj => ?_⟩
      · have := World.block_lt_of_cell? w _ hc0
        simpa [Addr.add] using this
      · have h1 := (hg j hj).1
        have e : (⟨b, off, none⟩ : Addr).add j = ⟨b, off + j, none⟩ := by
          by_cases h0 : j = 0
          · subst h0; simp [Addr.add]
          · simp [Addr.add, h0]
        rw [e] at h1
        rw [h1, at0_upto _ hj]
end

/-- A section's numbers. -/
def mi (fl : List Int) (k : Nat) : Int := at0 fl (k * 3)
def ki (fl : List Int) (k : Nat) : Int := at0 fl (k * 3 + 1)
def oh (fl : List Int) (k : Nat) : Int := at0 fl (k * 3 + 2)
end Go.Proofs.YtglknakgfnoeaaaDoor
