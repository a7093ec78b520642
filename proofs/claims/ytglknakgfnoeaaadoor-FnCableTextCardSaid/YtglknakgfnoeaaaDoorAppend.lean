/-
  A WORD FOR MEMORY: append onto a row of the call's own: the source reads as ints, nil and empty let in. Of no program.
-/
import Derived.Test.YtglknakgfnoeaaaDoorBase
import Derived.Lib.AppendZeros
namespace Go.Proofs.YtglknakgfnoeaaaDoor
set_option linter.unusedVariables false
set_option linter.unusedSimpArgs false
open Go.RowKit

theorem add_lit0 (b off j : Nat) : (⟨b, off, none⟩ : Addr).add j = ⟨b, off + j, none⟩ := by
  by_cases h0 : j = 0
  · subst h0; simp [Addr.add]
  · simp [Addr.add, h0]

theorem run_append_flat {P : Program} (w : World) (base : Nat) (t ty e : TypeId) (i : TypeInfo) (z : Value) (size bytes : Nat) (ht : P.underlying t = some (.slice e)) (hi : P.info? e = some i) (hz : i.zero = some z)
    (hsize : i.size = size) (hby : i.bytes = bytes) (hzs : z.cells.size = size) (hsz : 0 < size) (v : Value) (n : Nat) (xs : List Value) (hown : w.ownsRow base e size v n xs)
    (hi' : Nat) (A : Option Addr) (m c : Nat) (fl : List Int) (hl : fl.length = m * size) (hr : Ints w hi' A fl)
    (h63 : n + m ≤ maxLen) (hbytes : (n + m) * bytes ≤ 140737488355328) (hbase : base ≤ w.heap.size) :
    ∃ v' w', (Builtin.append_ #[t, t] ty #[v, .slice A m c]).run P w = .ok v' w' ∧ w'.ownsRow base e size v' (n + m) (xs ++ fl.map (Value.int .i64)) ∧ w.grownBy w' v.ownBlock := by
  rcases A with _ | ad
  · have hf : fl.length = 0 := by
      rcases Nat.eq_zero_or_pos fl.length with h0 | h0
      · exact h0
      · obtain ⟨b, off, h, _⟩ := hr h0; cases h
    have hm : m = 0 := by
      rcases Nat.eq_zero_or_pos m with h0 | h0
      · exact h0
      · have := Nat.mul_pos h0 hsz; omega
    subst hm
    obtain rfl : fl = [] := List.eq_nil_of_length_eq_zero hf
    refine ⟨v, w, ?_, by simpa using hown, World.grownBy.refl w _⟩
    rcases hown.2 with ⟨rfl, rfl⟩ | ⟨g, cap, cur, rfl, _, _, hnc, _⟩
    · simp [Builtin.append_, run_underlying ht, sizeOf, typeInfo, hi, Builtin.lenOf, Builtin.firstCells]
    · simp [Builtin.append_, run_underlying ht, sizeOf, typeInfo, hi, Builtin.lenOf, Builtin.firstCells, hnc, storeCells]
  · obtain ⟨v', w', h1, h2, h3, _⟩ := run_append_own (P := P) w base t ty e i z size bytes ht hi hz hsize hby hzs hsz v n xs hown ad m c (fl.map (Value.int .i64)) (by simpa using hl)
      (fun j u hj => by
        have hjn : j < fl.length := by simpa using (List.getElem?_eq_some_iff.1 hj).1
        obtain ⟨b, off, hA, _, hc⟩ := hr (by omega)
        injection hA with hA
        subst hA
        rw [add_lit0, hc j hjn]
        have e : (fl.map (Value.int .i64))[j]? = some (Value.int .i64 (at0 fl j)) := by simp [at0, hjn]
        rw [e] at hj
        exact hj)
      (fun u hu => by obtain ⟨x, _, rfl⟩ := List.mem_map.1 hu; rfl) h63 hbytes hbase
    exact ⟨v', w', h1, h2, h3⟩

theorem step_append_flat {P : Program} (w : World) {ops : Array Oper} {o : Oper} {a : Act} {K : Act → World → Prop} {Q : Exit → Act → World → Prop} {E : Prop} (hgd : o.guard = none) (s x : Operand) (t : TypeId)
    (ho : o.op = .call { callee := .builtin .append, args := #[s, x], argTypes := #[t, t] })
    (base : Nat) (e : TypeId) (i : TypeInfo) (z : Value) (size bytes : Nat) (ht : P.underlying t = some (.slice e)) (hi : P.info? e = some i) (hz : i.zero = some z)
    (hsize : i.size = size) (hby : i.bytes = bytes) (hzs : z.cells.size = size) (hsz : 0 < size) (v : Value) (n : Nat) (xs : List Value) (hs : a.eval s = v) (hown : w.ownsRow base e size v n xs)
    (hi' : Nat) (A : Option Addr) (m c : Nat) (fl : List Int) (hx : a.eval x = .slice A m c) (hl : fl.length = m * size) (hr : Ints w hi' A fl)
    (h63 : n + m ≤ maxLen) (hbytes : (n + m) * bytes ≤ 140737488355328) (hbase : base ≤ w.heap.size)
    (h : ∀ v' w', w'.ownsRow base e size v' (n + m) (xs ++ fl.map (Value.int .i64)) → w.grownBy w' v.ownBlock → K (a.put o.dst v') w') :
    if Region.wanted o (yielded ops a.tmps) = true then Oper.wp P o a w K Q else E := by
  have hw : Region.wanted o (yielded ops a.tmps) = true := by simp [Region.wanted, hgd]
  rw [if_pos hw]
  obtain ⟨v', w', hrun, h2, h3⟩ := run_append_flat (P := P) w base t o.type e i z size bytes ht hi hz hsize hby hzs hsz v n xs hown hi' A m c fl hl hr h63 hbytes hbase
  exact Lib.wp_append_run w s x t t ho _ _ hs hx v' w' hrun (h v' w' h2 h3)

theorem own_empty (w : World) (e : TypeId) (size : Nat) : (w.alloc (.cells #[] e)).ownsRow w.heap.size e size (.slice (some ⟨w.heap.size, 0, none⟩) 0 0) 0 [] :=
  World.ownsRow_made w #[] 0 (Nat.le_refl _) (Nat.zero_le _) (by simp)

theorem append_own_below {w w' : World} {base : Nat} {e : TypeId} {size n : Nat} {v : Value} {xs : List Value} (hown : w.ownsRow base e size v n xs) (hg : w.grownBy w' v.ownBlock) (hb : base ≤ w.heap.size) : Below base w w' :=
  (Below.refl base w).grown hg hb (fun g hg => (hown.lt g hg).1)
end Go.Proofs.YtglknakgfnoeaaaDoor
