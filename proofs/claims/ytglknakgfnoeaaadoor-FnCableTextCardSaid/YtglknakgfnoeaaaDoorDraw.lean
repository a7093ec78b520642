/-
  WALKS: the reader of a code ('l6Open', 'pick'): each pick is some number below the bound that was asked for.
-/
import Derived.Test.YtglknakgfnoeaaaDoorBase
import Derived.Test.YtglknakgfnoeaaaDoorProg
import Derived.Deep.QuietTactic
import Derived.BigQuiet
import Derived.Laws.BitsAllLaws
import Derived.Laws.BitsLemmas
namespace Go.Proofs.YtglknakgfnoeaaaDoor
set_option linter.unusedVariables false
set_option linter.unusedSimpArgs false
open Go.RowKit

/-- The slice at A holds the bytes bs, in cells of a block below hi. -/
def Byts (w : World) (hi : Nat) (A : Option Addr) (bs : List Int) : Prop :=
  (∀ k, 0 ≤ at0 bs k ∧ at0 bs k ≤ 255) ∧ (0 < bs.length → ∃ b off, A = some ⟨b, off, none⟩ ∧ b < hi ∧ ∀ j, j < bs.length → w.cell? ⟨b, off + j, none⟩ = some (.int .u8 (at0 bs j)))
/-- The reader at block R: its bytes, its place. -/
def Rd (w : World) (R : Nat) (A : Option Addr) (n cap : Nat) (p : Int) : Prop := w.heap[R]? = some (.cells #[.slice A n cap, .int .i64 p] 44 (0, 0))

section
variable {w w' : World} {hi R : Nat} {A : Option Addr} {bs : List Int} {n cap : Nat} {p : Int}
theorem Byts.below (h : Byts w hi A bs) (hb : Below hi w w') : Byts w' hi A bs := ⟨h.1, fun hp => by
  obtain ⟨b, off, e, hlt, hc⟩ := h.2 hp
  exact ⟨b, off, e, hlt, fun j hj => (hb.cell (p := ⟨b, off + j, none⟩) hlt).trans (hc j hj)⟩⟩
theorem Byts.mono {hi' : Nat} (h : Byts w hi A bs) (hh : hi ≤ hi') : Byts w hi' A bs := ⟨h.1, fun hp => by
  obtain ⟨b, off, e, hb, hc⟩ := h.2 hp
  exact ⟨b, off, e, by omega, hc⟩⟩
theorem Byts.take (h : Byts w hi A bs) (k : Nat) : Byts w hi A (bs.take k) := by
  refine ⟨fun j => ?_, fun hp => ?_⟩
  · by_cases hj : j < k
    · have := h.1 j
      simpa [at0, hj] using this
    · have : (bs.take k)[j]? = none := by simp; omega
      simp [at0, this]
  · obtain ⟨b, off, e, hlt, hc⟩ := h.2 (by simp at hp; omega)
    refine ⟨b, off, e, hlt, fun j hj => ?_⟩
    have hj' : j < min k bs.length := by simpa using hj
    rw [hc j (by omega)]
    simp [at0, show j < k by omega]
theorem IsList.byts {len : Nat} (h : IsList .u8 w A len cap bs) : Byts w w.heap.size A bs := by
  obtain ⟨rfl, _, _, hw, h5⟩ := h
  refine ⟨fun k => ?_, h5⟩
  by_cases hk : k < bs.length
  · rw [at0_lt hk]
    have := hw _ (List.getElem_mem hk)
    simpa [Lit.wf, IntKind.min, IntKind.max, IntKind.signed, IntKind.bits] using this
  · have : bs[k]? = none := by simp; omega
    simp [at0, this]
theorem Rd.lt (h : Rd w R A n cap p) : R < w.heap.size := (Array.getElem?_eq_some_iff.1 h).1
theorem Rd.c0 (h : Rd w R A n cap p) : w.cell? ⟨R, 0, none⟩ = some (.slice A n cap) := by unfold Rd at h; simp [World.cell?, h]
theorem Rd.c1 (h : Rd w R A n cap p) : w.cell? ⟨R, 1, none⟩ = some (.int .i64 p) := by unfold Rd at h; simp [World.cell?, h]
theorem Rd.f1 (h : Rd w R A n cap p) : w.frozen? ⟨R, 1, none⟩ = false := by unfold Rd at h; simp [World.frozen?, h]
theorem Rd.set (h : Rd w R A n cap p) (q : Int) : Rd (w.setCell ⟨R, 1, none⟩ (.int .i64 q)) R A n cap q := by
  unfold Rd at h ⊢
  simp [World.setCell, Array.getElem?_modify, h]
theorem Rd.drewN (h : Rd w R A n cap p) (k : Nat) : Rd (w.drewN k) R A n cap p := h
theorem Rd.drew (h : Rd w R A n cap p) : Rd w.drew R A n cap p := h
theorem Rd.alloc (h : Rd w R A n cap p) (o : Obj) : Rd (w.alloc o) R A n cap p := (Below.heap_alloc w o R h.lt).trans h
theorem Rd.kept {row : Option Nat} (h : Rd w R A n cap p) (hg : w.grownBy w' row) (hr : some R ≠ row) : Rd w' R A n cap p := (hg.block R h.lt hr).trans h
theorem Rd.below {B : Nat} (h : Rd w R A n cap p) (hg : Below B w w') (hr : R < B) : Rd w' R A n cap p := (hg.block R hr).trans h
end

/-- .. whatever its place. -/
def RdE (w : World) (R : Nat) (A : Option Addr) (n cap : Nat) : Prop := ∃ p, Rd w R A n cap p
theorem RdE.set {w : World} {R : Nat} {A : Option Addr} {n cap : Nat} (h : RdE w R A n cap) (q : Int) : Rd (w.setCell ⟨R, 1, none⟩ (.int .i64 q)) R A n cap q := by obtain ⟨p, h⟩ := h; exact h.set q
theorem RdE.again {w : World} {R : Nat} {A : Option Addr} {n cap : Nat} (h : RdE w R A n cap) (q : Int) : RdE (w.setCell ⟨R, 1, none⟩ (.int .i64 q)) R A n cap := ⟨q, h.set q⟩
theorem RdE.drewN {w : World} {R : Nat} {A : Option Addr} {n cap : Nat} (h : RdE w R A n cap) (k : Nat) : RdE (w.drewN k) R A n cap := h
theorem RdE.drew {w : World} {R : Nat} {A : Option Addr} {n cap : Nat} (h : RdE w R A n cap) : RdE w.drew R A n cap := h
theorem RdE.alloc {w : World} {R : Nat} {A : Option Addr} {n cap : Nat} (h : RdE w R A n cap) (o : Obj) : RdE (w.alloc o) R A n cap := by obtain ⟨p, h⟩ := h; exact ⟨p, h.alloc o⟩

/-- A pick: some number below m; the reader's place has gone on; nothing else has turned. -/
def PickPost (w : World) (R : Nat) (A : Option Addr) (n cap : Nat) (p m : Int) (e : Ending) (w' : World) : Prop :=
  ∃ x : Int, 0 ≤ x ∧ x < m ∧ e = .returned (.int .i64 x) ∧ Rd w' R A n cap (p + 1) ∧ w.grownBy w' (some R)

theorem grownBy_drewN {w w' : World} {row : Option Nat} (h : w.grownBy w' row) (n : Nat) : w.grownBy (w'.drewN n) row := ⟨h.os, h.tape, h.output, h.size, h.block⟩
theorem grownBy_set (w : World) (R j : Nat) (u : Value) : w.grownBy (w.setCell ⟨R, j, none⟩ u) (some R) :=
  ⟨rfl, rfl, rfl, by simp [World.setCell], fun k hk hne => Below.heap_setCell w ⟨R, j, none⟩ u k (fun e => hne (by rw [e]))⟩

theorem i64_xor_ge (a b : Nat) (ha : a < 4611686018427387904) (hb : b < 4611686018427387904) : 0 ≤ bits .xor .i64 (a : Int) (b : Int) ∧ bits .xor .i64 (a : Int) (b : Int) ≤ 9223372036854775807 := by
  have o : ∀ c : Nat, c < 9223372036854775808 → (BitVec.ofInt 64 (c : Int)).toNat = c := fun c hc => by
    rw [BitVec.ofInt_natCast, BitVec.toNat_ofNat]; exact Nat.mod_eq_of_lt (by omega)
  have hx : a ^^^ b < 2 ^ 63 := Nat.xor_lt_two_pow (by omega) (by omega)
  have : bits .xor .i64 (a : Int) (b : Int) = ((a ^^^ b : Nat) : Int) := by
    show IntKind.i64.wrap ((BitVec.ofInt 64 (a : Int) ^^^ BitVec.ofInt 64 (b : Int)).toNat : Int) = _
    rw [BitVec.toNat_xor, o a (by omega), o b (by omega), IntKind.wrap_i64]
    omega
  rw [this]
  generalize a ^^^ b = c at *
  omega

set_option maxHeartbeats 400000 in
theorem l6Open_any (A : Option Addr) (bs : List Int) (cap : Nat) (w : World) (hc : bs.length ≤ cap) (hn : cap ≤ 9223372036854775807) :
    Calls Tryd.prog 9 #[.slice A bs.length cap] w fun e w' => e = .returned (.pointer (some ⟨w.heap.size, 0, none⟩)) ∧
      w' = w.alloc (.cells #[.slice A (bs.take 2000).length cap, .int .i64 0] 44) := by
  by_cases h : (2000 : Int) < (bs.length : Int)
  · have HL := hide (show (bs.take 2000).length = 2000 by simp; omega)
    rw [HL.out]
    have h2 : (2000 : Int) ≤ (cap : Int) := by omega
    go_enter Tryd.func9, Tryd.ntmps9
    go_wp2
    go_ret
    exact ⟨rfl, rfl⟩
  · have HL := hide (show (bs.take 2000).length = bs.length by simp; omega)
    rw [HL.out]
    go_enter Tryd.func9, Tryd.ntmps9
    go_wp2
    go_ret
    exact ⟨rfl, rfl⟩

/-- A pick, to the cell: some number below m; the reader's place has gone on, by some draws; nothing else has turned. -/
def PickExact (w : World) (R : Nat) (p m : Int) (e : Ending) (w' : World) : Prop :=
  ∃ (x : Int) (n : Nat), 0 ≤ x ∧ x < m ∧ e = .returned (.int .i64 x) ∧ w' = (w.setCell ⟨R, 1, none⟩ (.int .i64 (p + 1))).drewN n

set_option maxHeartbeats 800000 in
theorem pick_exact (R : Nat) (A : Option Addr) (bs : List Int) (cap : Nat) (p m : Int) (w : World) (hR : Rd w R A bs.length cap p) (hB : Byts w R A bs) (hp0 : 0 ≤ p) (hp : p ≤ 1000000) (hl : bs.length ≤ 2000) (hm : 1 ≤ m) (hm2 : m ≤ 1000000) :
    Calls Tryd.prog 16 #[.pointer (some ⟨R, 0, none⟩), .int .i64 m] w (PickExact w R p m) := by
  obtain ⟨p, rfl⟩ := Int.eq_ofNat_of_zero_le hp0
  clear hp0
  have hc1 := hR.c1
  have hf1 := hR.f1
  have hR1 := hR.set ((p : Int) + 1)
  have hd0 := hR1.c0
  have hd1 := hR1.c1
  have HR1 := hide hR1
  have HB := hide hB
  clear hR hB hR1
  by_cases h0 : bs.length = 0
  · go_enter Tryd.func16, Tryd.ntmps16
    go_wp2
    go_ret
    exact ⟨0, 0, by omega, by omega, rfl, rfl⟩
  · obtain ⟨b, off, rfl, hb, hc⟩ := HB.out.2 (by omega)
    have hby := HB.out.1
    have hcell : ∀ j, j < bs.length → (w.setCell ⟨R, 1, none⟩ (.int .i64 ((p : Int) + 1))).cell? ⟨b, off + j, none⟩ = some (.int .u8 (at0 bs j)) := fun j hj => by
      rw [World.cell?_setCell_other _ _ _ _ (fun e => by have h1 : R = b := congrArg Addr.block e; omega)]
      exact hc j hj
    clear HB hc
    have hne : ((bs.length : Int) == 0) = false := beq_eq_false_iff_ne.2 (by omega)
    by_cases hlt : p < bs.length
    · have hx := hcell p hlt
      obtain ⟨hx1, hx2⟩ := hby p
      have hmod1 : 0 ≤ at0 bs p % m := Int.emod_nonneg _ (by omega)
      have hmod2 : at0 bs p % m < m := Int.emod_lt_of_pos _ (by omega)
      clear hcell hby
      go_enter Tryd.func16, Tryd.ntmps16
      go_wp2
      go_ret
      exact ⟨_, 0, hmod1, hmod2, rfl, rfl⟩
    · have hn1 : 0 < bs.length := by omega
      have g1 := Nat.mod_lt p hn1
      have g2 := Nat.mod_lt (p * 7 + 3) hn1
      have hx := hcell _ g1
      have hy := hcell _ g2
      obtain ⟨hx1, hx2⟩ := hby (p % bs.length)
      obtain ⟨hy1, hy2⟩ := hby ((p * 7 + 3) % bs.length)
      clear hcell hby
      have i1 : (0 : Int) ≤ (p : Int) % (bs.length : Int) := Int.emod_nonneg _ (by omega)
      have i2 : (p : Int) % (bs.length : Int) < (bs.length : Int) := Int.emod_lt_of_pos _ (by omega)
      have i3 : ((p : Int) % (bs.length : Int)).toNat = p % bs.length := by rw [← Int.natCast_emod]; rfl
      have i4 : (0 : Int) ≤ ((p : Int) * 7 + 3) % (bs.length : Int) := Int.emod_nonneg _ (by omega)
      have i5 : ((p : Int) * 7 + 3) % (bs.length : Int) < (bs.length : Int) := Int.emod_lt_of_pos _ (by omega)
      have i6 : (((p : Int) * 7 + 3) % (bs.length : Int)).toNat = (p * 7 + 3) % bs.length := by
        have : ((p : Int) * 7 + 3) = ((p * 7 + 3 : Nat) : Int) := by omega
        rw [this, ← Int.natCast_emod]; rfl
      have i7 : (0 : Int) ≤ (p : Int) / (bs.length : Int) := Int.ediv_nonneg (by omega) (by omega)
      have i8 : (p : Int) / (bs.length : Int) ≤ 1000000 := by
        have h := Nat.div_le_self p bs.length
        rw [← Int.natCast_ediv]
        generalize p / bs.length = q at *
        omega
      go_enter Tryd.func16, Tryd.ntmps16
      go_wp2
      go_quiet (fail)
      obtain ⟨s, hs, hs2⟩ : ∃ s : Nat, at0 bs (p % bs.length) * 131 + at0 bs ((p * 7 + 3) % bs.length) * 1117 + (p : Int) * 29 + (p : Int) / (bs.length : Int) * 53 = (s : Int) ∧ s ≤ 1000000000 :=
        ⟨(at0 bs (p % bs.length) * 131 + at0 bs ((p * 7 + 3) % bs.length) * 1117 + (p : Int) * 29 + (p : Int) / (bs.length : Int) * 53).toNat, by omega, by omega⟩
      rw [hs]
      clear hs i1 i2 i3 i4 i5 i6 i7 i8 hx hy hx1 hx2 hy1 hy2
      obtain ⟨x1, x2⟩ := i64_xor_ge s (s / 64) (by omega) (by omega)
      go_wp2
      go_ret
      have hcs : ((s / 64 : Nat) : Int) = (s : Int) / 64 := by omega
      rw [hcs] at x1 x2
      exact ⟨_, _, Int.tmod_nonneg _ x1, Int.tmod_lt_of_pos _ (by omega), rfl, rfl⟩

theorem pick_any (R : Nat) (A : Option Addr) (bs : List Int) (cap : Nat) (p m : Int) (w : World) (hR : Rd w R A bs.length cap p) (hB : Byts w R A bs) (hp0 : 0 ≤ p) (hp : p ≤ 1000000) (hl : bs.length ≤ 2000) (hm : 1 ≤ m) (hm2 : m ≤ 1000000) :
    Calls Tryd.prog 16 #[.pointer (some ⟨R, 0, none⟩), .int .i64 m] w (PickPost w R A bs.length cap p m) :=
  (pick_exact R A bs cap p m w hR hB hp0 hp hl hm hm2).mono fun e w' ⟨x, n, h0, h1, he, hw⟩ => ⟨x, h0, h1, he, by rw [hw]; exact (hR.set (p + 1)).drewN n, by rw [hw]; exact grownBy_drewN (grownBy_set _ _ _ _) n⟩
end Go.Proofs.YtglknakgfnoeaaaDoor
