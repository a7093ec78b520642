/-
  WALKS: the draws of one floor.
-/
import Derived.Test.YtoelajocacpmgaaDrawFloor
namespace Go.Proofs.Ytoelajocacpmgaa
set_option linter.unusedVariables false
set_option linter.unusedSimpArgs false
open Go.RowKit

/-- Some new list of bounded numbers comes back; what there was lies as it lay. -/
def DrawOne (w : World) (m : Nat) (hi : Int) (e : Ending) (w' : World) : Prop :=
  ∃ A' c xs, e = .returned (.slice A' xs.length c) ∧ xs.length ≤ c ∧ c ≤ 9223372036854775807 ∧ Bded m hi xs ∧ Fresh w' w.heap.size w'.heap.size A' xs ∧ Below w.heap.size w w'
theorem rd_new {w : World} {A : Option Addr} {n cap : Nat} {p : Int} : Rd (w.alloc (.cells #[.slice A n cap, .int .i64 p] 62)) w.heap.size A n cap p := heap_alloc_new w _
theorem below_rd {w w' : World} {o : Obj} (h : (w.alloc o).grownBy w' (some w.heap.size)) : Below w.heap.size w w' := ((Below.refl _ w).alloc (Nat.le_refl _) _).grown h (by simp) (fun g e => by injection e with e; omega)

set_option maxHeartbeats 800000 in
theorem drawFloorNeeds_any (A : Option Addr) (bs : List Int) (cap : Nat) (w : World) (hB : Byts w w.heap.size A bs) (hc : bs.length ≤ cap) (hn : cap ≤ 9223372036854775807) :
    Calls Try.prog 43 #[.slice A bs.length cap] w (DrawOne w 17 41) := by
  obtain ⟨b2, hb2⟩ : ∃ b2, b2 = bs.take 2000 := ⟨_, rfl⟩
  have hl2 : b2.length ≤ 2000 := by rw [hb2]; simp; omega
  have hB2 : Byts w w.heap.size A b2 := by rw [hb2]; exact hB.take 2000
  have HO := fun W => l6Open_any A bs cap W hc hn
  rw [← hb2] at HO
  have hO := hide HO
  have HB2 := hide (hB2.below ((Below.refl _ w).alloc (Nat.le_refl _) (.cells #[.slice A b2.length cap, .int .i64 0] 62)))
  clear HO hb2 hB hB2
  go_enter Try.func43, Try.ntmps43
  go_wp2_with fail
  refine (hO.out _).mono ?_
  rintro e w' ⟨rfl, rfl⟩
  go_wp2_with fail
  (with_reducible refine (l91Floor_any w.heap.size A b2 cap 0 7 _ rd_new HB2.out (by omega) (by omega) hl2 (by omega) (by omega)).mono ?_)
  rintro e w1 ⟨A', xs, c, p', rfl, h1, h2, h3, h4, -, -, -, hg⟩
  go_wp2
  go_ret
  exact ⟨A', c, xs, rfl, h1, h2, h3, h4.mono (by simp) (Nat.le_refl _), below_rd hg⟩

set_option maxHeartbeats 800000 in
theorem drawFloorBack_any (A : Option Addr) (bs : List Int) (cap : Nat) (w : World) (hB : Byts w w.heap.size A bs) (hc : bs.length ≤ cap) (hn : cap ≤ 9223372036854775807) :
    Calls Try.prog 29 #[.slice A bs.length cap] w (DrawOne w 17 41) := by
  obtain ⟨b2, hb2⟩ : ∃ b2, b2 = bs.take 2000 := ⟨_, rfl⟩
  have hl2 : b2.length ≤ 2000 := by rw [hb2]; simp; omega
  have hB2 : Byts w w.heap.size A b2 := by rw [hb2]; exact hB.take 2000
  have HO := fun W => l6Open_any A bs cap W hc hn
  rw [← hb2] at HO
  have hO := hide HO
  have HB2 := hide (hB2.below ((Below.refl _ w).alloc (Nat.le_refl _) (.cells #[.slice A b2.length cap, .int .i64 0] 62)))
  clear HO hb2 hB hB2
  go_enter Try.func29, Try.ntmps29
  go_wp2_with fail
  refine (hO.out _).mono ?_
  rintro e w' ⟨rfl, rfl⟩
  go_wp2_with fail
  (with_reducible refine (l91Floor_any w.heap.size A b2 cap 0 7 _ rd_new HB2.out (by omega) (by omega) hl2 (by omega) (by omega)).mono ?_)
  rintro e w1 ⟨A', xs, c, p', rfl, h1, h2, h3, h4, -, -, -, hg⟩
  go_wp2
  go_ret
  exact ⟨A', c, xs, rfl, h1, h2, h3, h4.mono (by simp) (Nat.le_refl _), below_rd hg⟩

set_option maxHeartbeats 800000 in
theorem drawFloorDeepest_any (A : Option Addr) (bs : List Int) (cap : Nat) (w : World) (hB : Byts w w.heap.size A bs) (hc : bs.length ≤ cap) (hn : cap ≤ 9223372036854775807) :
    Calls Try.prog 26 #[.slice A bs.length cap] w (DrawOne w 17 41) := by
  obtain ⟨b2, hb2⟩ : ∃ b2, b2 = bs.take 2000 := ⟨_, rfl⟩
  have hl2 : b2.length ≤ 2000 := by rw [hb2]; simp; omega
  have hB2 : Byts w w.heap.size A b2 := by rw [hb2]; exact hB.take 2000
  have HO := fun W => l6Open_any A bs cap W hc hn
  rw [← hb2] at HO
  have hO := hide HO
  have HB2 := hide (hB2.below ((Below.refl _ w).alloc (Nat.le_refl _) (.cells #[.slice A b2.length cap, .int .i64 0] 62)))
  clear HO hb2 hB hB2
  go_enter Try.func26, Try.ntmps26
  go_wp2_with fail
  refine (hO.out _).mono ?_
  rintro e w' ⟨rfl, rfl⟩
  go_wp2_with fail
  (with_reducible refine (l91Floor_any w.heap.size A b2 cap 0 7 _ rd_new HB2.out (by omega) (by omega) hl2 (by omega) (by omega)).mono ?_)
  rintro e w1 ⟨A', xs, c, p', rfl, h1, h2, h3, h4, -, -, -, hg⟩
  go_wp2
  go_ret
  exact ⟨A', c, xs, rfl, h1, h2, h3, h4.mono (by simp) (Nat.le_refl _), below_rd hg⟩

set_option maxHeartbeats 800000 in
theorem drawFloorSteepest_any (A : Option Addr) (bs : List Int) (cap : Nat) (w : World) (hB : Byts w w.heap.size A bs) (hc : bs.length ≤ cap) (hn : cap ≤ 9223372036854775807) :
    Calls Try.prog 36 #[.slice A bs.length cap] w (DrawOne w 17 41) := by
  obtain ⟨b2, hb2⟩ : ∃ b2, b2 = bs.take 2000 := ⟨_, rfl⟩
  have hl2 : b2.length ≤ 2000 := by rw [hb2]; simp; omega
  have hB2 : Byts w w.heap.size A b2 := by rw [hb2]; exact hB.take 2000
  have HO := fun W => l6Open_any A bs cap W hc hn
  rw [← hb2] at HO
  have hO := hide HO
  have HB2 := hide (hB2.below ((Below.refl _ w).alloc (Nat.le_refl _) (.cells #[.slice A b2.length cap, .int .i64 0] 62)))
  clear HO hb2 hB hB2
  go_enter Try.func36, Try.ntmps36
  go_wp2_with fail
  refine (hO.out _).mono ?_
  rintro e w' ⟨rfl, rfl⟩
  go_wp2_with fail
  (with_reducible refine (l91Floor_any w.heap.size A b2 cap 0 7 _ rd_new HB2.out (by omega) (by omega) hl2 (by omega) (by omega)).mono ?_)
  rintro e w1 ⟨A', xs, c, p', rfl, h1, h2, h3, h4, -, -, -, hg⟩
  go_wp2
  go_ret
  exact ⟨A', c, xs, rfl, h1, h2, h3, h4.mono (by simp) (Nat.le_refl _), below_rd hg⟩

set_option maxHeartbeats 800000 in
theorem drawPayLevel_any (A : Option Addr) (bs : List Int) (cap : Nat) (w : World) (hB : Byts w w.heap.size A bs) (hc : bs.length ≤ cap) (hn : cap ≤ 9223372036854775807) :
    Calls Try.prog 40 #[.slice A bs.length cap] w (DrawOne w 17 41) := by
  obtain ⟨b2, hb2⟩ : ∃ b2, b2 = bs.take 2000 := ⟨_, rfl⟩
  have hl2 : b2.length ≤ 2000 := by rw [hb2]; simp; omega
  have hB2 : Byts w w.heap.size A b2 := by rw [hb2]; exact hB.take 2000
  have HO := fun W => l6Open_any A bs cap W hc hn
  rw [← hb2] at HO
  have hO := hide HO
  have HB2 := hide (hB2.below ((Below.refl _ w).alloc (Nat.le_refl _) (.cells #[.slice A b2.length cap, .int .i64 0] 62)))
  clear HO hb2 hB hB2
  go_enter Try.func40, Try.ntmps40
  go_wp2_with fail
  refine (hO.out _).mono ?_
  rintro e w' ⟨rfl, rfl⟩
  go_wp2_with fail
  (with_reducible refine (l91Floor_any w.heap.size A b2 cap 0 7 _ rd_new HB2.out (by omega) (by omega) hl2 (by omega) (by omega)).mono ?_)
  rintro e w1 ⟨A', xs, c, p', rfl, h1, h2, h3, h4, -, -, -, hg⟩
  go_wp2
  go_ret
  exact ⟨A', c, xs, rfl, h1, h2, h3, h4.mono (by simp) (Nat.le_refl _), below_rd hg⟩

end Go.Proofs.Ytoelajocacpmgaa
