/-
  WALKS: the slack of a pay-out: the program's and the reference's.
-/
import Derived.Test.YtoelajocacpmgaaSpecNeeds
import Derived.Test.YtoelajocacpmgaaPay
namespace Go.Proofs.Ytoelajocacpmgaa
set_option linter.unusedVariables false
set_option linter.unusedSimpArgs false
open Go.RowKit Go.Shelf
attribute [local go_sem] Oper.semAt_some

def posI (n : Int) : Int := if n < 0 then 0 else n
theorem posI_pos {n : Int} (h : 0 < n) : posI n = n := by unfold posI; split <;> omega
theorem posI_neg {n : Int} (h : ¬ 0 < n) : posI n = 0 := by unfold posI; split <;> omega
theorem posI_bd {n hi : Int} (h : n ≤ hi) (h0 : 0 ≤ hi) : 0 ≤ posI n ∧ posI n ≤ hi := by unfold posI; split <;> omega
def slackF (f p : List Int) (i : Nat) : Int := posI (at0 p i - needF f i)
/-- The sum of the slacks, or -1. -/
def slack (f p : List Int) : Int := if payOk f p = true then sumN (slackF f p) p.length else -1

theorem l1Need_q (A : Option Addr) (xs : List Int) (cap : Nat) (i : Nat) (w : World) (h : Ints w w.heap.size A xs) (hd : Deep xs) (hi : i + 1 < xs.length) (hn : xs.length ≤ 16) :
    Calls Try.prog 62 #[.slice A xs.length cap, .int .i64 (i : Int)] w fun e w' => e = .returned (.int .i64 (needF xs i)) ∧ ∃ n, w' = w.drewN n :=
  (l1Need_any A xs cap i w h hd hi hn).mono fun e w' ⟨n, he, hw⟩ => ⟨he, n, hw⟩
theorem payOk_deep {f p : List Int} (h : payOk f p = true) : Deep f ∧ (2 ≤ f.length ∧ f.length ≤ 16) ∧ p.length + 1 = f.length ∧ ∀ k, k < p.length → 0 ≤ at0 p k ∧ at0 p k ≤ 60 := by
  obtain ⟨h1, h2, h3⟩ := payOk_iff.1 h
  exact ⟨floorOk_deep h1, floorOk_len h1, h2, fun k hk => allIn_get h3 hk⟩
theorem slackF_bd {f p : List Int} (h : payOk f p = true) {i : Nat} (hi : i < p.length) : 0 ≤ slackF f p i ∧ slackF f p i ≤ 60 := by
  obtain ⟨h1, h2, h3, h4⟩ := payOk_deep h
  have := needF_bd h1 (i := i) (by omega)
  have := h4 i hi
  exact posI_bd (by omega) (by omega)

set_option maxHeartbeats 1600000 in
theorem specPaySlack_any (A A' : Option Addr) (f p : List Int) (c c' : Nat) (w : World) (h : Ints w w.heap.size A f) (h' : Ints w w.heap.size A' p) (hn : f.length ≤ 1048576) (hn' : p.length ≤ 1048576) :
    Calls Try.prog 18 #[.slice A f.length c, .slice A' p.length c'] w fun e w' => e = .returned (.int .i64 (slack f p)) ∧ Below w.heap.size w w' := by
  have H := hide h
  have H' := hide h'
  clear h h'
  by_cases hp : payOk f p = true
  · have HP := hide hp
    have HF := hide (show sumN (slackF f p) p.length = slack f p by simp [slack, hp])
    obtain ⟨h1, ⟨h2a, h2b⟩, h3, h4⟩ := payOk_deep hp
    have HD := hide h1
    have H4 := hide h4
    have HB := hide (fun k (hk : k ≤ p.length) => sumN_bd (f := slackF f p) (lo := 0) (hi := 60) (n := p.length) (fun j hj => slackF_bd hp hj) hk)
    have hq1 : 0 < p.length := by omega
    have hq2 : p.length ≤ 15 := by omega
    have HL := hide h3
    clear hp h1 h4 h3
    obtain ⟨b, off, rfl, hb, hc⟩ := H'.out hq1
    have HC := hide hc
    clear hc
    go_enter Try.func18, Try.ntmps18
    go_wp2_with fail
    refine (specPayValid_any _ _ f p _ _ _ H.out H'.out hn hn').mono ?_
    rintro e w' ⟨rfl, rfl⟩
    rw [HP.out]
    go_wp2_with fail
    go_loopw [5, 6] (fun v i wr => ∃ k : Nat, k ≤ p.length ∧ v = .int .i64 (sumN (slackF f p) k) ∧ i = .int .i64 (k : Int) ∧ Hid (Below w.heap.size w wr))
      (fun _ i _ => p.length - (intOf i).toNat)
    case atStart => exact ⟨0, Nat.zero_le _, rfl, rfl, Below.refl _ _⟩
    case round =>
      obtain ⟨k, hk, rfl, rfl, hbel⟩ := hrel
      have hbd := HB.out k hk
      obtain ⟨b1, b2⟩ := hbd
      have b3 : 0 ≤ sumN (slackF f p) k := by omega
      have b4 : sumN (slackF f p) k ≤ 10000 := by omega
      clear b1 b2
      by_cases hlt : k < p.length
      · have c1 : wr.cell? ⟨b, off + k, none⟩ = some (.int .i64 (at0 p k)) := (hbel.out.cell (p := ⟨b, off + k, none⟩) hb).trans (HC.out k hlt)
        obtain ⟨v1, v2⟩ := H4.out k hlt
        have hL := HL.out
        have hN := hide (fun m => l1Need_q A f c k (wr.drewN m) (((H.out.below hbel.out).mono hbel.out.size).next (below_drewN (Below.refl _ _) m)) HD.out (by omega) h2b)
        obtain ⟨n1, n2⟩ := needF_bd HD.out (i := k) (by omega)
        have e1 : (k : Int) < (p.length : Int) := by omega
        have e2 : (0 : Int) ≤ (k : Int) := by omega
        clear hL
        have HS : Hid (sumN (slackF f p) (k + 1) = sumN (slackF f p) k + posI (at0 p k - needF f k)) := rfl
        by_cases hpos : 0 < at0 p k - needF f k
        · have HQ : Hid (posI (at0 p k - needF f k) = at0 p k - needF f k) := posI_pos hpos
          have s1 : IntKind.i64.wrap (at0 p k - needF f k) = at0 p k - needF f k := IntWalk.i64_in _ ⟨by omega, by omega⟩
          have s2 : IntKind.i64.wrap (sumN (slackF f p) k + (at0 p k - needF f k)) = sumN (slackF f p) k + (at0 p k - needF f k) := IntWalk.i64_in _ ⟨by omega, by omega⟩
          go_wp2
          go_quiet ((go_at_call 62; exact Calls.quiet_of (hN.out _)))
          clear s1 s2
          go_wp2
          go_roundw
          case rel => exact ⟨k + 1, by omega, by rw [HS.out, HQ.out], by go_num, below_drewN hbel.out _⟩
          case measure => simp [intOf]; omega
        · have HQ : Hid (posI (at0 p k - needF f k) = 0) := posI_neg hpos
          have s1 : IntKind.i64.wrap (at0 p k - needF f k) = at0 p k - needF f k := IntWalk.i64_in _ ⟨by omega, by omega⟩
          have s2 : IntKind.i64.wrap (sumN (slackF f p) k) = sumN (slackF f p) k := IntWalk.i64_in _ ⟨by omega, by omega⟩
          go_wp2
          go_quiet ((go_at_call 62; exact Calls.quiet_of (hN.out _)))
          clear s1 s2
          go_wp2
          go_roundw
          case rel => exact ⟨k + 1, by omega, by rw [HS.out, HQ.out]; simp, by go_num, below_drewN hbel.out _⟩
          case measure => simp [intOf]; omega
      · have hkk : k = p.length := by omega
        subst hkk
        go_wp2
        go_ret
        exact ⟨ret_int HF.out, hbel.out⟩
  · have hp' : payOk f p = false := by simpa using hp
    have HF := hide (show -1 = slack f p by simp [slack, hp'])
    clear hp
    go_enter Try.func18, Try.ntmps18
    go_wp2_with (go_at_call 49; refine (specPayValid_any _ _ f p _ _ _ H.out H'.out hn hn').mono ?_; rintro e w' ⟨rfl, rfl⟩)
    go_ret
    exact ⟨ret_int HF.out, Below.refl _ _⟩
end Go.Proofs.Ytoelajocacpmgaa
