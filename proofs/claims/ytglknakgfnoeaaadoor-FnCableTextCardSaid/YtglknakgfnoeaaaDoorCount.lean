/-
  WALK: a byte of a text is counted.
-/
import Derived.Test.YtglknakgfnoeaaaDoorTextM
namespace Go.Proofs.YtglknakgfnoeaaaDoor
set_option linter.unusedVariables false
set_option linter.unusedSimpArgs false
open Go.RowKit

set_option maxHeartbeats 1600000 in
theorem countOf_any (l : List UInt8) (c : UInt8) (cz : Int) (hcz : cz = (c.toNat : Int)) (hl : l.length ≤ 1000) (w : World) :
    Calls Tryd.prog 7 #[.string (ba l), .int .u8 cz] w fun e w' => e = .returned (.int .i64 ((l.count c : Nat) : Int)) ∧ w = w' := by
  have hsz : (ba l).size = l.length := ba_size l
  go_enter Tryd.func7, Tryd.ntmps7
  go_wp2
  go_loop [5, 6] (fun m i => ∃ k : Nat, k ≤ l.length ∧ m = .int .i64 (((l.take k).count c : Nat) : Int) ∧ i = .int .i64 (k : Int)) (fun _ i => l.length - (intOf i).toNat)
  case atStart => exact ⟨0, Nat.zero_le _, by simp, rfl⟩
  case round =>
    obtain ⟨k, hk, rfl, rfl⟩ := hrel
    by_cases hlt : k < l.length
    · have hlt' : (k : Int) < (l.length : Int) := by omega
      have hcle : (l.take k).count c ≤ k := by have := List.count_le_length (a := c) (l := l.take k); simp at this; omega
      have hk2 : k < (ba l).size := by rw [hsz]; exact hlt
      have hget : (ba l)[k]'hk2 = l[k] := by simp [ba, ByteArray.getElem_eq_getElem_data]; rfl
      have htk : l.take (k + 1) = l.take k ++ [l[k]] := List.take_succ_eq_append_getElem hlt
      have HT := hide (show (l.take (k + 1)).count c = (l.take k).count c + (if l[k] = c then 1 else 0) by
        rw [htk, List.count_append, List.count_singleton]
        simp)
      by_cases hc : l[k] = c
      · have hb : ((((ba l)[k]'hk2).toNat : Int) == (c.toNat : Int)) = true := by rw [hget, hc]; simp
        have HC := hide hc
        clear htk hget hc
        go_wp2
        go_round
        case rel => exact ⟨k + 1, by omega, by rw [HT.out, if_pos HC.out]; simp, by go_num⟩
        case measure => simp [intOf]; omega
      · have hb : ((((ba l)[k]'hk2).toNat : Int) == (c.toNat : Int)) = false := by
          rw [hget]
          exact beq_eq_false_iff_ne.2 (fun e => hc (UInt8.toNat_inj.1 (by omega)))
        have HC := hide hc
        clear htk hget hc
        go_wp2
        go_round
        case rel => exact ⟨k + 1, by omega, by rw [HT.out, if_neg HC.out]; simp, by go_num⟩
        case measure => simp [intOf]; omega
    · obtain rfl : k = l.length := by omega
      have e : (l.take l.length).count c = l.count c := by rw [List.take_length]
      rw [e]
      go_wp2
      go_ret
      exact ⟨rfl, rfl⟩
end Go.Proofs.YtglknakgfnoeaaaDoor
