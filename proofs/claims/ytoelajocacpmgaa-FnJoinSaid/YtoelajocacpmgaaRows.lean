/-
  No cell of these rows narrows 'for every input' (looked for: loops, veiled, ifaces, maps, wideKeys, modest, calm, conditions, laid).
  DERIVED. THE GIVEN ROWS OF THIS SEAT. 13 by the template 'for every input the law returns true; each argument reads behind the call as it read before'; 0 by the template 'total and deterministic' (their statements: YtoelajocacpmgaaTotals.lean).
  GIVEN WITH THE SEED: the statements are not yours to turn. If you find one false, say at which input.
  Laid BY PROGRAM, IN A SANDBOX (cutbox-rows.mjs): the forced cells as the released guide's own fill.sh prints them over the translation 73eb516cd263e903… (all of the seat's roots in one cut). By AI agents, Wed Nov 11 2026. No macro, syntax, notation, axiom, sorry.
-/
import Derived.Test.YtoelajocacpmgaaChecked
import GoSem.Claim
import GoSem.ClaimJoined
import GoSem.ClaimMapViews
import Derived.JoinedTies
import Derived.KernelRfl
namespace Go.Proofs.Ytoelajocacpmgaa
/- THE CELL 'sum', in the pinned program and in every row, IS THE sha256 OF THE DUMP (.gsa) THAT YtoelajocacpmgaaProg.lean LOADS. Nothing in Lean hashes anything: it is a label: what it is worth is what the hold of that sum in a sandbox is worth. -/
noncomputable def Try.pinned : Pinned := { name := "ytoelajocacpmgaa", sum := "73eb516cd263e9033c7ff7d316cba487b43a749d04a53f113ede455236f4eba0", checked := Try.checked }
namespace Rows
def none {H : Type} : Left H := { results := [], args := [] }

/-- 'laws.FnSlack': WHATEVER THE INPUT: true; the input reads as it did. -/
def fnSlackSpec : ChangeSpec := { name := "fnSlack", fn := fun _ => fun
  | [d] => { results := [.lit (.bool true)], args := [d] }
  | _ => none }
def fnSlackRow : OpenClaim := { program := "ytoelajocacpmgaa", sum := "73eb516cd263e9033c7ff7d316cba487b43a749d04a53f113ede455236f4eba0", func := "loop.example/cableship/laws.FnSlack", spec := "fnSlack", unfollowed := true, recurses := true, apart := false }
def FnSlackSaid : Prop := fnSlackRow.holds Try.pinned (OpenSpec.ofChange fnSlackSpec)

/-- ITS FALSE NEIGHBOUR: 'it returns false'. Refute it at one input. -/
def fnSlackWrong : ChangeSpec := { name := "fnSlack", fn := fun _ => fun
  | [d] => { results := [.lit (.bool false)], args := [d] }
  | _ => none }
def FnSlackWrongFalsely : Prop := fnSlackRow.holds Try.pinned (OpenSpec.ofChange fnSlackWrong)

/-- 'laws.FnLength': WHATEVER THE INPUT: true; the input reads as it did. -/
def fnLengthSpec : ChangeSpec := { name := "fnLength", fn := fun _ => fun
  | [d1, d2] => { results := [.lit (.bool true)], args := [d1, d2] }
  | _ => none }
def fnLengthRow : OpenClaim := { program := "ytoelajocacpmgaa", sum := "73eb516cd263e9033c7ff7d316cba487b43a749d04a53f113ede455236f4eba0", func := "loop.example/cableship/laws.FnLength", spec := "fnLength", unfollowed := true, recurses := true, apart := false }
def FnLengthSaid : Prop := fnLengthRow.holds Try.pinned (OpenSpec.ofChange fnLengthSpec)

/-- ITS FALSE NEIGHBOUR: 'it returns false'. Refute it at one input. -/
def fnLengthWrong : ChangeSpec := { name := "fnLength", fn := fun _ => fun
  | [d1, d2] => { results := [.lit (.bool false)], args := [d1, d2] }
  | _ => none }
def FnLengthWrongFalsely : Prop := fnLengthRow.holds Try.pinned (OpenSpec.ofChange fnLengthWrong)

/-- 'laws.FnDeepest': WHATEVER THE INPUT: true; the input reads as it did. -/
def fnDeepestSpec : ChangeSpec := { name := "fnDeepest", fn := fun _ => fun
  | [d] => { results := [.lit (.bool true)], args := [d] }
  | _ => none }
def fnDeepestRow : OpenClaim := { program := "ytoelajocacpmgaa", sum := "73eb516cd263e9033c7ff7d316cba487b43a749d04a53f113ede455236f4eba0", func := "loop.example/cableship/laws.FnDeepest", spec := "fnDeepest", unfollowed := true, recurses := true, apart := false }
def FnDeepestSaid : Prop := fnDeepestRow.holds Try.pinned (OpenSpec.ofChange fnDeepestSpec)

/-- ITS FALSE NEIGHBOUR: 'it returns false'. Refute it at one input. -/
def fnDeepestWrong : ChangeSpec := { name := "fnDeepest", fn := fun _ => fun
  | [d] => { results := [.lit (.bool false)], args := [d] }
  | _ => none }
def FnDeepestWrongFalsely : Prop := fnDeepestRow.holds Try.pinned (OpenSpec.ofChange fnDeepestWrong)

/-- 'laws.FnBack': WHATEVER THE INPUT: true; the input reads as it did. -/
def fnBackSpec : ChangeSpec := { name := "fnBack", fn := fun _ => fun
  | [d] => { results := [.lit (.bool true)], args := [d] }
  | _ => none }
def fnBackRow : OpenClaim := { program := "ytoelajocacpmgaa", sum := "73eb516cd263e9033c7ff7d316cba487b43a749d04a53f113ede455236f4eba0", func := "loop.example/cableship/laws.FnBack", spec := "fnBack", unfollowed := true, recurses := true, apart := false }
def FnBackSaid : Prop := fnBackRow.holds Try.pinned (OpenSpec.ofChange fnBackSpec)

/-- ITS FALSE NEIGHBOUR: 'it returns false'. Refute it at one input. -/
def fnBackWrong : ChangeSpec := { name := "fnBack", fn := fun _ => fun
  | [d] => { results := [.lit (.bool false)], args := [d] }
  | _ => none }
def FnBackWrongFalsely : Prop := fnBackRow.holds Try.pinned (OpenSpec.ofChange fnBackWrong)

/-- 'laws.FnPart': WHATEVER THE INPUT: true; the input reads as it did. -/
def fnPartSpec : ChangeSpec := { name := "fnPart", fn := fun _ => fun
  | [d1, d2] => { results := [.lit (.bool true)], args := [d1, d2] }
  | _ => none }
def fnPartRow : OpenClaim := { program := "ytoelajocacpmgaa", sum := "73eb516cd263e9033c7ff7d316cba487b43a749d04a53f113ede455236f4eba0", func := "loop.example/cableship/laws.FnPart", spec := "fnPart", unfollowed := true, recurses := true, apart := false }
def FnPartSaid : Prop := fnPartRow.holds Try.pinned (OpenSpec.ofChange fnPartSpec)

/-- ITS FALSE NEIGHBOUR: 'it returns false'. Refute it at one input. -/
def fnPartWrong : ChangeSpec := { name := "fnPart", fn := fun _ => fun
  | [d1, d2] => { results := [.lit (.bool false)], args := [d1, d2] }
  | _ => none }
def FnPartWrongFalsely : Prop := fnPartRow.holds Try.pinned (OpenSpec.ofChange fnPartWrong)

/-- 'laws.FnSteepest': WHATEVER THE INPUT: true; the input reads as it did. -/
def fnSteepestSpec : ChangeSpec := { name := "fnSteepest", fn := fun _ => fun
  | [d] => { results := [.lit (.bool true)], args := [d] }
  | _ => none }
def fnSteepestRow : OpenClaim := { program := "ytoelajocacpmgaa", sum := "73eb516cd263e9033c7ff7d316cba487b43a749d04a53f113ede455236f4eba0", func := "loop.example/cableship/laws.FnSteepest", spec := "fnSteepest", unfollowed := true, recurses := true, apart := false }
def FnSteepestSaid : Prop := fnSteepestRow.holds Try.pinned (OpenSpec.ofChange fnSteepestSpec)

/-- ITS FALSE NEIGHBOUR: 'it returns false'. Refute it at one input. -/
def fnSteepestWrong : ChangeSpec := { name := "fnSteepest", fn := fun _ => fun
  | [d] => { results := [.lit (.bool false)], args := [d] }
  | _ => none }
def FnSteepestWrongFalsely : Prop := fnSteepestRow.holds Try.pinned (OpenSpec.ofChange fnSteepestWrong)

/-- 'laws.FnLevel': WHATEVER THE INPUT: true; the input reads as it did. -/
def fnLevelSpec : ChangeSpec := { name := "fnLevel", fn := fun _ => fun
  | [d] => { results := [.lit (.bool true)], args := [d] }
  | _ => none }
def fnLevelRow : OpenClaim := { program := "ytoelajocacpmgaa", sum := "73eb516cd263e9033c7ff7d316cba487b43a749d04a53f113ede455236f4eba0", func := "loop.example/cableship/laws.FnLevel", spec := "fnLevel", unfollowed := true, recurses := true, apart := false }
def FnLevelSaid : Prop := fnLevelRow.holds Try.pinned (OpenSpec.ofChange fnLevelSpec)

/-- ITS FALSE NEIGHBOUR: 'it returns false'. Refute it at one input. -/
def fnLevelWrong : ChangeSpec := { name := "fnLevel", fn := fun _ => fun
  | [d] => { results := [.lit (.bool false)], args := [d] }
  | _ => none }
def FnLevelWrongFalsely : Prop := fnLevelRow.holds Try.pinned (OpenSpec.ofChange fnLevelWrong)

/-- 'laws.FnNeeds': WHATEVER THE INPUT: true; the input reads as it did. -/
def fnNeedsSpec : ChangeSpec := { name := "fnNeeds", fn := fun _ => fun
  | [d] => { results := [.lit (.bool true)], args := [d] }
  | _ => none }
def fnNeedsRow : OpenClaim := { program := "ytoelajocacpmgaa", sum := "73eb516cd263e9033c7ff7d316cba487b43a749d04a53f113ede455236f4eba0", func := "loop.example/cableship/laws.FnNeeds", spec := "fnNeeds", unfollowed := true, recurses := true, apart := false }
def FnNeedsSaid : Prop := fnNeedsRow.holds Try.pinned (OpenSpec.ofChange fnNeedsSpec)

/-- ITS FALSE NEIGHBOUR: 'it returns false'. Refute it at one input. -/
def fnNeedsWrong : ChangeSpec := { name := "fnNeeds", fn := fun _ => fun
  | [d] => { results := [.lit (.bool false)], args := [d] }
  | _ => none }
def FnNeedsWrongFalsely : Prop := fnNeedsRow.holds Try.pinned (OpenSpec.ofChange fnNeedsWrong)

/-- 'laws.FnReach': WHATEVER THE INPUT: true; the input reads as it did. -/
def fnReachSpec : ChangeSpec := { name := "fnReach", fn := fun _ => fun
  | [d] => { results := [.lit (.bool true)], args := [d] }
  | _ => none }
def fnReachRow : OpenClaim := { program := "ytoelajocacpmgaa", sum := "73eb516cd263e9033c7ff7d316cba487b43a749d04a53f113ede455236f4eba0", func := "loop.example/cableship/laws.FnReach", spec := "fnReach", unfollowed := true, recurses := true, apart := false }
def FnReachSaid : Prop := fnReachRow.holds Try.pinned (OpenSpec.ofChange fnReachSpec)

/-- ITS FALSE NEIGHBOUR: 'it returns false'. Refute it at one input. -/
def fnReachWrong : ChangeSpec := { name := "fnReach", fn := fun _ => fun
  | [d] => { results := [.lit (.bool false)], args := [d] }
  | _ => none }
def FnReachWrongFalsely : Prop := fnReachRow.holds Try.pinned (OpenSpec.ofChange fnReachWrong)

/-- 'laws.FnPay': WHATEVER THE INPUT: true; the input reads as it did. -/
def fnPaySpec : ChangeSpec := { name := "fnPay", fn := fun _ => fun
  | [d1, d2] => { results := [.lit (.bool true)], args := [d1, d2] }
  | _ => none }
def fnPayRow : OpenClaim := { program := "ytoelajocacpmgaa", sum := "73eb516cd263e9033c7ff7d316cba487b43a749d04a53f113ede455236f4eba0", func := "loop.example/cableship/laws.FnPay", spec := "fnPay", unfollowed := true, recurses := true, apart := false }
def FnPaySaid : Prop := fnPayRow.holds Try.pinned (OpenSpec.ofChange fnPaySpec)

/-- ITS FALSE NEIGHBOUR: 'it returns false'. Refute it at one input. -/
def fnPayWrong : ChangeSpec := { name := "fnPay", fn := fun _ => fun
  | [d1, d2] => { results := [.lit (.bool false)], args := [d1, d2] }
  | _ => none }
def FnPayWrongFalsely : Prop := fnPayRow.holds Try.pinned (OpenSpec.ofChange fnPayWrong)

/-- 'laws.FnCarry': WHATEVER THE INPUT: true; the input reads as it did. -/
def fnCarrySpec : ChangeSpec := { name := "fnCarry", fn := fun _ => fun
  | [d] => { results := [.lit (.bool true)], args := [d] }
  | _ => none }
def fnCarryRow : OpenClaim := { program := "ytoelajocacpmgaa", sum := "73eb516cd263e9033c7ff7d316cba487b43a749d04a53f113ede455236f4eba0", func := "loop.example/cableship/laws.FnCarry", spec := "fnCarry", unfollowed := true, recurses := true, apart := false }
def FnCarrySaid : Prop := fnCarryRow.holds Try.pinned (OpenSpec.ofChange fnCarrySpec)

/-- ITS FALSE NEIGHBOUR: 'it returns false'. Refute it at one input. -/
def fnCarryWrong : ChangeSpec := { name := "fnCarry", fn := fun _ => fun
  | [d] => { results := [.lit (.bool false)], args := [d] }
  | _ => none }
def FnCarryWrongFalsely : Prop := fnCarryRow.holds Try.pinned (OpenSpec.ofChange fnCarryWrong)

/-- 'laws.FnJoin': WHATEVER THE INPUT: true; the input reads as it did. -/
def fnJoinSpec : ChangeSpec := { name := "fnJoin", fn := fun _ => fun
  | [d] => { results := [.lit (.bool true)], args := [d] }
  | _ => none }
def fnJoinRow : OpenClaim := { program := "ytoelajocacpmgaa", sum := "73eb516cd263e9033c7ff7d316cba487b43a749d04a53f113ede455236f4eba0", func := "loop.example/cableship/laws.FnJoin", spec := "fnJoin", unfollowed := true, recurses := true, apart := false }
def FnJoinSaid : Prop := fnJoinRow.holds Try.pinned (OpenSpec.ofChange fnJoinSpec)

/-- ITS FALSE NEIGHBOUR: 'it returns false'. Refute it at one input. -/
def fnJoinWrong : ChangeSpec := { name := "fnJoin", fn := fun _ => fun
  | [d] => { results := [.lit (.bool false)], args := [d] }
  | _ => none }
def FnJoinWrongFalsely : Prop := fnJoinRow.holds Try.pinned (OpenSpec.ofChange fnJoinWrong)

/-- 'laws.FnHangs': WHATEVER THE INPUT: true; the input reads as it did. -/
def fnHangsSpec : ChangeSpec := { name := "fnHangs", fn := fun _ => fun
  | [d] => { results := [.lit (.bool true)], args := [d] }
  | _ => none }
def fnHangsRow : OpenClaim := { program := "ytoelajocacpmgaa", sum := "73eb516cd263e9033c7ff7d316cba487b43a749d04a53f113ede455236f4eba0", func := "loop.example/cableship/laws.FnHangs", spec := "fnHangs", unfollowed := true, recurses := true, apart := false }
def FnHangsSaid : Prop := fnHangsRow.holds Try.pinned (OpenSpec.ofChange fnHangsSpec)

/-- ITS FALSE NEIGHBOUR: 'it returns false'. Refute it at one input. -/
def fnHangsWrong : ChangeSpec := { name := "fnHangs", fn := fun _ => fun
  | [d] => { results := [.lit (.bool false)], args := [d] }
  | _ => none }
def FnHangsWrongFalsely : Prop := fnHangsRow.holds Try.pinned (OpenSpec.ofChange fnHangsWrong)

/- THE SECOND FORM. 'bulk': how many values and letters a reading holds, each counted each time it is reached (what is shared counts as often as it is met; a slice's spare places count too). A statement '..UptoSaid' is the law's where the arguments, and the package variables that the reading takes, are together of bulk at most 1048576: NARROWER than '..Said'. Prove '..Said' where nothing that the law and all that it calls make is longer than what came in: it says more and counts as full. Else prove '..UptoSaid'. A law counts once. -/
mutual
def uptoBulk {H : Type} : DataW H → Nat
  | .lit (.string bytes) => bytes.length + 1
  | .lit _ => 1
  | .nil => 1
  | .ptr d => uptoBulk d + 1
  | .slice elems spare => uptoBulkAll elems + uptoBulkAll spare + 1
  | .agg parts => uptoBulkAll parts + 1
  | .iface _ d => uptoBulk d + 1
  | .map entries => uptoBulkEntries entries + 1
  | .held _ => 1
def uptoBulkAll {H : Type} : List (DataW H) → Nat
  | [] => 0
  | d :: r => uptoBulk d + uptoBulkAll r
def uptoBulkEntries {H : Type} : List (Lit × DataW H) → Nat
  | [] => 0
  | x :: r => uptoBulkEntry x + uptoBulkEntries r
def uptoBulkEntry {H : Type} : Lit × DataW H → Nat
  | (.string bytes, d) => bytes.length + uptoBulk d + 1
  | (_, d) => uptoBulk d + 1
 end
def uptoSmall : (H : Type) → List (DataW H) → Bool := fun _ ds => decide (uptoBulkAll ds ≤ 1048576)
def OpenSpec.upto (s : _root_.Go.ChangeSpec) : _root_.Go.OpenSpec := { _root_.Go.OpenSpec.ofChange s with cond := some uptoSmall }

/-- 'laws.FnSlack', WHERE WHAT IT READS IS OF BULK AT MOST 1048576: true; the input reads as it did. -/
def fnSlackUptoRow : OpenClaim := { program := "ytoelajocacpmgaa", sum := "73eb516cd263e9033c7ff7d316cba487b43a749d04a53f113ede455236f4eba0", func := "loop.example/cableship/laws.FnSlack", spec := "fnSlack", unfollowed := true, recurses := true, apart := false, narrowed := true }
def FnSlackUptoSaid : Prop := fnSlackUptoRow.holds Try.pinned (OpenSpec.upto fnSlackSpec)

/-- 'laws.FnLength', WHERE WHAT IT READS IS OF BULK AT MOST 1048576: true; the input reads as it did. -/
def fnLengthUptoRow : OpenClaim := { program := "ytoelajocacpmgaa", sum := "73eb516cd263e9033c7ff7d316cba487b43a749d04a53f113ede455236f4eba0", func := "loop.example/cableship/laws.FnLength", spec := "fnLength", unfollowed := true, recurses := true, apart := false, narrowed := true }
def FnLengthUptoSaid : Prop := fnLengthUptoRow.holds Try.pinned (OpenSpec.upto fnLengthSpec)

/-- 'laws.FnDeepest', WHERE WHAT IT READS IS OF BULK AT MOST 1048576: true; the input reads as it did. -/
def fnDeepestUptoRow : OpenClaim := { program := "ytoelajocacpmgaa", sum := "73eb516cd263e9033c7ff7d316cba487b43a749d04a53f113ede455236f4eba0", func := "loop.example/cableship/laws.FnDeepest", spec := "fnDeepest", unfollowed := true, recurses := true, apart := false, narrowed := true }
def FnDeepestUptoSaid : Prop := fnDeepestUptoRow.holds Try.pinned (OpenSpec.upto fnDeepestSpec)

/-- 'laws.FnBack', WHERE WHAT IT READS IS OF BULK AT MOST 1048576: true; the input reads as it did. -/
def fnBackUptoRow : OpenClaim := { program := "ytoelajocacpmgaa", sum := "73eb516cd263e9033c7ff7d316cba487b43a749d04a53f113ede455236f4eba0", func := "loop.example/cableship/laws.FnBack", spec := "fnBack", unfollowed := true, recurses := true, apart := false, narrowed := true }
def FnBackUptoSaid : Prop := fnBackUptoRow.holds Try.pinned (OpenSpec.upto fnBackSpec)

/-- 'laws.FnPart', WHERE WHAT IT READS IS OF BULK AT MOST 1048576: true; the input reads as it did. -/
def fnPartUptoRow : OpenClaim := { program := "ytoelajocacpmgaa", sum := "73eb516cd263e9033c7ff7d316cba487b43a749d04a53f113ede455236f4eba0", func := "loop.example/cableship/laws.FnPart", spec := "fnPart", unfollowed := true, recurses := true, apart := false, narrowed := true }
def FnPartUptoSaid : Prop := fnPartUptoRow.holds Try.pinned (OpenSpec.upto fnPartSpec)

/-- 'laws.FnSteepest', WHERE WHAT IT READS IS OF BULK AT MOST 1048576: true; the input reads as it did. -/
def fnSteepestUptoRow : OpenClaim := { program := "ytoelajocacpmgaa", sum := "73eb516cd263e9033c7ff7d316cba487b43a749d04a53f113ede455236f4eba0", func := "loop.example/cableship/laws.FnSteepest", spec := "fnSteepest", unfollowed := true, recurses := true, apart := false, narrowed := true }
def FnSteepestUptoSaid : Prop := fnSteepestUptoRow.holds Try.pinned (OpenSpec.upto fnSteepestSpec)

/-- 'laws.FnLevel', WHERE WHAT IT READS IS OF BULK AT MOST 1048576: true; the input reads as it did. -/
def fnLevelUptoRow : OpenClaim := { program := "ytoelajocacpmgaa", sum := "73eb516cd263e9033c7ff7d316cba487b43a749d04a53f113ede455236f4eba0", func := "loop.example/cableship/laws.FnLevel", spec := "fnLevel", unfollowed := true, recurses := true, apart := false, narrowed := true }
def FnLevelUptoSaid : Prop := fnLevelUptoRow.holds Try.pinned (OpenSpec.upto fnLevelSpec)

/-- 'laws.FnNeeds', WHERE WHAT IT READS IS OF BULK AT MOST 1048576: true; the input reads as it did. -/
def fnNeedsUptoRow : OpenClaim := { program := "ytoelajocacpmgaa", sum := "73eb516cd263e9033c7ff7d316cba487b43a749d04a53f113ede455236f4eba0", func := "loop.example/cableship/laws.FnNeeds", spec := "fnNeeds", unfollowed := true, recurses := true, apart := false, narrowed := true }
def FnNeedsUptoSaid : Prop := fnNeedsUptoRow.holds Try.pinned (OpenSpec.upto fnNeedsSpec)

/-- 'laws.FnReach', WHERE WHAT IT READS IS OF BULK AT MOST 1048576: true; the input reads as it did. -/
def fnReachUptoRow : OpenClaim := { program := "ytoelajocacpmgaa", sum := "73eb516cd263e9033c7ff7d316cba487b43a749d04a53f113ede455236f4eba0", func := "loop.example/cableship/laws.FnReach", spec := "fnReach", unfollowed := true, recurses := true, apart := false, narrowed := true }
def FnReachUptoSaid : Prop := fnReachUptoRow.holds Try.pinned (OpenSpec.upto fnReachSpec)

/-- 'laws.FnPay', WHERE WHAT IT READS IS OF BULK AT MOST 1048576: true; the input reads as it did. -/
def fnPayUptoRow : OpenClaim := { program := "ytoelajocacpmgaa", sum := "73eb516cd263e9033c7ff7d316cba487b43a749d04a53f113ede455236f4eba0", func := "loop.example/cableship/laws.FnPay", spec := "fnPay", unfollowed := true, recurses := true, apart := false, narrowed := true }
def FnPayUptoSaid : Prop := fnPayUptoRow.holds Try.pinned (OpenSpec.upto fnPaySpec)

/-- 'laws.FnCarry', WHERE WHAT IT READS IS OF BULK AT MOST 1048576: true; the input reads as it did. -/
def fnCarryUptoRow : OpenClaim := { program := "ytoelajocacpmgaa", sum := "73eb516cd263e9033c7ff7d316cba487b43a749d04a53f113ede455236f4eba0", func := "loop.example/cableship/laws.FnCarry", spec := "fnCarry", unfollowed := true, recurses := true, apart := false, narrowed := true }
def FnCarryUptoSaid : Prop := fnCarryUptoRow.holds Try.pinned (OpenSpec.upto fnCarrySpec)

/-- 'laws.FnJoin', WHERE WHAT IT READS IS OF BULK AT MOST 1048576: true; the input reads as it did. -/
def fnJoinUptoRow : OpenClaim := { program := "ytoelajocacpmgaa", sum := "73eb516cd263e9033c7ff7d316cba487b43a749d04a53f113ede455236f4eba0", func := "loop.example/cableship/laws.FnJoin", spec := "fnJoin", unfollowed := true, recurses := true, apart := false, narrowed := true }
def FnJoinUptoSaid : Prop := fnJoinUptoRow.holds Try.pinned (OpenSpec.upto fnJoinSpec)

/-- 'laws.FnHangs', WHERE WHAT IT READS IS OF BULK AT MOST 1048576: true; the input reads as it did. -/
def fnHangsUptoRow : OpenClaim := { program := "ytoelajocacpmgaa", sum := "73eb516cd263e9033c7ff7d316cba487b43a749d04a53f113ede455236f4eba0", func := "loop.example/cableship/laws.FnHangs", spec := "fnHangs", unfollowed := true, recurses := true, apart := false, narrowed := true }
def FnHangsUptoSaid : Prop := fnHangsUptoRow.holds Try.pinned (OpenSpec.upto fnHangsSpec)

end Rows
end Go.Proofs.Ytoelajocacpmgaa
