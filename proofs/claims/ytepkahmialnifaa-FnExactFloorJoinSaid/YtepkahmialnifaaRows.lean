/-
  No cell of these rows narrows 'for every input' (looked for: loops, veiled, ifaces, maps, wideKeys, modest, calm, conditions, laid).
  DERIVED. THE GIVEN ROWS OF THIS SEAT. 12 by the template 'for every input the law returns true; each argument reads behind the call as it read before'; 0 by the template 'total and deterministic' (their statements: YtepkahmialnifaaTotals.lean).
  GIVEN WITH THE SEED: the statements are not yours to turn. If you find one false, say at which input.
  Laid BY PROGRAM, IN A SANDBOX (cutbox-rows.mjs): the forced cells as the released guide's own fill.sh prints them over the translation 7cf77a6b79d97a61… (all of the seat's roots in one cut). By AI agents, Wed Nov 11 2026. No macro, syntax, notation, axiom, sorry.
-/
import Derived.Test.YtepkahmialnifaaChecked
import GoSem.Claim
import GoSem.ClaimJoined
import GoSem.ClaimMapViews
import Derived.JoinedTies
import Derived.KernelRfl
namespace Go.Proofs.Ytepkahmialnifaa
/- THE CELL 'sum', in the pinned program and in every row, IS THE sha256 OF THE DUMP (.gsa) THAT YtepkahmialnifaaProg.lean LOADS. Nothing in Lean hashes anything: it is a label: what it is worth is what the hold of that sum in a sandbox is worth. -/
noncomputable def Try.pinned : Pinned := { name := "ytepkahmialnifaa", sum := "7cf77a6b79d97a61e48d014269fe3ce44fee8752f1a01c2a2ae92715d1cbe0f7", checked := Try.checked }
namespace Rows
def none {H : Type} : Left H := { results := [], args := [] }

/-- 'laws.FnExactFloorDeepest': WHATEVER THE INPUT: true; the input reads as it did. -/
def fnExactFloorDeepestSpec : ChangeSpec := { name := "fnExactFloorDeepest", fn := fun _ => fun
  | [d] => { results := [.lit (.bool true)], args := [d] }
  | _ => none }
def fnExactFloorDeepestRow : OpenClaim := { program := "ytepkahmialnifaa", sum := "7cf77a6b79d97a61e48d014269fe3ce44fee8752f1a01c2a2ae92715d1cbe0f7", func := "loop.example/cableship/laws.FnExactFloorDeepest", spec := "fnExactFloorDeepest", unfollowed := true, recurses := true, apart := false }
def FnExactFloorDeepestSaid : Prop := fnExactFloorDeepestRow.holds Try.pinned (OpenSpec.ofChange fnExactFloorDeepestSpec)

/-- ITS FALSE NEIGHBOUR: 'it returns false'. Refute it at one input. -/
def fnExactFloorDeepestWrong : ChangeSpec := { name := "fnExactFloorDeepest", fn := fun _ => fun
  | [d] => { results := [.lit (.bool false)], args := [d] }
  | _ => none }
def FnExactFloorDeepestWrongFalsely : Prop := fnExactFloorDeepestRow.holds Try.pinned (OpenSpec.ofChange fnExactFloorDeepestWrong)

/-- 'laws.FnExactFloorLength': WHATEVER THE INPUT: true; the input reads as it did. -/
def fnExactFloorLengthSpec : ChangeSpec := { name := "fnExactFloorLength", fn := fun _ => fun
  | [d1, d2, d3] => { results := [.lit (.bool true)], args := [d1, d2, d3] }
  | _ => none }
def fnExactFloorLengthRow : OpenClaim := { program := "ytepkahmialnifaa", sum := "7cf77a6b79d97a61e48d014269fe3ce44fee8752f1a01c2a2ae92715d1cbe0f7", func := "loop.example/cableship/laws.FnExactFloorLength", spec := "fnExactFloorLength", unfollowed := true, recurses := true, apart := false }
def FnExactFloorLengthSaid : Prop := fnExactFloorLengthRow.holds Try.pinned (OpenSpec.ofChange fnExactFloorLengthSpec)

/-- ITS FALSE NEIGHBOUR: 'it returns false'. Refute it at one input. -/
def fnExactFloorLengthWrong : ChangeSpec := { name := "fnExactFloorLength", fn := fun _ => fun
  | [d1, d2, d3] => { results := [.lit (.bool false)], args := [d1, d2, d3] }
  | _ => none }
def FnExactFloorLengthWrongFalsely : Prop := fnExactFloorLengthRow.holds Try.pinned (OpenSpec.ofChange fnExactFloorLengthWrong)

/-- 'laws.FnExactFloorBack': WHATEVER THE INPUT: true; the input reads as it did. -/
def fnExactFloorBackSpec : ChangeSpec := { name := "fnExactFloorBack", fn := fun _ => fun
  | [d] => { results := [.lit (.bool true)], args := [d] }
  | _ => none }
def fnExactFloorBackRow : OpenClaim := { program := "ytepkahmialnifaa", sum := "7cf77a6b79d97a61e48d014269fe3ce44fee8752f1a01c2a2ae92715d1cbe0f7", func := "loop.example/cableship/laws.FnExactFloorBack", spec := "fnExactFloorBack", unfollowed := true, recurses := true, apart := false }
def FnExactFloorBackSaid : Prop := fnExactFloorBackRow.holds Try.pinned (OpenSpec.ofChange fnExactFloorBackSpec)

/-- ITS FALSE NEIGHBOUR: 'it returns false'. Refute it at one input. -/
def fnExactFloorBackWrong : ChangeSpec := { name := "fnExactFloorBack", fn := fun _ => fun
  | [d] => { results := [.lit (.bool false)], args := [d] }
  | _ => none }
def FnExactFloorBackWrongFalsely : Prop := fnExactFloorBackRow.holds Try.pinned (OpenSpec.ofChange fnExactFloorBackWrong)

/-- 'laws.FnExactPaySlack': WHATEVER THE INPUT: true; the input reads as it did. -/
def fnExactPaySlackSpec : ChangeSpec := { name := "fnExactPaySlack", fn := fun _ => fun
  | [d1, d2] => { results := [.lit (.bool true)], args := [d1, d2] }
  | _ => none }
def fnExactPaySlackRow : OpenClaim := { program := "ytepkahmialnifaa", sum := "7cf77a6b79d97a61e48d014269fe3ce44fee8752f1a01c2a2ae92715d1cbe0f7", func := "loop.example/cableship/laws.FnExactPaySlack", spec := "fnExactPaySlack", unfollowed := true, recurses := true, apart := false }
def FnExactPaySlackSaid : Prop := fnExactPaySlackRow.holds Try.pinned (OpenSpec.ofChange fnExactPaySlackSpec)

/-- ITS FALSE NEIGHBOUR: 'it returns false'. Refute it at one input. -/
def fnExactPaySlackWrong : ChangeSpec := { name := "fnExactPaySlack", fn := fun _ => fun
  | [d1, d2] => { results := [.lit (.bool false)], args := [d1, d2] }
  | _ => none }
def FnExactPaySlackWrongFalsely : Prop := fnExactPaySlackRow.holds Try.pinned (OpenSpec.ofChange fnExactPaySlackWrong)

/-- 'laws.FnExactFloorPart': WHATEVER THE INPUT: true; the input reads as it did. -/
def fnExactFloorPartSpec : ChangeSpec := { name := "fnExactFloorPart", fn := fun _ => fun
  | [d1, d2, d3] => { results := [.lit (.bool true)], args := [d1, d2, d3] }
  | _ => none }
def fnExactFloorPartRow : OpenClaim := { program := "ytepkahmialnifaa", sum := "7cf77a6b79d97a61e48d014269fe3ce44fee8752f1a01c2a2ae92715d1cbe0f7", func := "loop.example/cableship/laws.FnExactFloorPart", spec := "fnExactFloorPart", unfollowed := true, recurses := true, apart := false }
def FnExactFloorPartSaid : Prop := fnExactFloorPartRow.holds Try.pinned (OpenSpec.ofChange fnExactFloorPartSpec)

/-- ITS FALSE NEIGHBOUR: 'it returns false'. Refute it at one input. -/
def fnExactFloorPartWrong : ChangeSpec := { name := "fnExactFloorPart", fn := fun _ => fun
  | [d1, d2, d3] => { results := [.lit (.bool false)], args := [d1, d2, d3] }
  | _ => none }
def FnExactFloorPartWrongFalsely : Prop := fnExactFloorPartRow.holds Try.pinned (OpenSpec.ofChange fnExactFloorPartWrong)

/-- 'laws.FnExactPayCarry': WHATEVER THE INPUT: true; the input reads as it did. -/
def fnExactPayCarrySpec : ChangeSpec := { name := "fnExactPayCarry", fn := fun _ => fun
  | [d1, d2] => { results := [.lit (.bool true)], args := [d1, d2] }
  | _ => none }
def fnExactPayCarryRow : OpenClaim := { program := "ytepkahmialnifaa", sum := "7cf77a6b79d97a61e48d014269fe3ce44fee8752f1a01c2a2ae92715d1cbe0f7", func := "loop.example/cableship/laws.FnExactPayCarry", spec := "fnExactPayCarry", unfollowed := true, recurses := true, apart := false }
def FnExactPayCarrySaid : Prop := fnExactPayCarryRow.holds Try.pinned (OpenSpec.ofChange fnExactPayCarrySpec)

/-- ITS FALSE NEIGHBOUR: 'it returns false'. Refute it at one input. -/
def fnExactPayCarryWrong : ChangeSpec := { name := "fnExactPayCarry", fn := fun _ => fun
  | [d1, d2] => { results := [.lit (.bool false)], args := [d1, d2] }
  | _ => none }
def FnExactPayCarryWrongFalsely : Prop := fnExactPayCarryRow.holds Try.pinned (OpenSpec.ofChange fnExactPayCarryWrong)

/-- 'laws.FnExactFloorNeeds': WHATEVER THE INPUT: true; the input reads as it did. -/
def fnExactFloorNeedsSpec : ChangeSpec := { name := "fnExactFloorNeeds", fn := fun _ => fun
  | [d] => { results := [.lit (.bool true)], args := [d] }
  | _ => none }
def fnExactFloorNeedsRow : OpenClaim := { program := "ytepkahmialnifaa", sum := "7cf77a6b79d97a61e48d014269fe3ce44fee8752f1a01c2a2ae92715d1cbe0f7", func := "loop.example/cableship/laws.FnExactFloorNeeds", spec := "fnExactFloorNeeds", unfollowed := true, recurses := true, apart := false }
def FnExactFloorNeedsSaid : Prop := fnExactFloorNeedsRow.holds Try.pinned (OpenSpec.ofChange fnExactFloorNeedsSpec)

/-- ITS FALSE NEIGHBOUR: 'it returns false'. Refute it at one input. -/
def fnExactFloorNeedsWrong : ChangeSpec := { name := "fnExactFloorNeeds", fn := fun _ => fun
  | [d] => { results := [.lit (.bool false)], args := [d] }
  | _ => none }
def FnExactFloorNeedsWrongFalsely : Prop := fnExactFloorNeedsRow.holds Try.pinned (OpenSpec.ofChange fnExactFloorNeedsWrong)

/-- 'laws.FnExactPayHangs': WHATEVER THE INPUT: true; the input reads as it did. -/
def fnExactPayHangsSpec : ChangeSpec := { name := "fnExactPayHangs", fn := fun _ => fun
  | [d1, d2] => { results := [.lit (.bool true)], args := [d1, d2] }
  | _ => none }
def fnExactPayHangsRow : OpenClaim := { program := "ytepkahmialnifaa", sum := "7cf77a6b79d97a61e48d014269fe3ce44fee8752f1a01c2a2ae92715d1cbe0f7", func := "loop.example/cableship/laws.FnExactPayHangs", spec := "fnExactPayHangs", unfollowed := true, recurses := true, apart := false }
def FnExactPayHangsSaid : Prop := fnExactPayHangsRow.holds Try.pinned (OpenSpec.ofChange fnExactPayHangsSpec)

/-- ITS FALSE NEIGHBOUR: 'it returns false'. Refute it at one input. -/
def fnExactPayHangsWrong : ChangeSpec := { name := "fnExactPayHangs", fn := fun _ => fun
  | [d1, d2] => { results := [.lit (.bool false)], args := [d1, d2] }
  | _ => none }
def FnExactPayHangsWrongFalsely : Prop := fnExactPayHangsRow.holds Try.pinned (OpenSpec.ofChange fnExactPayHangsWrong)

/-- 'laws.FnExactFloorJoin': WHATEVER THE INPUT: true; the input reads as it did. -/
def fnExactFloorJoinSpec : ChangeSpec := { name := "fnExactFloorJoin", fn := fun _ => fun
  | [d1, d2] => { results := [.lit (.bool true)], args := [d1, d2] }
  | _ => none }
def fnExactFloorJoinRow : OpenClaim := { program := "ytepkahmialnifaa", sum := "7cf77a6b79d97a61e48d014269fe3ce44fee8752f1a01c2a2ae92715d1cbe0f7", func := "loop.example/cableship/laws.FnExactFloorJoin", spec := "fnExactFloorJoin", unfollowed := true, recurses := true, apart := false }
def FnExactFloorJoinSaid : Prop := fnExactFloorJoinRow.holds Try.pinned (OpenSpec.ofChange fnExactFloorJoinSpec)

/-- ITS FALSE NEIGHBOUR: 'it returns false'. Refute it at one input. -/
def fnExactFloorJoinWrong : ChangeSpec := { name := "fnExactFloorJoin", fn := fun _ => fun
  | [d1, d2] => { results := [.lit (.bool false)], args := [d1, d2] }
  | _ => none }
def FnExactFloorJoinWrongFalsely : Prop := fnExactFloorJoinRow.holds Try.pinned (OpenSpec.ofChange fnExactFloorJoinWrong)

/-- 'laws.FnExactPayLevel': WHATEVER THE INPUT: true; the input reads as it did. -/
def fnExactPayLevelSpec : ChangeSpec := { name := "fnExactPayLevel", fn := fun _ => fun
  | [d] => { results := [.lit (.bool true)], args := [d] }
  | _ => none }
def fnExactPayLevelRow : OpenClaim := { program := "ytepkahmialnifaa", sum := "7cf77a6b79d97a61e48d014269fe3ce44fee8752f1a01c2a2ae92715d1cbe0f7", func := "loop.example/cableship/laws.FnExactPayLevel", spec := "fnExactPayLevel", unfollowed := true, recurses := true, apart := false }
def FnExactPayLevelSaid : Prop := fnExactPayLevelRow.holds Try.pinned (OpenSpec.ofChange fnExactPayLevelSpec)

/-- ITS FALSE NEIGHBOUR: 'it returns false'. Refute it at one input. -/
def fnExactPayLevelWrong : ChangeSpec := { name := "fnExactPayLevel", fn := fun _ => fun
  | [d] => { results := [.lit (.bool false)], args := [d] }
  | _ => none }
def FnExactPayLevelWrongFalsely : Prop := fnExactPayLevelRow.holds Try.pinned (OpenSpec.ofChange fnExactPayLevelWrong)

/-- 'laws.FnExactFloorSteepest': WHATEVER THE INPUT: true; the input reads as it did. -/
def fnExactFloorSteepestSpec : ChangeSpec := { name := "fnExactFloorSteepest", fn := fun _ => fun
  | [d] => { results := [.lit (.bool true)], args := [d] }
  | _ => none }
def fnExactFloorSteepestRow : OpenClaim := { program := "ytepkahmialnifaa", sum := "7cf77a6b79d97a61e48d014269fe3ce44fee8752f1a01c2a2ae92715d1cbe0f7", func := "loop.example/cableship/laws.FnExactFloorSteepest", spec := "fnExactFloorSteepest", unfollowed := true, recurses := true, apart := false }
def FnExactFloorSteepestSaid : Prop := fnExactFloorSteepestRow.holds Try.pinned (OpenSpec.ofChange fnExactFloorSteepestSpec)

/-- ITS FALSE NEIGHBOUR: 'it returns false'. Refute it at one input. -/
def fnExactFloorSteepestWrong : ChangeSpec := { name := "fnExactFloorSteepest", fn := fun _ => fun
  | [d] => { results := [.lit (.bool false)], args := [d] }
  | _ => none }
def FnExactFloorSteepestWrongFalsely : Prop := fnExactFloorSteepestRow.holds Try.pinned (OpenSpec.ofChange fnExactFloorSteepestWrong)

/-- 'laws.FnExactPayReach': WHATEVER THE INPUT: true; the input reads as it did. -/
def fnExactPayReachSpec : ChangeSpec := { name := "fnExactPayReach", fn := fun _ => fun
  | [d1, d2] => { results := [.lit (.bool true)], args := [d1, d2] }
  | _ => none }
def fnExactPayReachRow : OpenClaim := { program := "ytepkahmialnifaa", sum := "7cf77a6b79d97a61e48d014269fe3ce44fee8752f1a01c2a2ae92715d1cbe0f7", func := "loop.example/cableship/laws.FnExactPayReach", spec := "fnExactPayReach", unfollowed := true, recurses := true, apart := false }
def FnExactPayReachSaid : Prop := fnExactPayReachRow.holds Try.pinned (OpenSpec.ofChange fnExactPayReachSpec)

/-- ITS FALSE NEIGHBOUR: 'it returns false'. Refute it at one input. -/
def fnExactPayReachWrong : ChangeSpec := { name := "fnExactPayReach", fn := fun _ => fun
  | [d1, d2] => { results := [.lit (.bool false)], args := [d1, d2] }
  | _ => none }
def FnExactPayReachWrongFalsely : Prop := fnExactPayReachRow.holds Try.pinned (OpenSpec.ofChange fnExactPayReachWrong)

/- THE SECOND FORM. 'bulk': how many values and letters a reading holds, each counted each time it is reached (what is shared counts as often as it is met; a slice's spare places count too). A statement '..UptoSaid' is the law's where the arguments, and the package variables that the reading takes, are together of bulk at most 1048576: NARROWER than '..Said'. Prove '..Said' where nothing that the law and all that it calls make is longer than what came in: it says more and counts as full. Else prove '..UptoSaid'. A law counts once. -/
mutual
def uptoBulk {H : Type} : DataW H → Nat
  | .lit (.string bytes) => bytes.length + 1
  | .lit _ => 1
  | .nil => 1
  | .ptr d => uptoBulk d + 1
  | .slice elems spare => uptoBulkAll elems + uptoBulkAll spare + 1
  | .agg parts => uptoBulkAll parts + 1
  | .iface _ d => uptoBulk d + 1
  | .map entries => uptoBulkEntries entries + 1
  | .held _ => 1
def uptoBulkAll {H : Type} : List (DataW H) → Nat
  | [] => 0
  | d :: r => uptoBulk d + uptoBulkAll r
def uptoBulkEntries {H : Type} : List (Lit × DataW H) → Nat
  | [] => 0
  | x :: r => uptoBulkEntry x + uptoBulkEntries r
def uptoBulkEntry {H : Type} : Lit × DataW H → Nat
  | (.string bytes, d) => bytes.length + uptoBulk d + 1
  | (_, d) => uptoBulk d + 1
 end
def uptoSmall : (H : Type) → List (DataW H) → Bool := fun _ ds => decide (uptoBulkAll ds ≤ 1048576)
def OpenSpec.upto (s : _root_.Go.ChangeSpec) : _root_.Go.OpenSpec := { _root_.Go.OpenSpec.ofChange s with cond := some uptoSmall }

/-- 'laws.FnExactFloorDeepest', WHERE WHAT IT READS IS OF BULK AT MOST 1048576: true; the input reads as it did. -/
def fnExactFloorDeepestUptoRow : OpenClaim := { program := "ytepkahmialnifaa", sum := "7cf77a6b79d97a61e48d014269fe3ce44fee8752f1a01c2a2ae92715d1cbe0f7", func := "loop.example/cableship/laws.FnExactFloorDeepest", spec := "fnExactFloorDeepest", unfollowed := true, recurses := true, apart := false, narrowed := true }
def FnExactFloorDeepestUptoSaid : Prop := fnExactFloorDeepestUptoRow.holds Try.pinned (OpenSpec.upto fnExactFloorDeepestSpec)

/-- 'laws.FnExactFloorLength', WHERE WHAT IT READS IS OF BULK AT MOST 1048576: true; the input reads as it did. -/
def fnExactFloorLengthUptoRow : OpenClaim := { program := "ytepkahmialnifaa", sum := "7cf77a6b79d97a61e48d014269fe3ce44fee8752f1a01c2a2ae92715d1cbe0f7", func := "loop.example/cableship/laws.FnExactFloorLength", spec := "fnExactFloorLength", unfollowed := true, recurses := true, apart := false, narrowed := true }
def FnExactFloorLengthUptoSaid : Prop := fnExactFloorLengthUptoRow.holds Try.pinned (OpenSpec.upto fnExactFloorLengthSpec)

/-- 'laws.FnExactFloorBack', WHERE WHAT IT READS IS OF BULK AT MOST 1048576: true; the input reads as it did. -/
def fnExactFloorBackUptoRow : OpenClaim := { program := "ytepkahmialnifaa", sum := "7cf77a6b79d97a61e48d014269fe3ce44fee8752f1a01c2a2ae92715d1cbe0f7", func := "loop.example/cableship/laws.FnExactFloorBack", spec := "fnExactFloorBack", unfollowed := true, recurses := true, apart := false, narrowed := true }
def FnExactFloorBackUptoSaid : Prop := fnExactFloorBackUptoRow.holds Try.pinned (OpenSpec.upto fnExactFloorBackSpec)

/-- 'laws.FnExactPaySlack', WHERE WHAT IT READS IS OF BULK AT MOST 1048576: true; the input reads as it did. -/
def fnExactPaySlackUptoRow : OpenClaim := { program := "ytepkahmialnifaa", sum := "7cf77a6b79d97a61e48d014269fe3ce44fee8752f1a01c2a2ae92715d1cbe0f7", func := "loop.example/cableship/laws.FnExactPaySlack", spec := "fnExactPaySlack", unfollowed := true, recurses := true, apart := false, narrowed := true }
def FnExactPaySlackUptoSaid : Prop := fnExactPaySlackUptoRow.holds Try.pinned (OpenSpec.upto fnExactPaySlackSpec)

/-- 'laws.FnExactFloorPart', WHERE WHAT IT READS IS OF BULK AT MOST 1048576: true; the input reads as it did. -/
def fnExactFloorPartUptoRow : OpenClaim := { program := "ytepkahmialnifaa", sum := "7cf77a6b79d97a61e48d014269fe3ce44fee8752f1a01c2a2ae92715d1cbe0f7", func := "loop.example/cableship/laws.FnExactFloorPart", spec := "fnExactFloorPart", unfollowed := true, recurses := true, apart := false, narrowed := true }
def FnExactFloorPartUptoSaid : Prop := fnExactFloorPartUptoRow.holds Try.pinned (OpenSpec.upto fnExactFloorPartSpec)

/-- 'laws.FnExactPayCarry', WHERE WHAT IT READS IS OF BULK AT MOST 1048576: true; the input reads as it did. -/
def fnExactPayCarryUptoRow : OpenClaim := { program := "ytepkahmialnifaa", sum := "7cf77a6b79d97a61e48d014269fe3ce44fee8752f1a01c2a2ae92715d1cbe0f7", func := "loop.example/cableship/laws.FnExactPayCarry", spec := "fnExactPayCarry", unfollowed := true, recurses := true, apart := false, narrowed := true }
def FnExactPayCarryUptoSaid : Prop := fnExactPayCarryUptoRow.holds Try.pinned (OpenSpec.upto fnExactPayCarrySpec)

/-- 'laws.FnExactFloorNeeds', WHERE WHAT IT READS IS OF BULK AT MOST 1048576: true; the input reads as it did. -/
def fnExactFloorNeedsUptoRow : OpenClaim := { program := "ytepkahmialnifaa", sum := "7cf77a6b79d97a61e48d014269fe3ce44fee8752f1a01c2a2ae92715d1cbe0f7", func := "loop.example/cableship/laws.FnExactFloorNeeds", spec := "fnExactFloorNeeds", unfollowed := true, recurses := true, apart := false, narrowed := true }
def FnExactFloorNeedsUptoSaid : Prop := fnExactFloorNeedsUptoRow.holds Try.pinned (OpenSpec.upto fnExactFloorNeedsSpec)

/-- 'laws.FnExactPayHangs', WHERE WHAT IT READS IS OF BULK AT MOST 1048576: true; the input reads as it did. -/
def fnExactPayHangsUptoRow : OpenClaim := { program := "ytepkahmialnifaa", sum := "7cf77a6b79d97a61e48d014269fe3ce44fee8752f1a01c2a2ae92715d1cbe0f7", func := "loop.example/cableship/laws.FnExactPayHangs", spec := "fnExactPayHangs", unfollowed := true, recurses := true, apart := false, narrowed := true }
def FnExactPayHangsUptoSaid : Prop := fnExactPayHangsUptoRow.holds Try.pinned (OpenSpec.upto fnExactPayHangsSpec)

/-- 'laws.FnExactFloorJoin', WHERE WHAT IT READS IS OF BULK AT MOST 1048576: true; the input reads as it did. -/
def fnExactFloorJoinUptoRow : OpenClaim := { program := "ytepkahmialnifaa", sum := "7cf77a6b79d97a61e48d014269fe3ce44fee8752f1a01c2a2ae92715d1cbe0f7", func := "loop.example/cableship/laws.FnExactFloorJoin", spec := "fnExactFloorJoin", unfollowed := true, recurses := true, apart := false, narrowed := true }
def FnExactFloorJoinUptoSaid : Prop := fnExactFloorJoinUptoRow.holds Try.pinned (OpenSpec.upto fnExactFloorJoinSpec)

/-- 'laws.FnExactPayLevel', WHERE WHAT IT READS IS OF BULK AT MOST 1048576: true; the input reads as it did. -/
def fnExactPayLevelUptoRow : OpenClaim := { program := "ytepkahmialnifaa", sum := "7cf77a6b79d97a61e48d014269fe3ce44fee8752f1a01c2a2ae92715d1cbe0f7", func := "loop.example/cableship/laws.FnExactPayLevel", spec := "fnExactPayLevel", unfollowed := true, recurses := true, apart := false, narrowed := true }
def FnExactPayLevelUptoSaid : Prop := fnExactPayLevelUptoRow.holds Try.pinned (OpenSpec.upto fnExactPayLevelSpec)

/-- 'laws.FnExactFloorSteepest', WHERE WHAT IT READS IS OF BULK AT MOST 1048576: true; the input reads as it did. -/
def fnExactFloorSteepestUptoRow : OpenClaim := { program := "ytepkahmialnifaa", sum := "7cf77a6b79d97a61e48d014269fe3ce44fee8752f1a01c2a2ae92715d1cbe0f7", func := "loop.example/cableship/laws.FnExactFloorSteepest", spec := "fnExactFloorSteepest", unfollowed := true, recurses := true, apart := false, narrowed := true }
def FnExactFloorSteepestUptoSaid : Prop := fnExactFloorSteepestUptoRow.holds Try.pinned (OpenSpec.upto fnExactFloorSteepestSpec)

/-- 'laws.FnExactPayReach', WHERE WHAT IT READS IS OF BULK AT MOST 1048576: true; the input reads as it did. -/
def fnExactPayReachUptoRow : OpenClaim := { program := "ytepkahmialnifaa", sum := "7cf77a6b79d97a61e48d014269fe3ce44fee8752f1a01c2a2ae92715d1cbe0f7", func := "loop.example/cableship/laws.FnExactPayReach", spec := "fnExactPayReach", unfollowed := true, recurses := true, apart := false, narrowed := true }
def FnExactPayReachUptoSaid : Prop := fnExactPayReachUptoRow.holds Try.pinned (OpenSpec.upto fnExactPayReachSpec)

end Rows
end Go.Proofs.Ytepkahmialnifaa
