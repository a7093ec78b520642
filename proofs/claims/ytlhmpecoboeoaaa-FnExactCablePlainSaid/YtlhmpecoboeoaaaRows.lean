/-
  No cell of these rows narrows 'for every input' (looked for: loops, veiled, ifaces, maps, wideKeys, modest, calm, conditions, laid).
  DERIVED. THE GIVEN ROWS OF THIS SEAT. 14 by the template 'for every input the law returns true; each argument reads behind the call as it read before'; 0 by the template 'total and deterministic' (their statements: YtlhmpecoboeoaaaTotals.lean).
  GIVEN WITH THE SEED: the statements are not yours to turn. If you find one false, say at which input.
  Laid BY PROGRAM, IN A SANDBOX (cutbox-rows.mjs): the forced cells as the released guide's own fill.sh prints them over the translation 711ec02516705933… (all of the seat's roots in one cut). By AI agents, Wed Nov 11 2026. No macro, syntax, notation, axiom, sorry.
-/
import Derived.Test.YtlhmpecoboeoaaaChecked
import GoSem.Claim
import GoSem.ClaimJoined
import GoSem.ClaimMapViews
import Derived.JoinedTies
import Derived.KernelRfl
namespace Go.Proofs.Ytlhmpecoboeoaaa
/- THE CELL 'sum', in the pinned program and in every row, IS THE sha256 OF THE DUMP (.gsa) THAT YtlhmpecoboeoaaaProg.lean LOADS. Nothing in Lean hashes anything: it is a label: what it is worth is what the hold of that sum in a sandbox is worth. -/
noncomputable def Try.pinned : Pinned := { name := "ytlhmpecoboeoaaa", sum := "711ec0251670593338320daa68629b96cb7a86e3aeede1c20ba8f5b5e16a1340", checked := Try.checked }
namespace Rows
def none {H : Type} : Left H := { results := [], args := [] }

/-- 'laws.FnExactCableValid': WHATEVER THE INPUT: true; the input reads as it did. -/
def fnExactCableValidSpec : ChangeSpec := { name := "fnExactCableValid", fn := fun _ => fun
  | [d] => { results := [.lit (.bool true)], args := [d] }
  | _ => none }
def fnExactCableValidRow : OpenClaim := { program := "ytlhmpecoboeoaaa", sum := "711ec0251670593338320daa68629b96cb7a86e3aeede1c20ba8f5b5e16a1340", func := "loop.example/cableship/laws.FnExactCableValid", spec := "fnExactCableValid", apart := false }
def FnExactCableValidSaid : Prop := fnExactCableValidRow.holds Try.pinned (OpenSpec.ofChange fnExactCableValidSpec)

/-- ITS FALSE NEIGHBOUR: 'it returns false'. Refute it at one input. -/
def fnExactCableValidWrong : ChangeSpec := { name := "fnExactCableValid", fn := fun _ => fun
  | [d] => { results := [.lit (.bool false)], args := [d] }
  | _ => none }
def FnExactCableValidWrongFalsely : Prop := fnExactCableValidRow.holds Try.pinned (OpenSpec.ofChange fnExactCableValidWrong)

/-- 'laws.FnExactCableMiles': WHATEVER THE INPUT: true; the input reads as it did. -/
def fnExactCableMilesSpec : ChangeSpec := { name := "fnExactCableMiles", fn := fun _ => fun
  | [d] => { results := [.lit (.bool true)], args := [d] }
  | _ => none }
def fnExactCableMilesRow : OpenClaim := { program := "ytlhmpecoboeoaaa", sum := "711ec0251670593338320daa68629b96cb7a86e3aeede1c20ba8f5b5e16a1340", func := "loop.example/cableship/laws.FnExactCableMiles", spec := "fnExactCableMiles", unfollowed := true, recurses := true, apart := false }
def FnExactCableMilesSaid : Prop := fnExactCableMilesRow.holds Try.pinned (OpenSpec.ofChange fnExactCableMilesSpec)

/-- ITS FALSE NEIGHBOUR: 'it returns false'. Refute it at one input. -/
def fnExactCableMilesWrong : ChangeSpec := { name := "fnExactCableMiles", fn := fun _ => fun
  | [d] => { results := [.lit (.bool false)], args := [d] }
  | _ => none }
def FnExactCableMilesWrongFalsely : Prop := fnExactCableMilesRow.holds Try.pinned (OpenSpec.ofChange fnExactCableMilesWrong)

/-- 'laws.FnExactFaultValid': WHATEVER THE INPUT: true; the input reads as it did. -/
def fnExactFaultValidSpec : ChangeSpec := { name := "fnExactFaultValid", fn := fun _ => fun
  | [d1, d2] => { results := [.lit (.bool true)], args := [d1, d2] }
  | _ => none }
def fnExactFaultValidRow : OpenClaim := { program := "ytlhmpecoboeoaaa", sum := "711ec0251670593338320daa68629b96cb7a86e3aeede1c20ba8f5b5e16a1340", func := "loop.example/cableship/laws.FnExactFaultValid", spec := "fnExactFaultValid", unfollowed := true, recurses := true, apart := false }
def FnExactFaultValidSaid : Prop := fnExactFaultValidRow.holds Try.pinned (OpenSpec.ofChange fnExactFaultValidSpec)

/-- ITS FALSE NEIGHBOUR: 'it returns false'. Refute it at one input. -/
def fnExactFaultValidWrong : ChangeSpec := { name := "fnExactFaultValid", fn := fun _ => fun
  | [d1, d2] => { results := [.lit (.bool false)], args := [d1, d2] }
  | _ => none }
def FnExactFaultValidWrongFalsely : Prop := fnExactFaultValidRow.holds Try.pinned (OpenSpec.ofChange fnExactFaultValidWrong)

/-- 'laws.FnExactCableBack': WHATEVER THE INPUT: true; the input reads as it did. -/
def fnExactCableBackSpec : ChangeSpec := { name := "fnExactCableBack", fn := fun _ => fun
  | [d] => { results := [.lit (.bool true)], args := [d] }
  | _ => none }
def fnExactCableBackRow : OpenClaim := { program := "ytlhmpecoboeoaaa", sum := "711ec0251670593338320daa68629b96cb7a86e3aeede1c20ba8f5b5e16a1340", func := "loop.example/cableship/laws.FnExactCableBack", spec := "fnExactCableBack", apart := false }
def FnExactCableBackSaid : Prop := fnExactCableBackRow.holds Try.pinned (OpenSpec.ofChange fnExactCableBackSpec)

/-- ITS FALSE NEIGHBOUR: 'it returns false'. Refute it at one input. -/
def fnExactCableBackWrong : ChangeSpec := { name := "fnExactCableBack", fn := fun _ => fun
  | [d] => { results := [.lit (.bool false)], args := [d] }
  | _ => none }
def FnExactCableBackWrongFalsely : Prop := fnExactCableBackRow.holds Try.pinned (OpenSpec.ofChange fnExactCableBackWrong)

/-- 'laws.FnExactCablePlain': WHATEVER THE INPUT: true; the input reads as it did. -/
def fnExactCablePlainSpec : ChangeSpec := { name := "fnExactCablePlain", fn := fun _ => fun
  | [d] => { results := [.lit (.bool true)], args := [d] }
  | _ => none }
def fnExactCablePlainRow : OpenClaim := { program := "ytlhmpecoboeoaaa", sum := "711ec0251670593338320daa68629b96cb7a86e3aeede1c20ba8f5b5e16a1340", func := "loop.example/cableship/laws.FnExactCablePlain", spec := "fnExactCablePlain", apart := false }
def FnExactCablePlainSaid : Prop := fnExactCablePlainRow.holds Try.pinned (OpenSpec.ofChange fnExactCablePlainSpec)

/-- ITS FALSE NEIGHBOUR: 'it returns false'. Refute it at one input. -/
def fnExactCablePlainWrong : ChangeSpec := { name := "fnExactCablePlain", fn := fun _ => fun
  | [d] => { results := [.lit (.bool false)], args := [d] }
  | _ => none }
def FnExactCablePlainWrongFalsely : Prop := fnExactCablePlainRow.holds Try.pinned (OpenSpec.ofChange fnExactCablePlainWrong)

/-- 'laws.FnExactCableOhms': WHATEVER THE INPUT: true; the input reads as it did. -/
def fnExactCableOhmsSpec : ChangeSpec := { name := "fnExactCableOhms", fn := fun _ => fun
  | [d1, d2] => { results := [.lit (.bool true)], args := [d1, d2] }
  | _ => none }
def fnExactCableOhmsRow : OpenClaim := { program := "ytlhmpecoboeoaaa", sum := "711ec0251670593338320daa68629b96cb7a86e3aeede1c20ba8f5b5e16a1340", func := "loop.example/cableship/laws.FnExactCableOhms", spec := "fnExactCableOhms", unfollowed := true, recurses := true, apart := false }
def FnExactCableOhmsSaid : Prop := fnExactCableOhmsRow.holds Try.pinned (OpenSpec.ofChange fnExactCableOhmsSpec)

/-- ITS FALSE NEIGHBOUR: 'it returns false'. Refute it at one input. -/
def fnExactCableOhmsWrong : ChangeSpec := { name := "fnExactCableOhms", fn := fun _ => fun
  | [d1, d2] => { results := [.lit (.bool false)], args := [d1, d2] }
  | _ => none }
def FnExactCableOhmsWrongFalsely : Prop := fnExactCableOhmsRow.holds Try.pinned (OpenSpec.ofChange fnExactCableOhmsWrong)

/-- 'laws.FnExactCableKind': WHATEVER THE INPUT: true; the input reads as it did. -/
def fnExactCableKindSpec : ChangeSpec := { name := "fnExactCableKind", fn := fun _ => fun
  | [d1, d2] => { results := [.lit (.bool true)], args := [d1, d2] }
  | _ => none }
def fnExactCableKindRow : OpenClaim := { program := "ytlhmpecoboeoaaa", sum := "711ec0251670593338320daa68629b96cb7a86e3aeede1c20ba8f5b5e16a1340", func := "loop.example/cableship/laws.FnExactCableKind", spec := "fnExactCableKind", unfollowed := true, recurses := true, apart := false }
def FnExactCableKindSaid : Prop := fnExactCableKindRow.holds Try.pinned (OpenSpec.ofChange fnExactCableKindSpec)

/-- ITS FALSE NEIGHBOUR: 'it returns false'. Refute it at one input. -/
def fnExactCableKindWrong : ChangeSpec := { name := "fnExactCableKind", fn := fun _ => fun
  | [d1, d2] => { results := [.lit (.bool false)], args := [d1, d2] }
  | _ => none }
def FnExactCableKindWrongFalsely : Prop := fnExactCableKindRow.holds Try.pinned (OpenSpec.ofChange fnExactCableKindWrong)

/-- 'laws.FnExactCableWhere': WHATEVER THE INPUT: true; the input reads as it did. -/
def fnExactCableWhereSpec : ChangeSpec := { name := "fnExactCableWhere", fn := fun _ => fun
  | [d1, d2] => { results := [.lit (.bool true)], args := [d1, d2] }
  | _ => none }
def fnExactCableWhereRow : OpenClaim := { program := "ytlhmpecoboeoaaa", sum := "711ec0251670593338320daa68629b96cb7a86e3aeede1c20ba8f5b5e16a1340", func := "loop.example/cableship/laws.FnExactCableWhere", spec := "fnExactCableWhere", unfollowed := true, recurses := true, apart := false }
def FnExactCableWhereSaid : Prop := fnExactCableWhereRow.holds Try.pinned (OpenSpec.ofChange fnExactCableWhereSpec)

/-- ITS FALSE NEIGHBOUR: 'it returns false'. Refute it at one input. -/
def fnExactCableWhereWrong : ChangeSpec := { name := "fnExactCableWhere", fn := fun _ => fun
  | [d1, d2] => { results := [.lit (.bool false)], args := [d1, d2] }
  | _ => none }
def FnExactCableWhereWrongFalsely : Prop := fnExactCableWhereRow.holds Try.pinned (OpenSpec.ofChange fnExactCableWhereWrong)

/-- 'laws.FnExactCableAll': WHATEVER THE INPUT: true; the input reads as it did. -/
def fnExactCableAllSpec : ChangeSpec := { name := "fnExactCableAll", fn := fun _ => fun
  | [d] => { results := [.lit (.bool true)], args := [d] }
  | _ => none }
def fnExactCableAllRow : OpenClaim := { program := "ytlhmpecoboeoaaa", sum := "711ec0251670593338320daa68629b96cb7a86e3aeede1c20ba8f5b5e16a1340", func := "loop.example/cableship/laws.FnExactCableAll", spec := "fnExactCableAll", unfollowed := true, recurses := true, apart := false }
def FnExactCableAllSaid : Prop := fnExactCableAllRow.holds Try.pinned (OpenSpec.ofChange fnExactCableAllSpec)

/-- ITS FALSE NEIGHBOUR: 'it returns false'. Refute it at one input. -/
def fnExactCableAllWrong : ChangeSpec := { name := "fnExactCableAll", fn := fun _ => fun
  | [d] => { results := [.lit (.bool false)], args := [d] }
  | _ => none }
def FnExactCableAllWrongFalsely : Prop := fnExactCableAllRow.holds Try.pinned (OpenSpec.ofChange fnExactCableAllWrong)

/-- 'laws.FnExactCableSplice': WHATEVER THE INPUT: true; the input reads as it did. -/
def fnExactCableSpliceSpec : ChangeSpec := { name := "fnExactCableSplice", fn := fun _ => fun
  | [d1, d2] => { results := [.lit (.bool true)], args := [d1, d2] }
  | _ => none }
def fnExactCableSpliceRow : OpenClaim := { program := "ytlhmpecoboeoaaa", sum := "711ec0251670593338320daa68629b96cb7a86e3aeede1c20ba8f5b5e16a1340", func := "loop.example/cableship/laws.FnExactCableSplice", spec := "fnExactCableSplice", apart := false }
def FnExactCableSpliceSaid : Prop := fnExactCableSpliceRow.holds Try.pinned (OpenSpec.ofChange fnExactCableSpliceSpec)

/-- ITS FALSE NEIGHBOUR: 'it returns false'. Refute it at one input. -/
def fnExactCableSpliceWrong : ChangeSpec := { name := "fnExactCableSplice", fn := fun _ => fun
  | [d1, d2] => { results := [.lit (.bool false)], args := [d1, d2] }
  | _ => none }
def FnExactCableSpliceWrongFalsely : Prop := fnExactCableSpliceRow.holds Try.pinned (OpenSpec.ofChange fnExactCableSpliceWrong)

/-- 'laws.FnExactFaultBack': WHATEVER THE INPUT: true; the input reads as it did. -/
def fnExactFaultBackSpec : ChangeSpec := { name := "fnExactFaultBack", fn := fun _ => fun
  | [d1, d2] => { results := [.lit (.bool true)], args := [d1, d2] }
  | _ => none }
def fnExactFaultBackRow : OpenClaim := { program := "ytlhmpecoboeoaaa", sum := "711ec0251670593338320daa68629b96cb7a86e3aeede1c20ba8f5b5e16a1340", func := "loop.example/cableship/laws.FnExactFaultBack", spec := "fnExactFaultBack", unfollowed := true, recurses := true, apart := false }
def FnExactFaultBackSaid : Prop := fnExactFaultBackRow.holds Try.pinned (OpenSpec.ofChange fnExactFaultBackSpec)

/-- ITS FALSE NEIGHBOUR: 'it returns false'. Refute it at one input. -/
def fnExactFaultBackWrong : ChangeSpec := { name := "fnExactFaultBack", fn := fun _ => fun
  | [d1, d2] => { results := [.lit (.bool false)], args := [d1, d2] }
  | _ => none }
def FnExactFaultBackWrongFalsely : Prop := fnExactFaultBackRow.holds Try.pinned (OpenSpec.ofChange fnExactFaultBackWrong)

/-- 'laws.FnExactBreakOpen': WHATEVER THE INPUT: true; the input reads as it did. -/
def fnExactBreakOpenSpec : ChangeSpec := { name := "fnExactBreakOpen", fn := fun _ => fun
  | [d1, d2, d3] => { results := [.lit (.bool true)], args := [d1, d2, d3] }
  | _ => none }
def fnExactBreakOpenRow : OpenClaim := { program := "ytlhmpecoboeoaaa", sum := "711ec0251670593338320daa68629b96cb7a86e3aeede1c20ba8f5b5e16a1340", func := "loop.example/cableship/laws.FnExactBreakOpen", spec := "fnExactBreakOpen", unfollowed := true, recurses := true, apart := false }
def FnExactBreakOpenSaid : Prop := fnExactBreakOpenRow.holds Try.pinned (OpenSpec.ofChange fnExactBreakOpenSpec)

/-- ITS FALSE NEIGHBOUR: 'it returns false'. Refute it at one input. -/
def fnExactBreakOpenWrong : ChangeSpec := { name := "fnExactBreakOpen", fn := fun _ => fun
  | [d1, d2, d3] => { results := [.lit (.bool false)], args := [d1, d2, d3] }
  | _ => none }
def FnExactBreakOpenWrongFalsely : Prop := fnExactBreakOpenRow.holds Try.pinned (OpenSpec.ofChange fnExactBreakOpenWrong)

/-- 'laws.FnExactFaultOpen': WHATEVER THE INPUT: true; the input reads as it did. -/
def fnExactFaultOpenSpec : ChangeSpec := { name := "fnExactFaultOpen", fn := fun _ => fun
  | [d1, d2] => { results := [.lit (.bool true)], args := [d1, d2] }
  | _ => none }
def fnExactFaultOpenRow : OpenClaim := { program := "ytlhmpecoboeoaaa", sum := "711ec0251670593338320daa68629b96cb7a86e3aeede1c20ba8f5b5e16a1340", func := "loop.example/cableship/laws.FnExactFaultOpen", spec := "fnExactFaultOpen", unfollowed := true, recurses := true, apart := false }
def FnExactFaultOpenSaid : Prop := fnExactFaultOpenRow.holds Try.pinned (OpenSpec.ofChange fnExactFaultOpenSpec)

/-- ITS FALSE NEIGHBOUR: 'it returns false'. Refute it at one input. -/
def fnExactFaultOpenWrong : ChangeSpec := { name := "fnExactFaultOpen", fn := fun _ => fun
  | [d1, d2] => { results := [.lit (.bool false)], args := [d1, d2] }
  | _ => none }
def FnExactFaultOpenWrongFalsely : Prop := fnExactFaultOpenRow.holds Try.pinned (OpenSpec.ofChange fnExactFaultOpenWrong)

/-- 'laws.FnExactBreakRange': WHATEVER THE INPUT: true; the input reads as it did. -/
def fnExactBreakRangeSpec : ChangeSpec := { name := "fnExactBreakRange", fn := fun _ => fun
  | [d1, d2, d3] => { results := [.lit (.bool true)], args := [d1, d2, d3] }
  | _ => none }
def fnExactBreakRangeRow : OpenClaim := { program := "ytlhmpecoboeoaaa", sum := "711ec0251670593338320daa68629b96cb7a86e3aeede1c20ba8f5b5e16a1340", func := "loop.example/cableship/laws.FnExactBreakRange", spec := "fnExactBreakRange", unfollowed := true, recurses := true, apart := false }
def FnExactBreakRangeSaid : Prop := fnExactBreakRangeRow.holds Try.pinned (OpenSpec.ofChange fnExactBreakRangeSpec)

/-- ITS FALSE NEIGHBOUR: 'it returns false'. Refute it at one input. -/
def fnExactBreakRangeWrong : ChangeSpec := { name := "fnExactBreakRange", fn := fun _ => fun
  | [d1, d2, d3] => { results := [.lit (.bool false)], args := [d1, d2, d3] }
  | _ => none }
def FnExactBreakRangeWrongFalsely : Prop := fnExactBreakRangeRow.holds Try.pinned (OpenSpec.ofChange fnExactBreakRangeWrong)

/- THE SECOND FORM. 'bulk': how many values and letters a reading holds, each counted each time it is reached (what is shared counts as often as it is met; a slice's spare places count too). A statement '..UptoSaid' is the law's where the arguments, and the package variables that the reading takes, are together of bulk at most 1048576: NARROWER than '..Said'. Prove '..Said' where nothing that the law and all that it calls make is longer than what came in: it says more and counts as full. Else prove '..UptoSaid'. A law counts once. -/
mutual
def uptoBulk {H : Type} : DataW H → Nat
  | .lit (.string bytes) => bytes.length + 1
  | .lit _ => 1
  | .nil => 1
  | .ptr d => uptoBulk d + 1
  | .slice elems spare => uptoBulkAll elems + uptoBulkAll spare + 1
  | .agg parts => uptoBulkAll parts + 1
  | .iface _ d => uptoBulk d + 1
  | .map entries => uptoBulkEntries entries + 1
  | .held _ => 1
def uptoBulkAll {H : Type} : List (DataW H) → Nat
  | [] => 0
  | d :: r => uptoBulk d + uptoBulkAll r
def uptoBulkEntries {H : Type} : List (Lit × DataW H) → Nat
  | [] => 0
  | x :: r => uptoBulkEntry x + uptoBulkEntries r
def uptoBulkEntry {H : Type} : Lit × DataW H → Nat
  | (.string bytes, d) => bytes.length + uptoBulk d + 1
  | (_, d) => uptoBulk d + 1
 end
def uptoSmall : (H : Type) → List (DataW H) → Bool := fun _ ds => decide (uptoBulkAll ds ≤ 1048576)
def OpenSpec.upto (s : _root_.Go.ChangeSpec) : _root_.Go.OpenSpec := { _root_.Go.OpenSpec.ofChange s with cond := some uptoSmall }

/-- 'laws.FnExactCableValid', WHERE WHAT IT READS IS OF BULK AT MOST 1048576: true; the input reads as it did. -/
def fnExactCableValidUptoRow : OpenClaim := { program := "ytlhmpecoboeoaaa", sum := "711ec0251670593338320daa68629b96cb7a86e3aeede1c20ba8f5b5e16a1340", func := "loop.example/cableship/laws.FnExactCableValid", spec := "fnExactCableValid", apart := false, narrowed := true }
def FnExactCableValidUptoSaid : Prop := fnExactCableValidUptoRow.holds Try.pinned (OpenSpec.upto fnExactCableValidSpec)

/-- 'laws.FnExactCableMiles', WHERE WHAT IT READS IS OF BULK AT MOST 1048576: true; the input reads as it did. -/
def fnExactCableMilesUptoRow : OpenClaim := { program := "ytlhmpecoboeoaaa", sum := "711ec0251670593338320daa68629b96cb7a86e3aeede1c20ba8f5b5e16a1340", func := "loop.example/cableship/laws.FnExactCableMiles", spec := "fnExactCableMiles", unfollowed := true, recurses := true, apart := false, narrowed := true }
def FnExactCableMilesUptoSaid : Prop := fnExactCableMilesUptoRow.holds Try.pinned (OpenSpec.upto fnExactCableMilesSpec)

/-- 'laws.FnExactFaultValid', WHERE WHAT IT READS IS OF BULK AT MOST 1048576: true; the input reads as it did. -/
def fnExactFaultValidUptoRow : OpenClaim := { program := "ytlhmpecoboeoaaa", sum := "711ec0251670593338320daa68629b96cb7a86e3aeede1c20ba8f5b5e16a1340", func := "loop.example/cableship/laws.FnExactFaultValid", spec := "fnExactFaultValid", unfollowed := true, recurses := true, apart := false, narrowed := true }
def FnExactFaultValidUptoSaid : Prop := fnExactFaultValidUptoRow.holds Try.pinned (OpenSpec.upto fnExactFaultValidSpec)

/-- 'laws.FnExactCableBack', WHERE WHAT IT READS IS OF BULK AT MOST 1048576: true; the input reads as it did. -/
def fnExactCableBackUptoRow : OpenClaim := { program := "ytlhmpecoboeoaaa", sum := "711ec0251670593338320daa68629b96cb7a86e3aeede1c20ba8f5b5e16a1340", func := "loop.example/cableship/laws.FnExactCableBack", spec := "fnExactCableBack", apart := false, narrowed := true }
def FnExactCableBackUptoSaid : Prop := fnExactCableBackUptoRow.holds Try.pinned (OpenSpec.upto fnExactCableBackSpec)

/-- 'laws.FnExactCablePlain', WHERE WHAT IT READS IS OF BULK AT MOST 1048576: true; the input reads as it did. -/
def fnExactCablePlainUptoRow : OpenClaim := { program := "ytlhmpecoboeoaaa", sum := "711ec0251670593338320daa68629b96cb7a86e3aeede1c20ba8f5b5e16a1340", func := "loop.example/cableship/laws.FnExactCablePlain", spec := "fnExactCablePlain", apart := false, narrowed := true }
def FnExactCablePlainUptoSaid : Prop := fnExactCablePlainUptoRow.holds Try.pinned (OpenSpec.upto fnExactCablePlainSpec)

/-- 'laws.FnExactCableOhms', WHERE WHAT IT READS IS OF BULK AT MOST 1048576: true; the input reads as it did. -/
def fnExactCableOhmsUptoRow : OpenClaim := { program := "ytlhmpecoboeoaaa", sum := "711ec0251670593338320daa68629b96cb7a86e3aeede1c20ba8f5b5e16a1340", func := "loop.example/cableship/laws.FnExactCableOhms", spec := "fnExactCableOhms", unfollowed := true, recurses := true, apart := false, narrowed := true }
def FnExactCableOhmsUptoSaid : Prop := fnExactCableOhmsUptoRow.holds Try.pinned (OpenSpec.upto fnExactCableOhmsSpec)

/-- 'laws.FnExactCableKind', WHERE WHAT IT READS IS OF BULK AT MOST 1048576: true; the input reads as it did. -/
def fnExactCableKindUptoRow : OpenClaim := { program := "ytlhmpecoboeoaaa", sum := "711ec0251670593338320daa68629b96cb7a86e3aeede1c20ba8f5b5e16a1340", func := "loop.example/cableship/laws.FnExactCableKind", spec := "fnExactCableKind", unfollowed := true, recurses := true, apart := false, narrowed := true }
def FnExactCableKindUptoSaid : Prop := fnExactCableKindUptoRow.holds Try.pinned (OpenSpec.upto fnExactCableKindSpec)

/-- 'laws.FnExactCableWhere', WHERE WHAT IT READS IS OF BULK AT MOST 1048576: true; the input reads as it did. -/
def fnExactCableWhereUptoRow : OpenClaim := { program := "ytlhmpecoboeoaaa", sum := "711ec0251670593338320daa68629b96cb7a86e3aeede1c20ba8f5b5e16a1340", func := "loop.example/cableship/laws.FnExactCableWhere", spec := "fnExactCableWhere", unfollowed := true, recurses := true, apart := false, narrowed := true }
def FnExactCableWhereUptoSaid : Prop := fnExactCableWhereUptoRow.holds Try.pinned (OpenSpec.upto fnExactCableWhereSpec)

/-- 'laws.FnExactCableAll', WHERE WHAT IT READS IS OF BULK AT MOST 1048576: true; the input reads as it did. -/
def fnExactCableAllUptoRow : OpenClaim := { program := "ytlhmpecoboeoaaa", sum := "711ec0251670593338320daa68629b96cb7a86e3aeede1c20ba8f5b5e16a1340", func := "loop.example/cableship/laws.FnExactCableAll", spec := "fnExactCableAll", unfollowed := true, recurses := true, apart := false, narrowed := true }
def FnExactCableAllUptoSaid : Prop := fnExactCableAllUptoRow.holds Try.pinned (OpenSpec.upto fnExactCableAllSpec)

/-- 'laws.FnExactCableSplice', WHERE WHAT IT READS IS OF BULK AT MOST 1048576: true; the input reads as it did. -/
def fnExactCableSpliceUptoRow : OpenClaim := { program := "ytlhmpecoboeoaaa", sum := "711ec0251670593338320daa68629b96cb7a86e3aeede1c20ba8f5b5e16a1340", func := "loop.example/cableship/laws.FnExactCableSplice", spec := "fnExactCableSplice", apart := false, narrowed := true }
def FnExactCableSpliceUptoSaid : Prop := fnExactCableSpliceUptoRow.holds Try.pinned (OpenSpec.upto fnExactCableSpliceSpec)

/-- 'laws.FnExactFaultBack', WHERE WHAT IT READS IS OF BULK AT MOST 1048576: true; the input reads as it did. -/
def fnExactFaultBackUptoRow : OpenClaim := { program := "ytlhmpecoboeoaaa", sum := "711ec0251670593338320daa68629b96cb7a86e3aeede1c20ba8f5b5e16a1340", func := "loop.example/cableship/laws.FnExactFaultBack", spec := "fnExactFaultBack", unfollowed := true, recurses := true, apart := false, narrowed := true }
def FnExactFaultBackUptoSaid : Prop := fnExactFaultBackUptoRow.holds Try.pinned (OpenSpec.upto fnExactFaultBackSpec)

/-- 'laws.FnExactBreakOpen', WHERE WHAT IT READS IS OF BULK AT MOST 1048576: true; the input reads as it did. -/
def fnExactBreakOpenUptoRow : OpenClaim := { program := "ytlhmpecoboeoaaa", sum := "711ec0251670593338320daa68629b96cb7a86e3aeede1c20ba8f5b5e16a1340", func := "loop.example/cableship/laws.FnExactBreakOpen", spec := "fnExactBreakOpen", unfollowed := true, recurses := true, apart := false, narrowed := true }
def FnExactBreakOpenUptoSaid : Prop := fnExactBreakOpenUptoRow.holds Try.pinned (OpenSpec.upto fnExactBreakOpenSpec)

/-- 'laws.FnExactFaultOpen', WHERE WHAT IT READS IS OF BULK AT MOST 1048576: true; the input reads as it did. -/
def fnExactFaultOpenUptoRow : OpenClaim := { program := "ytlhmpecoboeoaaa", sum := "711ec0251670593338320daa68629b96cb7a86e3aeede1c20ba8f5b5e16a1340", func := "loop.example/cableship/laws.FnExactFaultOpen", spec := "fnExactFaultOpen", unfollowed := true, recurses := true, apart := false, narrowed := true }
def FnExactFaultOpenUptoSaid : Prop := fnExactFaultOpenUptoRow.holds Try.pinned (OpenSpec.upto fnExactFaultOpenSpec)

/-- 'laws.FnExactBreakRange', WHERE WHAT IT READS IS OF BULK AT MOST 1048576: true; the input reads as it did. -/
def fnExactBreakRangeUptoRow : OpenClaim := { program := "ytlhmpecoboeoaaa", sum := "711ec0251670593338320daa68629b96cb7a86e3aeede1c20ba8f5b5e16a1340", func := "loop.example/cableship/laws.FnExactBreakRange", spec := "fnExactBreakRange", unfollowed := true, recurses := true, apart := false, narrowed := true }
def FnExactBreakRangeUptoSaid : Prop := fnExactBreakRangeUptoRow.holds Try.pinned (OpenSpec.upto fnExactBreakRangeSpec)

end Rows
end Go.Proofs.Ytlhmpecoboeoaaa
