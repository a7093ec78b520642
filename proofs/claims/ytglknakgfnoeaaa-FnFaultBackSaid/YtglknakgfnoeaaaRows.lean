/-
  No cell of these rows narrows 'for every input' (looked for: loops, veiled, ifaces, maps, wideKeys, modest, calm, conditions, laid).
  DERIVED. THE GIVEN ROWS OF THIS SEAT. 8 by the template 'for every input the law returns true; each argument reads behind the call as it read before'; 0 by the template 'total and deterministic' (their statements: YtglknakgfnoeaaaTotals.lean).
  GIVEN WITH THE SEED: the statements are not yours to turn. If you find one false, say at which input.
  Laid BY PROGRAM, IN A SANDBOX (cutbox-rows.mjs): the forced cells as the released guide's own fill.sh prints them over the translation a56dcbf6121ed8af… (all of the seat's roots in one cut). By AI agents, Wed Nov 11 2026. No macro, syntax, notation, axiom, sorry.
-/
import Derived.Test.YtglknakgfnoeaaaChecked
import GoSem.Claim
import GoSem.ClaimJoined
import GoSem.ClaimMapViews
import Derived.JoinedTies
import Derived.KernelRfl
namespace Go.Proofs.Ytglknakgfnoeaaa
/- THE CELL 'sum', in the pinned program and in every row, IS THE sha256 OF THE DUMP (.gsa) THAT YtglknakgfnoeaaaProg.lean LOADS. Nothing in Lean hashes anything: it is a label: what it is worth is what the hold of that sum in a sandbox is worth. -/
noncomputable def Try.pinned : Pinned := { name := "ytglknakgfnoeaaa", sum := "a56dcbf6121ed8af2e570b359080a945d641eb74b1296b9aa5b3c3582b248536", checked := Try.checked }
namespace Rows
def none {H : Type} : Left H := { results := [], args := [] }

/-- 'laws.FnCableBack': WHATEVER THE INPUT: true; the input reads as it did. -/
def fnCableBackSpec : ChangeSpec := { name := "fnCableBack", fn := fun _ => fun
  | [d] => { results := [.lit (.bool true)], args := [d] }
  | _ => none }
def fnCableBackRow : OpenClaim := { program := "ytglknakgfnoeaaa", sum := "a56dcbf6121ed8af2e570b359080a945d641eb74b1296b9aa5b3c3582b248536", func := "loop.example/cableship/laws.FnCableBack", spec := "fnCableBack", apart := false }
def FnCableBackSaid : Prop := fnCableBackRow.holds Try.pinned (OpenSpec.ofChange fnCableBackSpec)

/-- ITS FALSE NEIGHBOUR: 'it returns false'. Refute it at one input. -/
def fnCableBackWrong : ChangeSpec := { name := "fnCableBack", fn := fun _ => fun
  | [d] => { results := [.lit (.bool false)], args := [d] }
  | _ => none }
def FnCableBackWrongFalsely : Prop := fnCableBackRow.holds Try.pinned (OpenSpec.ofChange fnCableBackWrong)

/-- 'laws.FnMiles': WHATEVER THE INPUT: true; the input reads as it did. -/
def fnMilesSpec : ChangeSpec := { name := "fnMiles", fn := fun _ => fun
  | [d] => { results := [.lit (.bool true)], args := [d] }
  | _ => none }
def fnMilesRow : OpenClaim := { program := "ytglknakgfnoeaaa", sum := "a56dcbf6121ed8af2e570b359080a945d641eb74b1296b9aa5b3c3582b248536", func := "loop.example/cableship/laws.FnMiles", spec := "fnMiles", unfollowed := true, recurses := true, apart := false }
def FnMilesSaid : Prop := fnMilesRow.holds Try.pinned (OpenSpec.ofChange fnMilesSpec)

/-- ITS FALSE NEIGHBOUR: 'it returns false'. Refute it at one input. -/
def fnMilesWrong : ChangeSpec := { name := "fnMiles", fn := fun _ => fun
  | [d] => { results := [.lit (.bool false)], args := [d] }
  | _ => none }
def FnMilesWrongFalsely : Prop := fnMilesRow.holds Try.pinned (OpenSpec.ofChange fnMilesWrong)

/-- 'laws.FnPlain': WHATEVER THE INPUT: true; the input reads as it did. -/
def fnPlainSpec : ChangeSpec := { name := "fnPlain", fn := fun _ => fun
  | [d] => { results := [.lit (.bool true)], args := [d] }
  | _ => none }
def fnPlainRow : OpenClaim := { program := "ytglknakgfnoeaaa", sum := "a56dcbf6121ed8af2e570b359080a945d641eb74b1296b9aa5b3c3582b248536", func := "loop.example/cableship/laws.FnPlain", spec := "fnPlain", unfollowed := true, recurses := true, apart := false }
def FnPlainSaid : Prop := fnPlainRow.holds Try.pinned (OpenSpec.ofChange fnPlainSpec)

/-- ITS FALSE NEIGHBOUR: 'it returns false'. Refute it at one input. -/
def fnPlainWrong : ChangeSpec := { name := "fnPlain", fn := fun _ => fun
  | [d] => { results := [.lit (.bool false)], args := [d] }
  | _ => none }
def FnPlainWrongFalsely : Prop := fnPlainRow.holds Try.pinned (OpenSpec.ofChange fnPlainWrong)

/-- 'laws.FnFaultBack': WHATEVER THE INPUT: true; the input reads as it did. -/
def fnFaultBackSpec : ChangeSpec := { name := "fnFaultBack", fn := fun _ => fun
  | [d] => { results := [.lit (.bool true)], args := [d] }
  | _ => none }
def fnFaultBackRow : OpenClaim := { program := "ytglknakgfnoeaaa", sum := "a56dcbf6121ed8af2e570b359080a945d641eb74b1296b9aa5b3c3582b248536", func := "loop.example/cableship/laws.FnFaultBack", spec := "fnFaultBack", unfollowed := true, recurses := true, apart := false }
def FnFaultBackSaid : Prop := fnFaultBackRow.holds Try.pinned (OpenSpec.ofChange fnFaultBackSpec)

/-- ITS FALSE NEIGHBOUR: 'it returns false'. Refute it at one input. -/
def fnFaultBackWrong : ChangeSpec := { name := "fnFaultBack", fn := fun _ => fun
  | [d] => { results := [.lit (.bool false)], args := [d] }
  | _ => none }
def FnFaultBackWrongFalsely : Prop := fnFaultBackRow.holds Try.pinned (OpenSpec.ofChange fnFaultBackWrong)

/-- 'laws.FnWhere': WHATEVER THE INPUT: true; the input reads as it did. -/
def fnWhereSpec : ChangeSpec := { name := "fnWhere", fn := fun _ => fun
  | [d] => { results := [.lit (.bool true)], args := [d] }
  | _ => none }
def fnWhereRow : OpenClaim := { program := "ytglknakgfnoeaaa", sum := "a56dcbf6121ed8af2e570b359080a945d641eb74b1296b9aa5b3c3582b248536", func := "loop.example/cableship/laws.FnWhere", spec := "fnWhere", unfollowed := true, recurses := true, apart := false }
def FnWhereSaid : Prop := fnWhereRow.holds Try.pinned (OpenSpec.ofChange fnWhereSpec)

/-- ITS FALSE NEIGHBOUR: 'it returns false'. Refute it at one input. -/
def fnWhereWrong : ChangeSpec := { name := "fnWhere", fn := fun _ => fun
  | [d] => { results := [.lit (.bool false)], args := [d] }
  | _ => none }
def FnWhereWrongFalsely : Prop := fnWhereRow.holds Try.pinned (OpenSpec.ofChange fnWhereWrong)

/-- 'laws.FnOhms': WHATEVER THE INPUT: true; the input reads as it did. -/
def fnOhmsSpec : ChangeSpec := { name := "fnOhms", fn := fun _ => fun
  | [d] => { results := [.lit (.bool true)], args := [d] }
  | _ => none }
def fnOhmsRow : OpenClaim := { program := "ytglknakgfnoeaaa", sum := "a56dcbf6121ed8af2e570b359080a945d641eb74b1296b9aa5b3c3582b248536", func := "loop.example/cableship/laws.FnOhms", spec := "fnOhms", unfollowed := true, recurses := true, apart := false }
def FnOhmsSaid : Prop := fnOhmsRow.holds Try.pinned (OpenSpec.ofChange fnOhmsSpec)

/-- ITS FALSE NEIGHBOUR: 'it returns false'. Refute it at one input. -/
def fnOhmsWrong : ChangeSpec := { name := "fnOhms", fn := fun _ => fun
  | [d] => { results := [.lit (.bool false)], args := [d] }
  | _ => none }
def FnOhmsWrongFalsely : Prop := fnOhmsRow.holds Try.pinned (OpenSpec.ofChange fnOhmsWrong)

/-- 'laws.FnAll': WHATEVER THE INPUT: true; the input reads as it did. -/
def fnAllSpec : ChangeSpec := { name := "fnAll", fn := fun _ => fun
  | [d] => { results := [.lit (.bool true)], args := [d] }
  | _ => none }
def fnAllRow : OpenClaim := { program := "ytglknakgfnoeaaa", sum := "a56dcbf6121ed8af2e570b359080a945d641eb74b1296b9aa5b3c3582b248536", func := "loop.example/cableship/laws.FnAll", spec := "fnAll", unfollowed := true, recurses := true, apart := false }
def FnAllSaid : Prop := fnAllRow.holds Try.pinned (OpenSpec.ofChange fnAllSpec)

/-- ITS FALSE NEIGHBOUR: 'it returns false'. Refute it at one input. -/
def fnAllWrong : ChangeSpec := { name := "fnAll", fn := fun _ => fun
  | [d] => { results := [.lit (.bool false)], args := [d] }
  | _ => none }
def FnAllWrongFalsely : Prop := fnAllRow.holds Try.pinned (OpenSpec.ofChange fnAllWrong)

/-- 'laws.FnBreakRange': WHATEVER THE INPUT: true; the input reads as it did. -/
def fnBreakRangeSpec : ChangeSpec := { name := "fnBreakRange", fn := fun _ => fun
  | [d] => { results := [.lit (.bool true)], args := [d] }
  | _ => none }
def fnBreakRangeRow : OpenClaim := { program := "ytglknakgfnoeaaa", sum := "a56dcbf6121ed8af2e570b359080a945d641eb74b1296b9aa5b3c3582b248536", func := "loop.example/cableship/laws.FnBreakRange", spec := "fnBreakRange", unfollowed := true, recurses := true, apart := false }
def FnBreakRangeSaid : Prop := fnBreakRangeRow.holds Try.pinned (OpenSpec.ofChange fnBreakRangeSpec)

/-- ITS FALSE NEIGHBOUR: 'it returns false'. Refute it at one input. -/
def fnBreakRangeWrong : ChangeSpec := { name := "fnBreakRange", fn := fun _ => fun
  | [d] => { results := [.lit (.bool false)], args := [d] }
  | _ => none }
def FnBreakRangeWrongFalsely : Prop := fnBreakRangeRow.holds Try.pinned (OpenSpec.ofChange fnBreakRangeWrong)

/- THE SECOND FORM. 'bulk': how many values and letters a reading holds, each counted each time it is reached (what is shared counts as often as it is met; a slice's spare places count too). A statement '..UptoSaid' is the law's where the arguments, and the package variables that the reading takes, are together of bulk at most 1048576: NARROWER than '..Said'. Prove '..Said' where nothing that the law and all that it calls make is longer than what came in: it says more and counts as full. Else prove '..UptoSaid'. A law counts once. -/
mutual
def uptoBulk {H : Type} : DataW H → Nat
  | .lit (.string bytes) => bytes.length + 1
  | .lit _ => 1
  | .nil => 1
  | .ptr d => uptoBulk d + 1
  | .slice elems spare => uptoBulkAll elems + uptoBulkAll spare + 1
  | .agg parts => uptoBulkAll parts + 1
  | .iface _ d => uptoBulk d + 1
  | .map entries => uptoBulkEntries entries + 1
  | .held _ => 1
def uptoBulkAll {H : Type} : List (DataW H) → Nat
  | [] => 0
  | d :: r => uptoBulk d + uptoBulkAll r
def uptoBulkEntries {H : Type} : List (Lit × DataW H) → Nat
  | [] => 0
  | x :: r => uptoBulkEntry x + uptoBulkEntries r
def uptoBulkEntry {H : Type} : Lit × DataW H → Nat
  | (.string bytes, d) => bytes.length + uptoBulk d + 1
  | (_, d) => uptoBulk d + 1
 end
def uptoSmall : (H : Type) → List (DataW H) → Bool := fun _ ds => decide (uptoBulkAll ds ≤ 1048576)
def OpenSpec.upto (s : _root_.Go.ChangeSpec) : _root_.Go.OpenSpec := { _root_.Go.OpenSpec.ofChange s with cond := some uptoSmall }

/-- 'laws.FnCableBack', WHERE WHAT IT READS IS OF BULK AT MOST 1048576: true; the input reads as it did. -/
def fnCableBackUptoRow : OpenClaim := { program := "ytglknakgfnoeaaa", sum := "a56dcbf6121ed8af2e570b359080a945d641eb74b1296b9aa5b3c3582b248536", func := "loop.example/cableship/laws.FnCableBack", spec := "fnCableBack", apart := false, narrowed := true }
def FnCableBackUptoSaid : Prop := fnCableBackUptoRow.holds Try.pinned (OpenSpec.upto fnCableBackSpec)

/-- 'laws.FnMiles', WHERE WHAT IT READS IS OF BULK AT MOST 1048576: true; the input reads as it did. -/
def fnMilesUptoRow : OpenClaim := { program := "ytglknakgfnoeaaa", sum := "a56dcbf6121ed8af2e570b359080a945d641eb74b1296b9aa5b3c3582b248536", func := "loop.example/cableship/laws.FnMiles", spec := "fnMiles", unfollowed := true, recurses := true, apart := false, narrowed := true }
def FnMilesUptoSaid : Prop := fnMilesUptoRow.holds Try.pinned (OpenSpec.upto fnMilesSpec)

/-- 'laws.FnPlain', WHERE WHAT IT READS IS OF BULK AT MOST 1048576: true; the input reads as it did. -/
def fnPlainUptoRow : OpenClaim := { program := "ytglknakgfnoeaaa", sum := "a56dcbf6121ed8af2e570b359080a945d641eb74b1296b9aa5b3c3582b248536", func := "loop.example/cableship/laws.FnPlain", spec := "fnPlain", unfollowed := true, recurses := true, apart := false, narrowed := true }
def FnPlainUptoSaid : Prop := fnPlainUptoRow.holds Try.pinned (OpenSpec.upto fnPlainSpec)

/-- 'laws.FnFaultBack', WHERE WHAT IT READS IS OF BULK AT MOST 1048576: true; the input reads as it did. -/
def fnFaultBackUptoRow : OpenClaim := { program := "ytglknakgfnoeaaa", sum := "a56dcbf6121ed8af2e570b359080a945d641eb74b1296b9aa5b3c3582b248536", func := "loop.example/cableship/laws.FnFaultBack", spec := "fnFaultBack", unfollowed := true, recurses := true, apart := false, narrowed := true }
def FnFaultBackUptoSaid : Prop := fnFaultBackUptoRow.holds Try.pinned (OpenSpec.upto fnFaultBackSpec)

/-- 'laws.FnWhere', WHERE WHAT IT READS IS OF BULK AT MOST 1048576: true; the input reads as it did. -/
def fnWhereUptoRow : OpenClaim := { program := "ytglknakgfnoeaaa", sum := "a56dcbf6121ed8af2e570b359080a945d641eb74b1296b9aa5b3c3582b248536", func := "loop.example/cableship/laws.FnWhere", spec := "fnWhere", unfollowed := true, recurses := true, apart := false, narrowed := true }
def FnWhereUptoSaid : Prop := fnWhereUptoRow.holds Try.pinned (OpenSpec.upto fnWhereSpec)

/-- 'laws.FnOhms', WHERE WHAT IT READS IS OF BULK AT MOST 1048576: true; the input reads as it did. -/
def fnOhmsUptoRow : OpenClaim := { program := "ytglknakgfnoeaaa", sum := "a56dcbf6121ed8af2e570b359080a945d641eb74b1296b9aa5b3c3582b248536", func := "loop.example/cableship/laws.FnOhms", spec := "fnOhms", unfollowed := true, recurses := true, apart := false, narrowed := true }
def FnOhmsUptoSaid : Prop := fnOhmsUptoRow.holds Try.pinned (OpenSpec.upto fnOhmsSpec)

/-- 'laws.FnAll', WHERE WHAT IT READS IS OF BULK AT MOST 1048576: true; the input reads as it did. -/
def fnAllUptoRow : OpenClaim := { program := "ytglknakgfnoeaaa", sum := "a56dcbf6121ed8af2e570b359080a945d641eb74b1296b9aa5b3c3582b248536", func := "loop.example/cableship/laws.FnAll", spec := "fnAll", unfollowed := true, recurses := true, apart := false, narrowed := true }
def FnAllUptoSaid : Prop := fnAllUptoRow.holds Try.pinned (OpenSpec.upto fnAllSpec)

/-- 'laws.FnBreakRange', WHERE WHAT IT READS IS OF BULK AT MOST 1048576: true; the input reads as it did. -/
def fnBreakRangeUptoRow : OpenClaim := { program := "ytglknakgfnoeaaa", sum := "a56dcbf6121ed8af2e570b359080a945d641eb74b1296b9aa5b3c3582b248536", func := "loop.example/cableship/laws.FnBreakRange", spec := "fnBreakRange", unfollowed := true, recurses := true, apart := false, narrowed := true }
def FnBreakRangeUptoSaid : Prop := fnBreakRangeUptoRow.holds Try.pinned (OpenSpec.upto fnBreakRangeSpec)

end Rows
end Go.Proofs.Ytglknakgfnoeaaa
