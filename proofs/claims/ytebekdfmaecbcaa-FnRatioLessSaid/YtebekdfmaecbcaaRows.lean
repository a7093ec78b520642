/-
  No cell of these rows narrows 'for every input' (looked for: loops, veiled, ifaces, maps, wideKeys, modest, calm, conditions, laid).
  DERIVED. THE GIVEN ROWS OF THIS SEAT. 7 by the template 'for every input the law returns true; each argument reads behind the call as it read before'; 0 by the template 'total and deterministic' (their statements: YtebekdfmaecbcaaTotals.lean).
  GIVEN WITH THE SEED: the statements are not yours to turn. If you find one false, say at which input.
  Laid BY PROGRAM, IN A SANDBOX (cutbox-rows.mjs): the forced cells as the released guide's own fill.sh prints them over the translation 9670df4fafab9cf4… (all of the seat's roots in one cut). By AI agents, Wed Nov 11 2026. No macro, syntax, notation, axiom, sorry.
-/
import Derived.Test.YtebekdfmaecbcaaChecked
import GoSem.Claim
import GoSem.ClaimJoined
import GoSem.ClaimMapViews
import Derived.JoinedTies
import Derived.KernelRfl
namespace Go.Proofs.Ytebekdfmaecbcaa
/- THE CELL 'sum', in the pinned program and in every row, IS THE sha256 OF THE DUMP (.gsa) THAT YtebekdfmaecbcaaProg.lean LOADS. Nothing in Lean hashes anything: it is a label: what it is worth is what the hold of that sum in a sandbox is worth. -/
noncomputable def Try.pinned : Pinned := { name := "ytebekdfmaecbcaa", sum := "9670df4fafab9cf4074fbcc87b82e124afd2cae596640c1fcf43859fee165e98", checked := Try.checked }
namespace Rows
def none {H : Type} : Left H := { results := [], args := [] }

/-- 'laws.FnExactConstants': WHATEVER THE INPUT: true; the input reads as it did. -/
def fnExactConstantsSpec : ChangeSpec := { name := "fnExactConstants", fn := fun _ => fun
  | [] => { results := [.lit (.bool true)], args := [] }
  | _ => none }
def fnExactConstantsRow : OpenClaim := { program := "ytebekdfmaecbcaa", sum := "9670df4fafab9cf4074fbcc87b82e124afd2cae596640c1fcf43859fee165e98", func := "loop.example/cableship/laws.FnExactConstants", spec := "fnExactConstants", apart := false }
def FnExactConstantsSaid : Prop := fnExactConstantsRow.holds Try.pinned (OpenSpec.ofChange fnExactConstantsSpec)

/-- ITS FALSE NEIGHBOUR: 'it returns false'. Refute it at one input. -/
def fnExactConstantsWrong : ChangeSpec := { name := "fnExactConstants", fn := fun _ => fun
  | [] => { results := [.lit (.bool false)], args := [] }
  | _ => none }
def FnExactConstantsWrongFalsely : Prop := fnExactConstantsRow.holds Try.pinned (OpenSpec.ofChange fnExactConstantsWrong)

/-- 'laws.FnExactRatioLess': WHATEVER THE INPUT: true; the input reads as it did. -/
def fnExactRatioLessSpec : ChangeSpec := { name := "fnExactRatioLess", fn := fun _ => fun
  | [d1, d2] => { results := [.lit (.bool true)], args := [d1, d2] }
  | _ => none }
def fnExactRatioLessRow : OpenClaim := { program := "ytebekdfmaecbcaa", sum := "9670df4fafab9cf4074fbcc87b82e124afd2cae596640c1fcf43859fee165e98", func := "loop.example/cableship/laws.FnExactRatioLess", spec := "fnExactRatioLess", apart := false }
def FnExactRatioLessSaid : Prop := fnExactRatioLessRow.holds Try.pinned (OpenSpec.ofChange fnExactRatioLessSpec)

/-- ITS FALSE NEIGHBOUR: 'it returns false'. Refute it at one input. -/
def fnExactRatioLessWrong : ChangeSpec := { name := "fnExactRatioLess", fn := fun _ => fun
  | [d1, d2] => { results := [.lit (.bool false)], args := [d1, d2] }
  | _ => none }
def FnExactRatioLessWrongFalsely : Prop := fnExactRatioLessRow.holds Try.pinned (OpenSpec.ofChange fnExactRatioLessWrong)

/-- 'laws.FnExactRatioOf': WHATEVER THE INPUT: true; the input reads as it did. -/
def fnExactRatioOfSpec : ChangeSpec := { name := "fnExactRatioOf", fn := fun _ => fun
  | [d1, d2] => { results := [.lit (.bool true)], args := [d1, d2] }
  | _ => none }
def fnExactRatioOfRow : OpenClaim := { program := "ytebekdfmaecbcaa", sum := "9670df4fafab9cf4074fbcc87b82e124afd2cae596640c1fcf43859fee165e98", func := "loop.example/cableship/laws.FnExactRatioOf", spec := "fnExactRatioOf", apart := false }
def FnExactRatioOfSaid : Prop := fnExactRatioOfRow.holds Try.pinned (OpenSpec.ofChange fnExactRatioOfSpec)

/-- ITS FALSE NEIGHBOUR: 'it returns false'. Refute it at one input. -/
def fnExactRatioOfWrong : ChangeSpec := { name := "fnExactRatioOf", fn := fun _ => fun
  | [d1, d2] => { results := [.lit (.bool false)], args := [d1, d2] }
  | _ => none }
def FnExactRatioOfWrongFalsely : Prop := fnExactRatioOfRow.holds Try.pinned (OpenSpec.ofChange fnExactRatioOfWrong)

/-- 'laws.FnRatioLess': WHATEVER THE INPUT: true; the input reads as it did. -/
def fnRatioLessSpec : ChangeSpec := { name := "fnRatioLess", fn := fun _ => fun
  | [d] => { results := [.lit (.bool true)], args := [d] }
  | _ => none }
def fnRatioLessRow : OpenClaim := { program := "ytebekdfmaecbcaa", sum := "9670df4fafab9cf4074fbcc87b82e124afd2cae596640c1fcf43859fee165e98", func := "loop.example/cableship/laws.FnRatioLess", spec := "fnRatioLess", apart := false }
def FnRatioLessSaid : Prop := fnRatioLessRow.holds Try.pinned (OpenSpec.ofChange fnRatioLessSpec)

/-- ITS FALSE NEIGHBOUR: 'it returns false'. Refute it at one input. -/
def fnRatioLessWrong : ChangeSpec := { name := "fnRatioLess", fn := fun _ => fun
  | [d] => { results := [.lit (.bool false)], args := [d] }
  | _ => none }
def FnRatioLessWrongFalsely : Prop := fnRatioLessRow.holds Try.pinned (OpenSpec.ofChange fnRatioLessWrong)

/-- 'laws.FnExactFloorValid': WHATEVER THE INPUT: true; the input reads as it did. -/
def fnExactFloorValidSpec : ChangeSpec := { name := "fnExactFloorValid", fn := fun _ => fun
  | [d] => { results := [.lit (.bool true)], args := [d] }
  | _ => none }
def fnExactFloorValidRow : OpenClaim := { program := "ytebekdfmaecbcaa", sum := "9670df4fafab9cf4074fbcc87b82e124afd2cae596640c1fcf43859fee165e98", func := "loop.example/cableship/laws.FnExactFloorValid", spec := "fnExactFloorValid", unfollowed := true, recurses := true, apart := false }
def FnExactFloorValidSaid : Prop := fnExactFloorValidRow.holds Try.pinned (OpenSpec.ofChange fnExactFloorValidSpec)

/-- ITS FALSE NEIGHBOUR: 'it returns false'. Refute it at one input. -/
def fnExactFloorValidWrong : ChangeSpec := { name := "fnExactFloorValid", fn := fun _ => fun
  | [d] => { results := [.lit (.bool false)], args := [d] }
  | _ => none }
def FnExactFloorValidWrongFalsely : Prop := fnExactFloorValidRow.holds Try.pinned (OpenSpec.ofChange fnExactFloorValidWrong)

/-- 'laws.FnRatio': WHATEVER THE INPUT: true; the input reads as it did. -/
def fnRatioSpec : ChangeSpec := { name := "fnRatio", fn := fun _ => fun
  | [d] => { results := [.lit (.bool true)], args := [d] }
  | _ => none }
def fnRatioRow : OpenClaim := { program := "ytebekdfmaecbcaa", sum := "9670df4fafab9cf4074fbcc87b82e124afd2cae596640c1fcf43859fee165e98", func := "loop.example/cableship/laws.FnRatio", spec := "fnRatio", apart := false }
def FnRatioSaid : Prop := fnRatioRow.holds Try.pinned (OpenSpec.ofChange fnRatioSpec)

/-- ITS FALSE NEIGHBOUR: 'it returns false'. Refute it at one input. -/
def fnRatioWrong : ChangeSpec := { name := "fnRatio", fn := fun _ => fun
  | [d] => { results := [.lit (.bool false)], args := [d] }
  | _ => none }
def FnRatioWrongFalsely : Prop := fnRatioRow.holds Try.pinned (OpenSpec.ofChange fnRatioWrong)

/-- 'laws.FnExactPayValid': WHATEVER THE INPUT: true; the input reads as it did. -/
def fnExactPayValidSpec : ChangeSpec := { name := "fnExactPayValid", fn := fun _ => fun
  | [d1, d2] => { results := [.lit (.bool true)], args := [d1, d2] }
  | _ => none }
def fnExactPayValidRow : OpenClaim := { program := "ytebekdfmaecbcaa", sum := "9670df4fafab9cf4074fbcc87b82e124afd2cae596640c1fcf43859fee165e98", func := "loop.example/cableship/laws.FnExactPayValid", spec := "fnExactPayValid", unfollowed := true, recurses := true, apart := false }
def FnExactPayValidSaid : Prop := fnExactPayValidRow.holds Try.pinned (OpenSpec.ofChange fnExactPayValidSpec)

/-- ITS FALSE NEIGHBOUR: 'it returns false'. Refute it at one input. -/
def fnExactPayValidWrong : ChangeSpec := { name := "fnExactPayValid", fn := fun _ => fun
  | [d1, d2] => { results := [.lit (.bool false)], args := [d1, d2] }
  | _ => none }
def FnExactPayValidWrongFalsely : Prop := fnExactPayValidRow.holds Try.pinned (OpenSpec.ofChange fnExactPayValidWrong)

/- THE SECOND FORM. 'bulk': how many values and letters a reading holds, each counted each time it is reached (what is shared counts as often as it is met; a slice's spare places count too). A statement '..UptoSaid' is the law's where the arguments, and the package variables that the reading takes, are together of bulk at most 1048576: NARROWER than '..Said'. Prove '..Said' where nothing that the law and all that it calls make is longer than what came in: it says more and counts as full. Else prove '..UptoSaid'. A law counts once. -/
mutual
def uptoBulk {H : Type} : DataW H → Nat
  | .lit (.string bytes) => bytes.length + 1
  | .lit _ => 1
  | .nil => 1
  | .ptr d => uptoBulk d + 1
  | .slice elems spare => uptoBulkAll elems + uptoBulkAll spare + 1
  | .agg parts => uptoBulkAll parts + 1
  | .iface _ d => uptoBulk d + 1
  | .map entries => uptoBulkEntries entries + 1
  | .held _ => 1
def uptoBulkAll {H : Type} : List (DataW H) → Nat
  | [] => 0
  | d :: r => uptoBulk d + uptoBulkAll r
def uptoBulkEntries {H : Type} : List (Lit × DataW H) → Nat
  | [] => 0
  | x :: r => uptoBulkEntry x + uptoBulkEntries r
def uptoBulkEntry {H : Type} : Lit × DataW H → Nat
  | (.string bytes, d) => bytes.length + uptoBulk d + 1
  | (_, d) => uptoBulk d + 1
 end
def uptoSmall : (H : Type) → List (DataW H) → Bool := fun _ ds => decide (uptoBulkAll ds ≤ 1048576)
def OpenSpec.upto (s : _root_.Go.ChangeSpec) : _root_.Go.OpenSpec := { _root_.Go.OpenSpec.ofChange s with cond := some uptoSmall }

/-- 'laws.FnExactConstants', WHERE WHAT IT READS IS OF BULK AT MOST 1048576: true; the input reads as it did. -/
def fnExactConstantsUptoRow : OpenClaim := { program := "ytebekdfmaecbcaa", sum := "9670df4fafab9cf4074fbcc87b82e124afd2cae596640c1fcf43859fee165e98", func := "loop.example/cableship/laws.FnExactConstants", spec := "fnExactConstants", apart := false, narrowed := true }
def FnExactConstantsUptoSaid : Prop := fnExactConstantsUptoRow.holds Try.pinned (OpenSpec.upto fnExactConstantsSpec)

/-- 'laws.FnExactRatioLess', WHERE WHAT IT READS IS OF BULK AT MOST 1048576: true; the input reads as it did. -/
def fnExactRatioLessUptoRow : OpenClaim := { program := "ytebekdfmaecbcaa", sum := "9670df4fafab9cf4074fbcc87b82e124afd2cae596640c1fcf43859fee165e98", func := "loop.example/cableship/laws.FnExactRatioLess", spec := "fnExactRatioLess", apart := false, narrowed := true }
def FnExactRatioLessUptoSaid : Prop := fnExactRatioLessUptoRow.holds Try.pinned (OpenSpec.upto fnExactRatioLessSpec)

/-- 'laws.FnExactRatioOf', WHERE WHAT IT READS IS OF BULK AT MOST 1048576: true; the input reads as it did. -/
def fnExactRatioOfUptoRow : OpenClaim := { program := "ytebekdfmaecbcaa", sum := "9670df4fafab9cf4074fbcc87b82e124afd2cae596640c1fcf43859fee165e98", func := "loop.example/cableship/laws.FnExactRatioOf", spec := "fnExactRatioOf", apart := false, narrowed := true }
def FnExactRatioOfUptoSaid : Prop := fnExactRatioOfUptoRow.holds Try.pinned (OpenSpec.upto fnExactRatioOfSpec)

/-- 'laws.FnRatioLess', WHERE WHAT IT READS IS OF BULK AT MOST 1048576: true; the input reads as it did. -/
def fnRatioLessUptoRow : OpenClaim := { program := "ytebekdfmaecbcaa", sum := "9670df4fafab9cf4074fbcc87b82e124afd2cae596640c1fcf43859fee165e98", func := "loop.example/cableship/laws.FnRatioLess", spec := "fnRatioLess", apart := false, narrowed := true }
def FnRatioLessUptoSaid : Prop := fnRatioLessUptoRow.holds Try.pinned (OpenSpec.upto fnRatioLessSpec)

/-- 'laws.FnExactFloorValid', WHERE WHAT IT READS IS OF BULK AT MOST 1048576: true; the input reads as it did. -/
def fnExactFloorValidUptoRow : OpenClaim := { program := "ytebekdfmaecbcaa", sum := "9670df4fafab9cf4074fbcc87b82e124afd2cae596640c1fcf43859fee165e98", func := "loop.example/cableship/laws.FnExactFloorValid", spec := "fnExactFloorValid", unfollowed := true, recurses := true, apart := false, narrowed := true }
def FnExactFloorValidUptoSaid : Prop := fnExactFloorValidUptoRow.holds Try.pinned (OpenSpec.upto fnExactFloorValidSpec)

/-- 'laws.FnRatio', WHERE WHAT IT READS IS OF BULK AT MOST 1048576: true; the input reads as it did. -/
def fnRatioUptoRow : OpenClaim := { program := "ytebekdfmaecbcaa", sum := "9670df4fafab9cf4074fbcc87b82e124afd2cae596640c1fcf43859fee165e98", func := "loop.example/cableship/laws.FnRatio", spec := "fnRatio", apart := false, narrowed := true }
def FnRatioUptoSaid : Prop := fnRatioUptoRow.holds Try.pinned (OpenSpec.upto fnRatioSpec)

/-- 'laws.FnExactPayValid', WHERE WHAT IT READS IS OF BULK AT MOST 1048576: true; the input reads as it did. -/
def fnExactPayValidUptoRow : OpenClaim := { program := "ytebekdfmaecbcaa", sum := "9670df4fafab9cf4074fbcc87b82e124afd2cae596640c1fcf43859fee165e98", func := "loop.example/cableship/laws.FnExactPayValid", spec := "fnExactPayValid", unfollowed := true, recurses := true, apart := false, narrowed := true }
def FnExactPayValidUptoSaid : Prop := fnExactPayValidUptoRow.holds Try.pinned (OpenSpec.upto fnExactPayValidSpec)

end Rows
end Go.Proofs.Ytebekdfmaecbcaa
