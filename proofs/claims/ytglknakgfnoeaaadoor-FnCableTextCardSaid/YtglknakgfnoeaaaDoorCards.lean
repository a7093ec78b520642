/-
  DERIVED. GIVEN WITH THE SEED: THE CARDS: each row of YtglknakgfnoeaaaDoorRows.lean that lists a variable, with what it lists TIED to the program's text (the seventh form; the later family's looks); each row that meets fmt, with fmt's text TOLD by the authors' own Lean function (tested against real Go, not proved from fmt's source: count such statements apart). THE CARD IS WHAT COUNTS. Prove the row's statement (the work); the ties are given (YtglknakgfnoeaaaDoorTie.lean); close each card by the builder's one call (the guide's Derived/Test/ToyasCard.lean, 'card_holds'). Laid BY PROGRAM, IN A SANDBOX (cutbox-door.mjs). By AI agents, Wed Nov 11 2026. No macro, syntax, notation, axiom, sorry.
-/
import Derived.Test.YtglknakgfnoeaaaDoorRows
import GoSem.ClaimSeven
namespace Go.Proofs.YtglknakgfnoeaaaDoor
namespace Rows

/-- THE TIED CARD OF 'laws.FnCableText'. -/
def fnCableTextCard : Claim7 := { stood := { row := fnCableTextRow, standIns := [], harness := (true, "576971de6f4ef7438c17f85acd574f624b0f2d523a392837e8f40ea059b05738"), looks := false }, kinds := [], alts := [], laidByText := true, laidKinds := [.data, .data, .data], laidTests := true, laidLooks := .later }
def FnCableTextCardSaid : Prop := Claim7.holds Tryd.pinned (.plain (OpenSpec.ofChange fnCableTextSpec)) fnCableTextCard

/-- THE SECOND FORM's CARD OF 'laws.FnCableText'. -/
def fnCableTextUptoCard : Claim7 := { stood := { row := fnCableTextUptoRow, standIns := [], harness := (true, "576971de6f4ef7438c17f85acd574f624b0f2d523a392837e8f40ea059b05738"), looks := false }, kinds := [], alts := [], laidByText := true, laidKinds := [.data, .data, .data], laidTests := true, laidLooks := .later }
def FnCableTextUptoCardSaid : Prop := Claim7.holds Tryd.pinned (.plain (OpenSpec.upto fnCableTextSpec)) fnCableTextUptoCard
end Rows
end Go.Proofs.YtglknakgfnoeaaaDoor
