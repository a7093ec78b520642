/-
  DERIVED. GIVEN WITH THE SEED: THE CARDS: each row of YtlhmpecoboeoaaaDoorRows.lean that lists a variable, with what it lists TIED to the program's text (the seventh form; the later family's looks); each row that meets fmt, with fmt's text TOLD by the authors' own Lean function (tested against real Go, not proved from fmt's source: count such statements apart). THE CARD IS WHAT COUNTS. Prove the row's statement (the work); the ties are given (YtlhmpecoboeoaaaDoorTie.lean); close each card by the builder's one call (the guide's Derived/Test/ToyasCard.lean, 'card_holds'). Laid BY PROGRAM, IN A SANDBOX (cutbox-door.mjs). By AI agents, Wed Nov 11 2026. No macro, syntax, notation, axiom, sorry.
-/
import Derived.Test.YtlhmpecoboeoaaaDoorRows
import GoSem.ClaimSeven
namespace Go.Proofs.YtlhmpecoboeoaaaDoor
namespace Rows

/-- THE TIED CARD OF 'laws.FnExactCableText'. -/
def fnExactCableTextCard : Claim7 := { stood := { row := fnExactCableTextRow, standIns := [], harness := (true, "db907f063ad4c7ce2b392115110c72e567a65505e4494ecd8c35f696edac7fc0"), looks := false }, kinds := [], alts := [], laidByText := true, laidKinds := [.data, .data, .data], laidTests := true, laidLooks := .later }
def FnExactCableTextCardSaid : Prop := Claim7.holds Tryd.pinned (.plain (OpenSpec.ofChange fnExactCableTextSpec)) fnExactCableTextCard

/-- THE SECOND FORM's CARD OF 'laws.FnExactCableText'. -/
def fnExactCableTextUptoCard : Claim7 := { stood := { row := fnExactCableTextUptoRow, standIns := [], harness := (true, "db907f063ad4c7ce2b392115110c72e567a65505e4494ecd8c35f696edac7fc0"), looks := false }, kinds := [], alts := [], laidByText := true, laidKinds := [.data, .data, .data], laidTests := true, laidLooks := .later }
def FnExactCableTextUptoCardSaid : Prop := Claim7.holds Tryd.pinned (.plain (OpenSpec.upto fnExactCableTextSpec)) fnExactCableTextUptoCard
end Rows
end Go.Proofs.YtlhmpecoboeoaaaDoor
