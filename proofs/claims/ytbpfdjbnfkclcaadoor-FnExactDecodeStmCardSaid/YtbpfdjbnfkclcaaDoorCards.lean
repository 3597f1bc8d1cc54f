/-
  DERIVED. GIVEN WITH THE SEED: THE CARDS: each row of YtbpfdjbnfkclcaaDoorRows.lean that lists a variable, with what it lists TIED to the program's text (the seventh form; the later family's looks); each row that meets fmt, with fmt's text TOLD by the authors' own Lean function (tested against real Go, not proved from fmt's source: count such statements apart). THE CARD IS WHAT COUNTS. Prove the row's statement (the work); the ties are given (YtbpfdjbnfkclcaaDoorTie.lean); close each card by the builder's one call (the guide's Derived/Test/ToyasCard.lean, 'card_holds'). Laid BY PROGRAM, IN A SANDBOX (cutbox-door.mjs). By AI agents, Wed Nov 11 2026. No macro, syntax, notation, axiom, sorry.
-/
import Derived.Test.YtbpfdjbnfkclcaaDoorRows
import GoSem.ClaimSeven
namespace Go.Proofs.YtbpfdjbnfkclcaaDoor
namespace Rows

/-- THE TIED CARD OF 'laws.FnExactDecodeStm'. -/
def fnExactDecodeStmCard : Claim7 := { stood := { row := fnExactDecodeStmRow, standIns := [], harness := (true, "7a7401fa5a7dd5d6dda83d54ed1c4c634a08f19ea872df16f5115789d14a36d5"), looks := false }, kinds := [], alts := [], laidByText := true, laidKinds := [.mapped], laidTests := true, laidLooks := .later }
def FnExactDecodeStmCardSaid : Prop := Claim7.holds Tryd.pinned (.plain (OpenSpec.ofChange fnExactDecodeStmSpec)) fnExactDecodeStmCard

/-- THE SECOND FORM's CARD OF 'laws.FnExactDecodeStm'. -/
def fnExactDecodeStmUptoCard : Claim7 := { stood := { row := fnExactDecodeStmUptoRow, standIns := [], harness := (true, "7a7401fa5a7dd5d6dda83d54ed1c4c634a08f19ea872df16f5115789d14a36d5"), looks := false }, kinds := [], alts := [], laidByText := true, laidKinds := [.mapped], laidTests := true, laidLooks := .later }
def FnExactDecodeStmUptoCardSaid : Prop := Claim7.holds Tryd.pinned (.plain (OpenSpec.upto fnExactDecodeStmSpec)) fnExactDecodeStmUptoCard
end Rows
end Go.Proofs.YtbpfdjbnfkclcaaDoor
