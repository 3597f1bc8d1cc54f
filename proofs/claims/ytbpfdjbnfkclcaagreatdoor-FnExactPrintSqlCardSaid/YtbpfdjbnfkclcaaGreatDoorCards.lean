/-
  DERIVED. GIVEN WITH THE SEED: THE CARDS: each row of YtbpfdjbnfkclcaaGreatDoorRows.lean that lists a variable, with what it lists TIED to the program's text (the seventh form; the later family's looks); each row that meets fmt, with fmt's text TOLD by the authors' own Lean function (tested against real Go, not proved from fmt's source: count such statements apart). THE CARD IS WHAT COUNTS. Prove the row's statement (the work); the ties are given (YtbpfdjbnfkclcaaGreatDoorTie.lean); close each card by the builder's one call (the guide's Derived/Test/ToyasCard.lean, 'card_holds'). Laid BY PROGRAM, IN A SANDBOX (cutbox-door.mjs). By AI agents, Wed Nov 11 2026. No macro, syntax, notation, axiom, sorry.
-/
import Derived.Test.YtbpfdjbnfkclcaaGreatDoorRows
import GoSem.ClaimSeven
namespace Go.Proofs.YtbpfdjbnfkclcaaGreatDoor
namespace Rows

/-- THE TIED CARD OF 'laws.FnExactPrintSql'. -/
def fnExactPrintSqlCard : Claim7 := { stood := { row := fnExactPrintSqlRow, standIns := [], harness := (true, "2408f25ddfeb66c216028a551600e3f1031924ebf7bdeb17bcd0ae6231493635"), looks := false }, kinds := [], alts := [], laidByText := true, laidKinds := [.data, .data, .data, .data, .mapped, .mapped, .pinned], laidTests := true, laidLooks := .later }
def FnExactPrintSqlCardSaid : Prop := Claim7.holds Tryz.pinned (.plain (OpenSpec.ofChange fnExactPrintSqlSpec)) fnExactPrintSqlCard

/-- THE SECOND FORM's CARD OF 'laws.FnExactPrintSql'. -/
def fnExactPrintSqlUptoCard : Claim7 := { stood := { row := fnExactPrintSqlUptoRow, standIns := [], harness := (true, "2408f25ddfeb66c216028a551600e3f1031924ebf7bdeb17bcd0ae6231493635"), looks := false }, kinds := [], alts := [], laidByText := true, laidKinds := [.data, .data, .data, .data, .mapped, .mapped, .pinned], laidTests := true, laidLooks := .later }
def FnExactPrintSqlUptoCardSaid : Prop := Claim7.holds Tryz.pinned (.plain (OpenSpec.upto fnExactPrintSqlSpec)) fnExactPrintSqlUptoCard
end Rows
end Go.Proofs.YtbpfdjbnfkclcaaGreatDoor
