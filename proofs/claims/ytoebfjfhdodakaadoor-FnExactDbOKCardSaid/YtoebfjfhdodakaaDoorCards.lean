/-
  DERIVED. GIVEN WITH THE SEED: THE CARDS: each row of YtoebfjfhdodakaaDoorRows.lean that lists a variable, with what it lists TIED to the program's text (the seventh form; the later family's looks); each row that meets fmt, with fmt's text TOLD by the authors' own Lean function (tested against real Go, not proved from fmt's source: count such statements apart). THE CARD IS WHAT COUNTS. Prove the row's statement (the work); the ties are given (YtoebfjfhdodakaaDoorTie.lean); close each card by the builder's one call (the guide's Derived/Test/ToyasCard.lean, 'card_holds'). Laid BY PROGRAM, IN A SANDBOX (cutbox-door.mjs). By AI agents, Wed Nov 11 2026. No macro, syntax, notation, axiom, sorry.
-/
import Derived.Test.YtoebfjfhdodakaaDoorRows
import GoSem.ClaimSeven
namespace Go.Proofs.YtoebfjfhdodakaaDoor
namespace Rows

/-- THE TIED CARD OF 'laws.FnExactDbOK'. -/
def fnExactDbOKCard : Claim7 := { stood := { row := fnExactDbOKRow, standIns := [], harness := (true, "aa5aa4e88441e77da679080cf5ea670a42f3eef4f38095bbbfe98b5567f9d8fe"), looks := false }, kinds := [], alts := [], laidByText := true, laidKinds := [.mapped], laidTests := true, laidLooks := .later }
def FnExactDbOKCardSaid : Prop := Claim7.holds Tryd.pinned (.plain (OpenSpec.ofChange fnExactDbOKSpec)) fnExactDbOKCard

/-- THE SECOND FORM's CARD OF 'laws.FnExactDbOK'. -/
def fnExactDbOKUptoCard : Claim7 := { stood := { row := fnExactDbOKUptoRow, standIns := [], harness := (true, "aa5aa4e88441e77da679080cf5ea670a42f3eef4f38095bbbfe98b5567f9d8fe"), looks := false }, kinds := [], alts := [], laidByText := true, laidKinds := [.mapped], laidTests := true, laidLooks := .later }
def FnExactDbOKUptoCardSaid : Prop := Claim7.holds Tryd.pinned (.plain (OpenSpec.upto fnExactDbOKSpec)) fnExactDbOKUptoCard
end Rows
end Go.Proofs.YtoebfjfhdodakaaDoor
